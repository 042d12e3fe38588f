/- The words, and the contracts of the functions that are reached, one behind the other. -/
import Derived.Deep.MidRow
import Derived.Deep.CutBlock
import Derived.Deep.DeepCutAuto
import Derived.SizedLaws
import Derived.ChangeSlices
import Derived.Test.YtgmkbcoahilkhaaGreatSKE
set_option linter.unusedVariables false
set_option linter.unusedSimpArgs false
section
namespace Go.Proofs.YtgmkbcoahilkhaaGreat.Sh
open Go.RowKit MapFn Disk Page Num Bitset
set_option maxRecDepth 100000
structure Crashed (D E : DiskSt) : Prop where
  up : E.down = false
  never : E.fails = -1
  blocks : E.blocks = D.blocks
  loose : ∀ n, E.loose n = none
  keep : ∀ n, D.loose n = none → E.get n = D.get n
  torn : ∀ n x, D.loose n = some x → ∃ k : Nat, E.get n = x.take k ++ ((D.safe n).getD zeros).drop k
theorem tear_getD (a b : List Int) {k : Nat} (hk : k ≤ a.length) (i : Nat) : (a.take k ++ b.drop k).getD i 0 = if i < k then a.getD i 0 else b.getD i 0 := by
  have hl : (a.take k).length = k := by rw [List.length_take]; omega
  rw [List.getD_eq_getElem?_getD, List.getElem?_append, hl]
  by_cases c : i < k
  · rw [if_pos c, if_pos c, List.getElem?_take_of_lt c, List.getD_eq_getElem?_getD]
  · rw [if_neg c, if_neg c, List.getElem?_drop, show k + (i - k) = i by omega, List.getD_eq_getElem?_getD]
theorem list_getD_ext {a b : List Int} (hl : a.length = b.length) (h : ∀ i, i < a.length → a.getD i 0 = b.getD i 0) : a = b := by
  refine List.ext_getElem hl fun i h1 h2 => ?_
  have := h i h1
  rw [getD_lt h1, getD_lt h2] at this
  exact this
theorem Other.tear {E : Int} {x : List Int} (h : Other E x) {r : Root} (hr : r.check = 0) (he : r.epoch = E + 1) (k : Nat) : r.bytes.take k ++ x.drop k = r.bytes ∨ Other E (r.bytes.take k ++ x.drop k) := by
  obtain ⟨hx, y, a, b, h⟩ := h
  have hb := bytes_len hr
  rcases Nat.lt_or_ge k 256 with hk | hk
  rotate_left
  · left
    rw [List.take_of_length_le (by omega), List.drop_eq_nil_of_le (by omega), List.append_nil]
  have hg := fun i => tear_getD r.bytes x (k := k) (by omega) i
  have hl : (r.bytes.take k ++ x.drop k).length = 256 := by rw [List.length_append, List.length_take, List.length_drop]; omega
  generalize r.bytes.take k ++ x.drop k = T at hg hl ⊢
  have hlow : ∀ i, i < 6 → r.bytes.getD (4 + i) 0 = (putN 6 (E + 1)).getD i 0 := fun i hi => by rw [root_low hi, he]
  have hhigh : ∀ i, r.bytes.getD (250 + i) 0 = (putN 6 (E + 1)).getD i 0 := fun i => by rw [root_high hr, he]
  right
  refine ⟨hl, y, max a (k - 4), max b (k - 250), h.base, by have := h.b5; omega, fun q => ?_, fun i hi => ?_, fun i hi => ?_, fun q => ?_⟩
  · by_cases c : 0 < b
    · have := h.ab c
      omega
    · omega
  · rw [hg]
    by_cases c : 4 + i < k
    · rw [if_pos c, if_pos (by omega), hlow i hi]
    · rw [if_neg c, h.low i hi]
      by_cases d : i < a
      · rw [if_pos d, if_pos (by omega)]
      · rw [if_neg d, if_neg (by omega)]
  · rw [hg]
    by_cases c : 250 + i < k
    · rw [if_pos c, if_pos (by omega), hhigh i]
    · rw [if_neg c, h.high i hi]
      by_cases d : i < b
      · rw [if_pos d, if_pos (by omega)]
      · rw [if_neg d, if_neg (by omega)]
  · have hk10 : k < 10 := by
      refine Decidable.byContradiction fun c => ?_
      have h1 := q 5 (by omega)
      rw [hg, if_pos (by omega), hlow 5 (by omega), h.base.ends (by omega)] at h1
      exact h.base.last h1.symm
    have hxy : ∀ i, i < 6 → x.getD (4 + i) 0 = y.getD (4 + i) 0 := fun i hi => by
      have h1 := q i hi
      rw [hg] at h1
      by_cases c : 4 + i < k
      · rw [if_pos c, hlow i hi] at h1
        rw [h.low i hi]
        split
        · exact h1
        · rfl
      · rw [if_neg c] at h1
        exact h1
    have hs := h.same hxy
    rw [← hs]
    refine list_getD_ext (by rw [List.length_drop, List.length_drop, hl, hx]) fun i hi => ?_
    rw [getD_drop, getD_drop, hg]
    split
    · rename_i c
      have h1 := q i (by omega)
      rw [hg, if_pos c, ← hxy i (by omega)] at h1
      exact h1
    · rfl
theorem Sure.crash {N : Int} {D E : DiskSt} {r : Root} {t : List Int} (h : Sure N D r t) (c : Crashed D E) : Sure N E r t ∧ ∀ n, Dur r t n → E.get n = D.get n := by
  have hk : ∀ n, Dur r t n → E.get n = D.get n := fun n hn => c.keep n (Decidable.byContradiction fun q => h.loose n q hn)
  exact ⟨⟨c.blocks.trans h.blocks, h.fit, h.hold.same hk, fun n hn => absurd (c.loose n) hn⟩, hk⟩
theorem late_crash {N : Int} {D E : DiskSt} {r : Root} {t t' : List Int} {start : Int} (h : Late N D r t start t') (c : Crashed D E) :
    (Sure N E r t ∧ ∀ i, t.getD i 0 ≠ 0 → E.get (t.getD i 0) = D.get (t.getD i 0)) ∨ ∃ r' : Root, r'.start = start ∧ Sure N E r' t' ∧ ∀ i, t'.getD i 0 ≠ 0 → E.get (t'.getD i 0) = D.get (t'.getD i 0) := by
  rcases h with h | ⟨r', hst, h | h⟩
  · obtain ⟨h1, h2⟩ := h.crash c
    exact .inl ⟨h1, fun i hi => h2 _ (.inr (.inr (.inr (.inr (mem_getD hi).1))))⟩
  · obtain ⟨h1, h2⟩ := h.crash c
    exact .inr ⟨r', hst, h1, fun i hi => h2 _ (.inr (.inr (.inr (.inr (mem_getD hi).1))))⟩
  · obtain ⟨k, hk⟩ := c.torn _ _ h.slot
    have hslot : r'.epoch % 2 = 1 - r.epoch % 2 := by have := h.epoch; omega
    have hgo : ∀ n, n ≠ r'.epoch % 2 → E.get n = (D.safe n).getD zeros := fun n hn => (c.keep n (h.loose n hn)).trans (get_safe (h.loose n hn))
    have hgd : ∀ n, n ≠ r'.epoch % 2 → E.get n = D.get n := fun n hn => c.keep n (h.loose n hn)
    have hpage : ∀ {q : Root} {u : List Int}, Fit N q u → ∀ i, u.getD i 0 ≠ 0 → u.getD i 0 ≠ r'.epoch % 2 := fun hf i hi e => by
      rcases hf.ent _ (mem_getD hi).1 with z | z
      · exact hi z
      · omega
    have hoth : Other r.epoch ((D.safe (r'.epoch % 2)).getD zeros) := by
      have := h.old.other
      rw [← hslot] at this
      exact this
    rcases hoth.tear h.fit'.check h.epoch k with e | e
    · refine .inr ⟨r', hst, ⟨c.blocks.trans h.blocks, h.fit', ?_, fun n hn => absurd (c.loose n) hn⟩, fun i hi => hgd _ (hpage h.fit' i hi)⟩
      have : E.get = D.get := by
        funext n
        by_cases q : n = r'.epoch % 2
        · rw [q, hk, e, h.new.crown]
        · exact hgd n q
      rw [this]
      exact h.new
    · refine .inl ⟨⟨c.blocks.trans h.blocks, h.fit, ?_, fun n hn => absurd (c.loose n) hn⟩, fun i hi => hgd _ (hpage h.fit i hi)⟩
      have hd : ∀ n, n ≠ 1 - r.epoch % 2 → E.get n = (D.safe n).getD zeros := fun n hn => hgo n (by rw [hslot]; exact hn)
      have heach := h.fit.each
      have ho := h.old
      refine ⟨(hd _ (by omega)).trans ho.crown, ?_, ho.tabs.same fun n hn => hd n (by have := heach n (List.mem_append.2 (.inl hn)); omega), ho.maps.same fun n hn => hd n (by have := heach n (List.mem_append.2 (.inr hn)); omega), fun i hi => ?_⟩
      · rw [← hslot, hk]
        exact e
      · obtain ⟨kd, b, q1, q2, q3⟩ := ho.page i hi
        exact ⟨kd, b, q1, q2, (hgo _ (hpage h.fit i hi)).trans q3⟩
structure CrashF (l : List Int) (D E : DiskSt) : Prop where
  blocks : E.blocks = D.blocks
  safe : E.safe = D.safe
  keep : ∀ n, ¬ n ∈ l → E.loose n = D.loose n
  torn : ∀ n ∈ l, ∀ x, D.loose n = some x → ∃ k : Nat, E.loose n = some (x.take k ++ ((D.safe n).getD zeros).drop k)
theorem crashF_spec : ∀ (l f : List Int) (D : DiskSt), l.Nodup → (∀ j x, D.safe j = some x ∨ D.loose j = some x → x.length = 256) → CrashF l D (crashF l f D)
  | [], f, D, _, _ => ⟨rfl, rfl, fun _ _ => rfl, fun n hn => (by cases hn)⟩
  | n :: ns, f, D, hn, hl => by
    obtain ⟨hn1, hn2⟩ := List.nodup_cons.1 hn
    have hstep : ∀ (k : Nat) (f' : List Int) (y : List Int), (∀ x, D.loose n = some x → y = x.take k ++ ((D.safe n).getD zeros).drop k) → y.length = 256 → CrashF (n :: ns) D (crashF ns f' (D.wrote n y)) := by
      intro k f' y hy hyl
      obtain ⟨w1, w2, w3⟩ := wrote_get D n y
      have ih := crashF_spec ns f' (D.wrote n y) hn2 (fun j x hj => by
        rcases hj with hj | hj
        · exact hl j x (.inl hj)
        · by_cases c : j = n
          · rw [c, w2] at hj
            rw [← Option.some.inj hj]
            exact hyl
          · rw [w3 j c] at hj
            exact hl j x (.inr hj))
      refine ⟨ih.blocks, ih.safe, fun m hm => ?_, fun m hm x hx => ?_⟩
      · have h1 : m ≠ n := fun e => hm (by rw [e]; exact List.mem_cons_self)
        rw [ih.keep m (fun q => hm (List.mem_cons_of_mem _ q)), w3 m h1]
      · by_cases c : m = n
        · rw [c] at hx ⊢
          exact ⟨k, by rw [ih.keep n hn1, w2, hy x hx]⟩
        · rcases List.mem_cons.1 hm with q | q
          · exact absurd q c
          · obtain ⟨k', e⟩ := ih.torn m q x (by rw [w3 m c]; exact hx)
            exact ⟨k', e⟩
    rw [crashF]
    split
    · exact hstep 0 _ _ (fun x _ => by simp) (old_len hl n)
    · split
      · exact hstep (f.tail.headD 0).toNat _ _ (fun x hx => by unfold DiskSt.torn; rw [hx]; rfl) (torn_len hl n _)
      · have ih := crashF_spec ns f.tail D hn2 hl
        refine ⟨ih.blocks, ih.safe, fun m hm => ih.keep m fun q => hm (List.mem_cons_of_mem _ q), fun m hm x hx => ?_⟩
        rcases List.mem_cons.1 hm with q | q
        · rw [q] at hx ⊢
          exact ⟨256, by rw [ih.keep n hn1, hx, List.take_of_length_le (by rw [hl n x (.inr hx)]; omega), List.drop_eq_nil_of_le (by rw [old_len hl]; omega), List.append_nil]⟩
        · exact ih.torn m q x hx
theorem crash_crashed {D : DiskSt} (f : List Int) (hd : ∀ k, (D.loose k).isSome = true → 0 ≤ k ∧ k < D.blocks) (hl : ∀ j x, D.safe j = some x ∨ D.loose j = some x → x.length = 256) : Crashed D (D.crash f) := by
  have hn : (looseL D).Nodup := (looseL_lt D).imp fun q => by omega
  have h := crashF_spec (looseL D) f D hn hl
  generalize hE : crashF (looseL D) f D = E at h
  have hg : ∀ n, (D.crash f).get n = E.get n := fun n => by
    unfold DiskSt.crash
    rw [hE]
    exact settled_get E n
  refine ⟨rfl, rfl, ?_, fun n => rfl, fun n hn => ?_, fun n x hx => ?_⟩
  · unfold DiskSt.crash
    rw [hE]
    exact h.blocks
  · rw [hg]
    have : ¬ n ∈ looseL D := fun q => by
      have := (looseL_mem hd n).1 q
      rw [hn] at this
      cases this
    unfold DiskSt.get
    rw [h.keep n this, h.safe]
  · have : n ∈ looseL D := (looseL_mem hd n).2 (by rw [hx]; rfl)
    obtain ⟨k, e⟩ := h.torn n this x hx
    refine ⟨k, ?_⟩
    rw [hg]
    unfold DiskSt.get
    rw [e]
    rfl
end Go.Proofs.YtgmkbcoahilkhaaGreat.Sh
end
section
namespace Go.Proofs.YtgmkbcoahilkhaaGreat.Disk
open Go.RowKit YtgmkbcoahilkhaaGreatW.PrintWords YtgmkbcoahilkhaaGreatW.PrintLast MapFn Sh
set_option maxHeartbeats 4000000
set_option maxRecDepth 100000
structure Fates (w : World) (b m : Nat) (f : List Int) : Prop where
  ex : ∃ A c, w.heap[b]? = some (.cells #[.slice A f.length c] 22 (0, 0)) ∧ InW .u8 w A f c ∧ ∀ a, A = some a → f ≠ [] → a.block < b ∧ a.block ≠ m
  bytes : ∀ x ∈ f, 0 ≤ x ∧ x < 256
theorem Fates.moves {w w' : World} {b m : Nat} {f : List Int} {l : List Nat} (h : Fates w b m f) (hm : Moves l w w') (hb : ¬ b ∈ l) (hl : ∀ x ∈ l, b ≤ x ∨ x = m) : Fates w' b m f := by
  obtain ⟨⟨A, c, h1, h2, h3⟩, h4⟩ := h
  refine ⟨⟨A, c, (hm.block b (lt_of_row h1) hb).trans h1, h2.moves hm fun a ha hne q => ?_, h3⟩, h4⟩
  obtain ⟨q1, q2⟩ := h3 a ha hne
  rcases hl _ q with q3 | q3
  · omega
  · exact q2 q3
theorem Fates.head {w : World} {b m : Nat} {f : List Int} (h : Fates w b m f) : 0 ≤ f.headD 0 ∧ f.headD 0 < 256 := by
  cases f with
  | nil => exact ⟨by decide, by decide⟩
  | cons x r => exact h.bytes x (by simp)
theorem next_any (b m : Nat) (f : List Int) (w : World) (h : Fates w b m f) :
    Calls Tryz.prog 77 #[.pointer (some ⟨b, 0, none⟩)] w fun e w' => e = .returned (.int .i64 (f.headD 0)) ∧ Fates w' b m f.tail ∧ Moves [b] w w' := by
  obtain ⟨⟨A, c, h1, h2, h3⟩, h4⟩ := h
  have c0 : w.cell? ⟨b, 0, none⟩ = some (.slice A f.length c) := cell_of h1
  have f0 := free_of (i := 0) h1
  have H1 := Hide.mk h1
  have H2 := Hide.mk h2
  have H3 := Hide.mk h3
  have hroom := h2.room
  have hmax := h2.reads.2.1
  cases f with
  | nil =>
    clear h1 h2 h3 h4
    simp only [List.length_nil] at c0 hroom hmax
    go_enter Tryz.func77, Tryz.ntmps77
    go_wp2
    go_ret
    exact ⟨rfl, ⟨⟨A, c, H1.out, H2.out, H3.out⟩, fun x hx => (by cases hx)⟩, Moves.refl _ _⟩
  | cons x r =>
    have hx := h4 x (by simp)
    have H4 := Hide.mk h4
    obtain ⟨ad, hA, hc⟩ := Kd.at_int h2.reads 0 (by omega) (by simp)
    obtain ⟨g, off, spot⟩ := ad
    have hspot : spot = none := by simpa [Addr.add] using World.cell?_spot hc
    subst hspot
    subst hA
    have hnlt : g < b ∧ g ≠ m := h3 _ rfl (by simp)
    have hne : g ≠ b := by omega
    have k0 : w.cell? ⟨g, off, none⟩ = some (.int .u8 x) := by
      simpa [rd, Go.WideShapes.add_plain] using hc
    obtain ⟨n, hn⟩ : ∃ n, r.length = n := ⟨_, rfl⟩
    rw [List.length_cons, hn] at c0 hroom hmax
    have HN := Hide.mk hn
    have hnz : ¬ ((n + 1 : Nat) : Int) = 0 := by omega
    have hc1 : ((n + 1 : Nat) : Int) ≤ (c : Int) := by omega
    clear h1 h2 h3 h4 hc hn
    go_enter Tryz.func77, Tryz.ntmps77
    go_wp2
    all_goals go_ret
    · obtain rfl : c = 1 := by assumption
      have hn0 : n = 0 := by omega
      have hr0 : r = [] := List.length_eq_zero_iff.1 (HN.out.trans hn0)
      subst hr0
      have hm := set_moves (w := w) (p := b) (i := 0) (.slice (some ⟨g, off, none⟩) n 0)
      have hr := set_row (i := 0) H1.out (.slice (some ⟨g, off, none⟩) n 0)
      refine ⟨rfl, ⟨⟨some ⟨g, off, none⟩, 0, ?_, ⟨Kd.C_of_reads (enc := Value.int .u8) (d := (0 : Int)) (h1 := fun _ => rfl) ⟨rfl, by simp, fun hp => absurd hp (by simp)⟩, Nat.zero_le _, fun a ha hne => absurd rfl hne⟩, fun a ha hne => absurd rfl hne⟩, fun x hx => (by cases hx)⟩, hm⟩
      rw [hr, hn0]
      rfl
    · have hm := set_moves (w := w) (p := b) (i := 0) (.slice (some ⟨g, off + 1, none⟩) n (c - 1))
      have hr := set_row (i := 0) H1.out (.slice (some ⟨g, off + 1, none⟩) n (c - 1))
      have hb : g < w.heap.size := H2.out.lt _ rfl (by simp)
      have hin : In .u8 w (some ⟨g, off, none⟩) (x :: r) c := ⟨H2.out.reads, H2.out.room, fun a ha => H2.out.lt a ha (by simp)⟩
      have hd := hin.fromI 1 (by simp)
      refine ⟨rfl, ⟨⟨some ⟨g, off + 1, none⟩, c - 1, ?_, (hd.moves hm fun a ha => by cases ha; simpa using hne).wide, fun a ha _ => by cases ha; exact hnlt⟩, fun y hy => H4.out y (List.mem_cons_of_mem _ hy)⟩, hm⟩
      rw [hr, HN.out]
      rfl
end Go.Proofs.YtgmkbcoahilkhaaGreat.Disk
end
section
namespace Go.Proofs.YtgmkbcoahilkhaaGreat.Disk
open Go.RowKit Go.Maps YtgmkbcoahilkhaaGreatW.PrintWords YtgmkbcoahilkhaaGreatW.PrintLast YtgmkbcoahilkhaaGreatW.PrintMore MapFn Sh
set_option maxHeartbeats 4000000
set_option maxRecDepth 100000
def T32_6 : Bool × List (List Nat × List Nat) := (true, [([], []), ([0], [0]), ([1], [1]), ([2], [2]), ([], []), ([3, 4], [3, 4]), ([], []), ([6], [6]), ([7], [7]), ([8], [8]), ([], []), ([9, 10], [9, 10]), ([], []), ([], []), ([12, 5, 0, 1, 2, 3, 4, 5, 9, 11, 12, 13], [5, 12]), ([13, 11, 14, 0, 1, 2, 3, 4, 5, 6, 7, 8, 9, 10, 11, 12, 13, 14], [11, 13])])
def B32_6 : List Nat := [0, 1, 3, 7, 0, 31, 0, 64, 192, 448, 0, 1984, 0, 0, 16383, 32767]
theorem tab32_6 : rtab .any (opsOf Tryz.f32 6) = T32_6 := by kernel_rfl
theorem bits32_6 : waitsOk T32_6.2 B32_6 = true := by kernel_rfl
def T32_9 : Bool × List (List Nat × List Nat) := (true, [([], []), ([0], [0]), ([1], [1]), ([2], [2]), ([], []), ([], []), ([3, 4, 5, 0, 1, 2, 3, 4, 5], [3, 4, 5])])
def B32_9 : List Nat := [0, 1, 3, 7, 0, 0, 63]
theorem tab32_9 : rtab .any (opsOf Tryz.f32 9) = T32_9 := by kernel_rfl
theorem bits32_9 : waitsOk T32_9.2 B32_9 = true := by kernel_rfl
def T32_11 : Bool × List (List Nat × List Nat) := (true, [([], []), ([], []), ([1], [1]), ([2], [2]), ([0, 3, 2], [0, 3])])
def B32_11 : List Nat := [0, 0, 2, 6, 15]
theorem tab32_11 : rtab .any (opsOf Tryz.f32 11) = T32_11 := by kernel_rfl
theorem bits32_11 : waitsOk T32_11.2 B32_11 = true := by kernel_rfl
def T32_12 : Bool × List (List Nat × List Nat) := (true, [([], []), ([0], [0]), ([1], [1]), ([2], [2]), ([], []), ([], []), ([3, 4, 5, 0, 1, 2, 3, 4, 5], [3, 4, 5])])
def B32_12 : List Nat := [0, 1, 3, 7, 0, 0, 63]
theorem tab32_12 : rtab .any (opsOf Tryz.f32 12) = T32_12 := by kernel_rfl
theorem bits32_12 : waitsOk T32_12.2 B32_12 = true := by kernel_rfl
theorem exec_alloc {w : World} {a : Act} {o : Oper} (hop : o.op = Op.alloc 110) : (execOp a.eval o).run Tryz.prog w = .ok (.value (.pointer (some ⟨w.heap.size, 0, none⟩))) (w.alloc zrow) := by
  unfold execOp
  simp only [hop]
  go_simp
theorem exec_storeB {w : World} {g : Nat} {cs cs' : Array Value} {a : Act} {o : Oper} {x y : Operand} (hrow : w.heap[g]? = some (.cells cs 110 (0, 0))) (hop : o.op = Op.store 110 x y)
    (hx : a.eval x = .pointer (some ⟨g, 0, none⟩)) (hy : a.eval y = .agg cs') (hs : cs.size = 256) (hs' : cs'.size = 256) (h1 : cs'.all (·.oneCell') = true) : (execOp a.eval o).run Tryz.prog w = .ok .skip (w.setRow g cs') := by
  have hrun : (Instr.storeAt 110 (.pointer (some ⟨g, 0, none⟩)) (.agg cs')).run Tryz.prog w = .ok () (w.setRow g cs') := by
    simp only [Instr.storeAt, Instr.sureAddr, Sem.run_bind, Sem.run_pure, Result.andThen]
    exact run_storeVar_row w g _ _ cs cs' hrow (by rw [info110, hs']) (by rw [hs, hs']) h1
  simp [execOp, hop, hx, hy, hrun, Result.andThen]
theorem stage_blk {w : World} {g : Nat} {cs : Array Value} (l : List Int) (hrow : w.heap[g]? = some (.cells cs 110 (0, 0))) : ∃ w2, w.setRow g (encB l) = w2 ∧ w2.heap[g]? = some (.cells (encB l) 110 (0, 0)) ∧ w.grownBy w2 (some g) :=
  ⟨_, rfl, setRow_heap w g cs (encB l) _ _ hrow, ⟨rfl, rfl, rfl, by simp, fun k hk hne => setRow_other w g k _ (fun e => hne (by rw [e]))⟩⟩
theorem exec_copyB {w : World} {a : Act} {o : Oper} {d s : Operand} {g g2 k : Nat} {X Y : List Int} (hop : o.op = .call { callee := .builtin .copy, args := #[d, s], argTypes := #[22, 22] }) (hd : a.eval d = .slice (some ⟨g, 0, none⟩) 256 256) (hs : a.eval s = .slice (some ⟨g2, 0, none⟩) k 256)
    (hrow : w.heap[g]? = some (.cells (encB Y) 110 (0, 0))) (hrow2 : w.heap[g2]? = some (.cells (encB X) 110 (0, 0))) (hX : X.length = 256) (hY : Y.length = 256) (hk : k ≤ 256) :
    (execOp a.eval o).run Tryz.prog w = .ok (.value (goInt k)) (w.setRow g (encB (X.take k ++ Y.drop k))) := by
  have hml : ((X.take k).map (Value.int .u8)).length = k := by simp [hX]; omega
  have hr := run_copy_row Tryz.prog w 22 22 o.type 5 g 0 256 256 ⟨g2, 0, none⟩ k 256 (encB Y) 110 ((X.take k).map (Value.int .u8)) Tryz.underlying22 (by kernel_rfl) hrow (by rw [hml]; exact (Nat.min_eq_left hk).symm) (by
    intro j v hv
    have hj : j < k := by
      refine Decidable.byContradiction fun q => ?_
      rw [List.getElem?_eq_none (by rw [hml]; omega)] at hv
      cases hv
    rw [List.getElem?_map, List.getElem?_take_of_lt hj] at hv
    rw [Go.WideShapes.add_plain, cell_of hrow2, ← hv, Nat.zero_add]
    simp [encB]) (by rw [hml, encB_size, hY]; omega) (by
    intro v hv
    obtain ⟨x, _, rfl⟩ := List.mem_map.1 hv
    rfl)
  have e1 : ((encB Y).toList.take 0 ++ (X.take k).map (Value.int .u8) ++ (encB Y).toList.drop (0 + ((X.take k).map (Value.int .u8)).length)).toArray = encB (X.take k ++ Y.drop k) := by
    rw [hml]
    simp [encB]
  rw [e1, hml] at hr
  unfold execOp
  simp only [hop, resolve, invoke, builtin, Sem.run_bind, Sem.run_pure, Result.andThen_ok, List.map_toArray, List.map_cons, List.map_nil, hd, hs, hr]
theorem DiskAt.store {w : World} {p ms ml : Nat} {D : DiskSt} (h : DiskAt w p ms ml D) {n : Int} (hn : wf n) (h0 : 0 ≤ n) (h1 : n < D.blocks) {x : List Int} (hx : x.length = 256) :
    ∃ w5, (Instr.mapUpdate 75 (.map (some ml)) (.int .i64 n) (.agg (encB x))).run Tryz.prog w = .ok () w5 ∧ DiskAt w5 p ms ml (D.wrote n x) ∧ w.grownBy w5 (some ml) := by
  obtain ⟨w5, hrun, hm, hg⟩ := h.loose.store (C := blk) (t := 75) (N := 4096) Tryz.underlying3 Tryz.underlying75 hn hx (fun j hj => dom4096 h j (.inr hj)) (by unfold maxLen; omega)
  refine ⟨w5, hrun, ?_, hg⟩
  have hmv : Moves [ml] w w5 := Moves.of_grown hg
  have hp : p ≠ ml := row_ne_map h.row h.loose
  refine ⟨(hmv.block p (lt_of_row h.row) (by simpa using hp)).trans h.row, h.safe.moves hmv (by simpa using h.ne), hm, h.ne, ?_, h.most, ?_⟩
  · intro k hk
    rcases hk with hk | hk
    · exact h.dom k (.inl hk)
    · simp only [DiskSt.wrote, upd] at hk
      by_cases c : k = n
      · subst c
        exact ⟨h0, h1⟩
      · rw [if_neg c] at hk
        exact h.dom k (.inr hk)
  · intro k l hk
    rcases hk with hk | hk
    · exact h.len k l (.inl hk)
    · simp only [DiskSt.wrote, upd] at hk
      by_cases c : k = n
      · rw [if_pos c] at hk
        cases hk
        exact hx
      · rw [if_neg c] at hk
        exact h.len k l (.inr hk)
section
variable {p ms ml : Nat} {D : DiskSt} {w : World}
theorem crash_any (A : Option Addr) (c : Nat) (f : List Int) (h : DiskAt w p ms ml D) (hf : InW .u8 w A f c) (hb : ∀ x ∈ f, 0 ≤ x ∧ x < 256) :
    Calls Tryz.prog 32 #[.pointer (some ⟨p, 0, none⟩), .slice A f.length c] w fun e w' => e = .returned (.tuple #[]) ∧ ∃ ml', DiskAt w' p ms ml' (D.crash f) ∧ (ml' = ml ∨ w.heap.size ≤ ml') ∧ Moves [p, ms, ml] w w' := by
  obtain ⟨W, hW⟩ : ∃ W, w.alloc (.cells #[.slice A f.length c] 22) = W := ⟨_, rfl⟩
  have hbl := (Below.refl w.heap.size w).alloc (Nat.le_refl _) (.cells #[.slice A f.length c] 22)
  have rowb := heap_last w (.cells #[.slice A f.length c] 22)
  have hsz : W.heap.size = w.heap.size + 1 := by rw [← hW]; simp
  rw [hW] at hbl rowb
  have hfw : ∀ a, A = some a → f ≠ [] → a.block < w.heap.size ∧ a.block ≠ ml := fun a ha hne => by
    refine ⟨hf.lt a ha hne, ?_⟩
    have hl : 0 < f.length := by
      cases f with
      | nil => exact absurd rfl hne
      | cons x r => simp
    obtain ⟨ad, had, hc⟩ := Kd.at_int hf.reads 0 (by omega) (by omega)
    rw [ha] at had
    cases had
    have hbk : (a.add (Int.toNat 0)).block = a.block := by unfold Addr.add; split <;> rfl
    intro q
    obtain ⟨Dm, ⟨es, clock, hh, _⟩, _⟩ := h.loose
    unfold World.cell? at hc
    rw [hbk, q, hh] at hc
    cases hc
  have HF0 : Fates W w.heap.size ml f := ⟨⟨A, c, rowb, hf.below hbl, hfw⟩, hb⟩
  have HLT : Hide ((p < w.heap.size ∧ ms < w.heap.size ∧ ml < w.heap.size) ∧ p ≠ ml ∧ p ≠ ms ∧ ms ≠ ml) := ⟨⟨lt_of_row h.row, h.safe.lt, h.loose.lt⟩, row_ne_map h.row h.loose, row_ne_map h.row h.safe, h.ne⟩
  have HL := Hide.mk (Loose_any (h.below hbl))
  have HW := Hide.mk hW
  have HD := Hide.mk (h.below hbl)
  have HB := Hide.mk hbl
  have HF := Hide.mk HF0
  have HSZ := Hide.mk hsz
  obtain ⟨n1, hn1⟩ : ∃ n, (looseL D).length = n := ⟨_, rfl⟩
  have hn4 : n1 ≤ 4096 := by have := looseL_len D; have := h.most; omega
  have HN := Hide.mk hn1
  clear h hbl hW HF0 hf hb rowb hfw hn1 hsz
  go_enter Tryz.func32, Tryz.ntmps32
  go_wp2_with (go_at_call 78; rw [HW.out]; refine HL.out.mono ?_; rintro e w1 ⟨v1, rfl, ho, hb1⟩
               obtain ⟨A1, c1, rfl, hi1, hge1⟩ := In.of_own ho
               have B1 := Hide.mk hb1
               rw [HN.out]
               have I1 := Hide.mk hi1
               have G1 := Hide.mk hge1
               have D1 := Hide.mk (HD.out.below hb1)
               have F1 := Hide.mk (HF.out.moves (Moves.of_below hb1 []) (by simp) (by simp))
               clear ho hb1 hi1 hge1)
  go_loopw [15] (fun v15 wr => ∃ (i : Nat) (E : DiskSt) (g : List Int), v15 = .int .i64 (i : Int) ∧ Hide (i ≤ n1) ∧ Hide (DiskAt wr p ms ml E) ∧ Hide (E.blocks = D.blocks) ∧ Hide (Fates wr w.heap.size ml g) ∧ Hide (crashF (looseL D) f D = crashF ((looseL D).drop i) g E) ∧ Hide (Moves [ml, w.heap.size] w1 wr) ∧ Hide (In .i64 wr A1 (looseL D) c1)) (fun v15 _ => 10000 - (intOf v15).toNat)
  case atStart => exact ⟨0, D, f, by first | rfl | simp, ⟨Nat.zero_le _⟩, D1, ⟨rfl⟩, F1, ⟨by simp⟩, ⟨Moves.refl _ _⟩, I1⟩
  case round =>
    obtain ⟨i, E, g, rfl, hi, hD, hEB, hF, hC, hM, hIn⟩ := hrel
    clear D1 F1
    have hi4 : (i : Int) ≤ 4096 := by have := hi.out; omega
    by_cases hlt0 : i < n1
    · have hlt : (i : Int) < (n1 : Int) := by omega
      have LT := Hide.mk hlt0
      obtain ⟨x, hx⟩ : ∃ x, rd (looseL D) (i : Int) = x := ⟨_, rfl⟩
      obtain ⟨ad, rfl, hcell⟩ := Kd.at_int hIn.out.reads (i : Int) (by omega) (by have := HN.out; omega)
      rw [hx, Int.toNat_natCast] at hcell
      have hdrop : (looseL D).drop i = x :: (looseL D).drop (i + 1) := by
        have h1 : i < (looseL D).length := by rw [HN.out]; exact hlt0
        rw [List.drop_eq_getElem_cons h1, ← hx]
        simp [rd, List.getD_eq_getElem?_getD, h1]
      have hxd : 0 ≤ x ∧ x < D.blocks := by
        have hm : x ∈ looseL D := by
          have : x ∈ (looseL D).drop i := by rw [hdrop]; exact List.mem_cons_self
          exact List.mem_of_mem_drop this
        exact HD.out.dom x (.inr ((looseL_mem (fun k hk => HD.out.dom k (.inr hk)) x).1 hm))
      have HWX := Hide.mk (wf_small hxd.1 (Int.lt_of_lt_of_le hxd.2 HD.out.most))
      have HXD := Hide.mk hxd
      have HDR := Hide.mk hdrop
      obtain ⟨X, hX⟩ : ∃ X, (E.loose x).getD zeros = X := ⟨_, rfl⟩
      obtain ⟨Y, hY⟩ : ∃ Y, (E.safe x).getD zeros = Y := ⟨_, rfl⟩
      have HX := Hide.mk hX
      have HY := Hide.mk hY
      have KD : DiskAt wr.drew p ms ml E := hD.out.moves (l := []) ⟨rfl, rfl, rfl, Nat.le_refl _, fun _ _ _ => rfl⟩ (by simp) (by simp) (by simp)
      clear hlt0 hx hdrop hxd hX hY
      go_wp2
      refine start_ (n := 16) (S := fun w' => DiskAt w' p ms ml E) (ds := []) #[false, false, false, false, false, false, false, false, false, false, false, false, false, false, false, false] (by kernel_rfl) rfl rfl KD (fun hHeld => ?_); refine with_tabW tab32_6 bits32_6 (fun HT_ HW_ => ?_)
      refine pu_ (i := 0) (N := some 19) (v := ?_) (a' := ?_) (bls 16 1) HT_.out rfl rfl (by kernel_rfl) (by rfl) ?_ ?_ ?_
      rotate_left
      · intro w'; go_simp; with_reducible rfl
      rotate_left
      · simp only [Act.put, qT_, q0_, q1_, i64_w, i32_w]; rfl
      refine pu_ (i := 1) (N := some 20) (v := ?_) (a' := ?_) (bls 16 3) HT_.out rfl rfl (by kernel_rfl) (by rfl) ?_ ?_ ?_
      rotate_left
      · intro w'; go_simp; with_reducible rfl
      rotate_left
      · simp only [Act.put, qT_, q0_, q1_, i64_w, i32_w]; rfl
      refine pu_ (i := 2) (N := some 21) (v := ?_) (a' := ?_) (bls 16 7) HT_.out rfl rfl (by kernel_rfl) (by rfl) ?_ ?_ ?_
      rotate_left
      · intro w'; go_simp; with_reducible rfl
      rotate_left
      · simp only [Act.put, qT_, q0_, q1_, i64_w, i32_w]; rfl
      refine take_ (i := 3) (N := some 22) (v := ?_) (a' := ?_) (bls 16 15) rfl rfl (take_ofW HT_.out HW_.out (by kernel_rfl)) (fun _ _ _ h => h) (Or.inl ⟨by rfl, ?_⟩) hHeld ?_ ?_
      rotate_left
      · intro w' hS'
        have s0 : DiskAt w' p ms ml E := hS'
        have s1 := s0.cells.c2
        clear s0
        go_simp
        rfl
      rotate_left
      · simp only [Act.put, qT_, q0_, q1_, i64_w, i32_w]; rfl
      refine pu_ (i := 4) (N := some 23) (v := ?_) (a' := ?_) (bls 16 31) HT_.out rfl rfl (by kernel_rfl) (by rfl) ?_ ?_ ?_
      rotate_left
      · intro w'; go_simp; with_reducible rfl
      rotate_left
      · simp only [Act.put, qT_, q0_, q1_, i64_w, i32_w]; rfl
      refine take_ (i := 5) (N := some 24) (v := ?_) (a' := ?_) (bls 16 63) rfl rfl (take_ofW HT_.out HW_.out (by kernel_rfl)) (fun _ _ _ h => h) (Or.inl ⟨by rfl, ?_⟩) hHeld ?_ ?_
      rotate_left
      · intro w' hS'
        have s0 : DiskAt w' p ms ml E := hS'
        have s1 : (Instr.lookup 75 (.map (some ml)) (.int .i64 x) false).run Tryz.prog w' = .ok (.agg (encB X)) w' := by
          have := s0.loose.look (C := blk) (t := 75) Tryz.underlying3 Tryz.underlying75 (zeroV _) (by rfl) HWX.out
          rw [HX.out] at this
          exact this
        clear s0
        go_simp
        rfl
      rotate_left
      · simp only [Act.put, qT_, q0_, q1_, i64_w, i32_w]; rfl
      refine pu_ (i := 6) (N := some 25) (v := ?_) (a' := ?_) (bls 16 127) HT_.out rfl rfl (by kernel_rfl) (by rfl) ?_ ?_ ?_
      rotate_left
      · intro w'; go_simp; with_reducible rfl
      rotate_left
      · simp only [Act.put, qT_, q0_, q1_, i64_w, i32_w]; rfl
      refine pu_ (i := 7) (N := some 26) (v := ?_) (a' := ?_) (bls 16 255) HT_.out rfl rfl (by kernel_rfl) (by rfl) ?_ ?_ ?_
      rotate_left
      · intro w'; go_simp; with_reducible rfl
      rotate_left
      · simp only [Act.put, qT_, q0_, q1_, i64_w, i32_w]; rfl
      refine pu_ (i := 8) (N := some 27) (v := ?_) (a' := ?_) (bls 16 511) HT_.out rfl rfl (by kernel_rfl) (by rfl) ?_ ?_ ?_
      rotate_left
      · intro w'; go_simp; with_reducible rfl
      rotate_left
      · simp only [Act.put, qT_, q0_, q1_, i64_w, i32_w]; rfl
      refine take_ (i := 9) (N := some 28) (v := ?_) (a' := ?_) (bls 16 1023) rfl rfl (take_ofW HT_.out HW_.out (by kernel_rfl)) (fun _ _ _ h => h) (Or.inl ⟨by rfl, ?_⟩) hHeld ?_ ?_
      rotate_left
      · intro w' hS'
        have s0 : DiskAt w' p ms ml E := hS'
        have s1 := s0.cells.c1
        clear s0
        go_simp
        rfl
      rotate_left
      · simp only [Act.put, qT_, q0_, q1_, i64_w, i32_w]; rfl
      refine pu_ (i := 10) (N := some 29) (v := ?_) (a' := ?_) (bls 16 2047) HT_.out rfl rfl (by kernel_rfl) (by rfl) ?_ ?_ ?_
      rotate_left
      · intro w'; go_simp; with_reducible rfl
      rotate_left
      · simp only [Act.put, qT_, q0_, q1_, i64_w, i32_w]; rfl
      refine take_ (i := 11) (N := some 30) (v := ?_) (a' := ?_) (bls 16 4095) rfl rfl (take_ofW HT_.out HW_.out (by kernel_rfl)) (fun _ _ _ h => h) (Or.inl ⟨by rfl, ?_⟩) hHeld ?_ ?_
      rotate_left
      · intro w' hS'
        have s0 : DiskAt w' p ms ml E := hS'
        have s1 : (Instr.lookup 75 (.map (some ms)) (.int .i64 x) false).run Tryz.prog w' = .ok (.agg (encB Y)) w' := by
          have := s0.safe.look (C := blk) (t := 75) Tryz.underlying3 Tryz.underlying75 (zeroV _) (by rfl) HWX.out
          rw [HY.out] at this
          exact this
        clear s0
        go_simp
        rfl
      rotate_left
      · simp only [Act.put, qT_, q0_, q1_, i64_w, i32_w]; rfl
      have hsz0 : wr.drew.heap.size = wr.heap.size := rfl
      refine join_ (σ := Nat × Nat) 2 (bls 16 16383) (fun s => [(7, .pointer (some ⟨s.1, 0, none⟩)), (8, .pointer (some ⟨s.2, 0, none⟩))]) (fun s w' => w' = (wr.drew.alloc zrow).alloc zrow ∧ (s = (wr.heap.size, wr.heap.size + 1) ∨ s = (wr.heap.size + 1, wr.heap.size))) ?_ ?_
      rotate_left
      · intro hc
        have k1 : DiskAt (wr.drew.alloc zrow) p ms ml E := KD.below ((Below.refl _ _).alloc (Nat.le_refl _) _)
        have k2 : DiskAt ((wr.drew.alloc zrow).alloc zrow) p ms ml E := k1.below ((Below.refl _ _).alloc (Nat.le_refl _) _)
        refine two_ (i := 12) (j := 13) (bls 16 8191) (bls 16 12287) rfl rfl rfl rfl (two_of HT_.out (by kernel_rfl)) (by decide) (by decide) (fun K hK => ?_) (fun K hK => ?_)
        · refine value_ (w1 := wr.drew.alloc zrow) (v := .pointer (some ⟨wr.heap.size, 0, none⟩)) rfl rfl (exec_alloc rfl) ?_
          refine hK.out _ _ k1 (fun hHeld => ?_)
          refine one_ (i := 13) (N := some 8) (bls 16 16383) rfl rfl (one_of HT_.out (by kernel_rfl)) (by decide) (fun K hK => ?_)
          refine value_ (w1 := (wr.drew.alloc zrow).alloc zrow) (v := .pointer (some ⟨(wr.drew.alloc zrow).heap.size, 0, none⟩)) rfl rfl (exec_alloc rfl) ?_
          refine hK.out _ _ k2 (fun hHeld => ?_)
          refine norm_ ?_ (hc (wr.heap.size, wr.heap.size + 1) _ ⟨rfl, .inl rfl⟩)
          simp only [putAll, Act.put, qT_, q0_, q1_]
          first | done | rfl | simp
        · refine value_ (w1 := wr.drew.alloc zrow) (v := .pointer (some ⟨wr.heap.size, 0, none⟩)) rfl rfl (exec_alloc rfl) ?_
          refine hK.out _ _ k1 (fun hHeld => ?_)
          refine one_ (i := 12) (N := some 7) (bls 16 16383) rfl rfl (one_of HT_.out (by kernel_rfl)) (by decide) (fun K hK => ?_)
          refine value_ (w1 := (wr.drew.alloc zrow).alloc zrow) (v := .pointer (some ⟨(wr.drew.alloc zrow).heap.size, 0, none⟩)) rfl rfl (exec_alloc rfl) ?_
          refine hK.out _ _ k2 (fun hHeld => ?_)
          refine norm_ ?_ (hc (wr.heap.size + 1, wr.heap.size) _ ⟨rfl, .inr rfl⟩)
          simp only [putAll, Act.put, qT_, q0_, q1_]
          first | done | rfl | simp
      · rintro ⟨a7, a8⟩ w5 ⟨hw5, hs⟩
        have hlts := HLT.out
        have hszb := HSZ.out
        have hsw1 := B1.out.size
        have hsw2 := hM.out.size
        have hB5 : Below wr.heap.size wr w5 := by
          rw [hw5]
          exact ((below_drew (Below.refl wr.heap.size wr)).alloc (Nat.le_refl _) _).alloc (by simp) _
        have D5 : DiskAt w5 p ms ml E := hD.out.below hB5
        have hr1 : w5.heap[wr.heap.size]? = some zrow := by rw [hw5]; exact two_first wr.drew
        have hr2 : w5.heap[wr.heap.size + 1]? = some zrow := by rw [hw5]; exact two_last wr.drew
        have h78 : w5.heap[a7]? = some zrow ∧ w5.heap[a8]? = some zrow ∧ a7 ≠ a8 ∧ wr.heap.size ≤ a7 ∧ wr.heap.size ≤ a8 := by
          rcases hs with hs | hs
          · cases hs
            exact ⟨hr1, hr2, by omega, by omega, by omega⟩
          · cases hs
            exact ⟨hr2, hr1, by omega, by omega, by omega⟩
        obtain ⟨h7, h8, hne, ha7, ha8⟩ := h78
        have F5 := hF.out.moves (Moves.of_below hB5 []) (by simp) (by simp)
        have HXL : Hide (X.length = 256) := ⟨by rw [← HX.out]; exact new_len hD.out.len x⟩
        have HYL : Hide (Y.length = 256) := ⟨by rw [← HY.out]; exact old_len hD.out.len x⟩
        have hHeld : DiskAt w5 p ms ml E := D5
        have HB5 := Hide.mk hB5
        clear hs hw5 hr1 hr2 hB5 KD
        refine norm_ (a' := ?_) ?_ ?_
        rotate_left
        · simp only [putAll, Act.put, qT_, q0_, q1_]
          rfl
        refine one_ (i := 14) (N := none) (bls 16 32767) rfl rfl (one_of HT_.out (by kernel_rfl)) (by decide) (fun K hK => ?_)
        obtain ⟨w6, hw6, row6, hg6⟩ := stage_blk X h7
        have d6 : DiskAt w6 p ms ml E := D5.moves (Moves.of_grown hg6) (by simp; omega) (by simp; omega) (by simp; omega)
        have h86 := (hg6.block a8 (lt_of_row h8) (by simpa using hne.symm)).trans h8
        refine skip_ (w1 := w6) (by rfl) rfl ?_ ?_
        · rw [← hw6]; exact exec_storeB h7 rfl rfl rfl zsize (by rw [encB_size]; exact HXL.out) (encB_one _)
        refine hK.out _ _ d6 (fun hHeld => ?_)
        clear hK K
        refine norm_ (a' := ?_) ?_ ?_
        rotate_left
        · rfl
        refine one_ (i := 15) (N := none) (bls 16 65535) rfl rfl (one_of HT_.out (by kernel_rfl)) (by decide) (fun K hK => ?_)
        obtain ⟨w7, hw7, row7, hg7⟩ := stage_blk Y h86
        have d7 : DiskAt w7 p ms ml E := d6.moves (Moves.of_grown hg7) (by simp; omega) (by simp; omega) (by simp; omega)
        have row67 := (hg7.block a7 (lt_of_row row6) (by simpa using hne)).trans row6
        refine skip_ (w1 := w7) (by rfl) rfl ?_ ?_
        · rw [← hw7]; exact exec_storeB h86 rfl rfl rfl zsize (by rw [encB_size]; exact HYL.out) (encB_one _)
        refine hK.out _ _ d7 (fun hHeld => ?_)
        clear hK K
        refine norm_ (a' := ?_) ?_ ?_
        rotate_left
        · rfl
        refine done_ (done_of HT_.out (by kernel_rfl)) ?_
        have F6 := F5.moves (Moves.of_grown hg6) (by simp; omega) (by intro y hy; simp at hy; omega)
        have F7 := F6.moves (Moves.of_grown hg7) (by simp; omega) (by intro y hy; simp at hy; omega)
        have HN7 := Hide.mk (next_any w.heap.size ml g w7 F7)
        have D7 := Hide.mk d7
        have R7 := Hide.mk row67
        have R8 := Hide.mk row7
        have hb7 : Below wr.heap.size wr w7 := (HB5.out.grown hg6 HB5.out.size (fun j hj => by cases hj; exact ha7)).grown hg7 (Nat.le_trans HB5.out.size hg6.size) (fun j hj => by cases hj; exact ha8)
        have B7 := Hide.mk hb7
        have VB := Hide.mk F7.head
        obtain ⟨v, hv⟩ : ∃ v, g.headD 0 = v := ⟨_, rfl⟩
        have HV := Hide.mk hv
        rw [hv] at HN7 VB
        have vb := VB.out
        clear F5 F6 F7 d6 d7 row6 row67 row7 hg6 hg7 h7 h8 h86 hHeld D5 hb7 hw6 hw7 hv
        have hv3 : 0 ≤ v % 3 ∧ v % 3 < 3 := by omega
        have htm : Int.tmod v 3 = v % 3 := Int.tmod_eq_emod_of_nonneg vb.1
        have HXE : Hide (0 ≤ x ∧ x < E.blocks) := ⟨by have := HXD.out; have := hEB.out; omega⟩
        have hpml : p ≠ ml := hlts.2.1
        have ha8m : a8 ≠ ml := by omega
        rcases (by omega : v % 3 = 0 ∨ v % 3 = 1 ∨ v % 3 = 2) with hq | hq | hq
        · rw [hq] at htm
          have HQ := Hide.mk hq
          clear hq hv3
          go_wp2_with (first
            | (go_at_call 77
               with_reducible refine HN7.out.mono ?_
               rintro e w8 ⟨rfl, hf8, hm8⟩
               have F8 := Hide.mk hf8
               have M8 := Hide.mk hm8
               clear hf8 hm8))
          have D8 : DiskAt w8 p ms ml E := D7.out.moves M8.out (by simp; omega) (by simp; omega) (by simp; omega)
          have r88 : w8.heap[a8]? = some (.cells (encB Y) 110 (0, 0)) := (M8.out.block a8 (lt_of_row R8.out) (by simp; omega)).trans R8.out
          have mdr : Moves [] w8 w8.drew := ⟨rfl, rfl, rfl, Nat.le_refl _, fun _ _ _ => rfl⟩
          have KD9 : DiskAt w8.drew p ms ml E := D8.moves mdr (by simp) (by simp) (by simp)
          have KC9 := And.intro KD9.cells (show w8.drew.heap[a8]? = some (.cells (encB Y) 110 (0, 0)) from r88)
          refine start_ (n := 7) (S := fun w' => DCells w' p ms ml E ∧ w'.heap[a8]? = some (.cells (encB Y) 110 (0, 0))) (ds := []) #[false, false, false, false, false, false, false] (by kernel_rfl) rfl rfl KC9 (fun hHeld => ?_); refine with_tabW tab32_9 bits32_9 (fun HT_ HW_ => ?_)
          refine pu_ (i := 0) (N := some 36) (v := ?_) (a' := ?_) (bls 7 1) HT_.out rfl rfl (by kernel_rfl) (by rfl) ?_ ?_ ?_
          rotate_left
          · intro w'; go_simp; with_reducible rfl
          rotate_left
          · simp only [Act.put, qT_, q0_, q1_, i64_w, i32_w]; rfl
          refine pu_ (i := 1) (N := some 37) (v := ?_) (a' := ?_) (bls 7 3) HT_.out rfl rfl (by kernel_rfl) (by rfl) ?_ ?_ ?_
          rotate_left
          · intro w'; go_simp; with_reducible rfl
          rotate_left
          · simp only [Act.put, qT_, q0_, q1_, i64_w, i32_w]; rfl
          refine pu_ (i := 2) (N := some 38) (v := ?_) (a' := ?_) (bls 7 7) HT_.out rfl rfl (by kernel_rfl) (by rfl) ?_ ?_ ?_
          rotate_left
          · intro w'; go_simp; with_reducible rfl
          rotate_left
          · simp only [Act.put, qT_, q0_, q1_, i64_w, i32_w]; rfl
          refine take_ (i := 3) (N := some 39) (v := ?_) (a' := ?_) (bls 7 15) rfl rfl (take_ofW HT_.out HW_.out (by kernel_rfl)) (fun _ _ _ h => h) (Or.inl ⟨by rfl, ?_⟩) hHeld ?_ ?_
          rotate_left
          · intro w' hS'
            have s0 : DCells w' p ms ml E := hS'.1
            have s1 := s0.c2
            clear s0
            go_simp
            rfl
          rotate_left
          · simp only [Act.put, qT_, q0_, q1_, i64_w, i32_w]; rfl
          refine pu_ (i := 4) (N := some 40) (v := ?_) (a' := ?_) (bls 7 31) HT_.out rfl rfl (by kernel_rfl) (by rfl) ?_ ?_ ?_
          rotate_left
          · intro w'; go_simp; with_reducible rfl
          rotate_left
          · simp only [Act.put, qT_, q0_, q1_, i64_w, i32_w]; rfl
          refine take_ (i := 5) (N := some 41) (v := ?_) (a' := ?_) (bls 7 63) rfl rfl (take_ofW HT_.out HW_.out (by kernel_rfl)) (fun _ _ _ h => h) (Or.inl ⟨by rfl, ?_⟩) hHeld ?_ ?_
          rotate_left
          · intro w' hS'
            refine exec_load (x := .tmp 8) ?_ ?_ hS'.2 (by rw [encB_size]; exact HYL.out)
            · rfl
            · rfl
          rotate_left
          · simp only [Act.put, qT_, q0_, q1_, i64_w, i32_w]; rfl
          refine one_ (i := 6) (N := none) (bls 7 127) rfl rfl (one_of HT_.out (by kernel_rfl)) (by decide) (fun K hK => ?_)
          obtain ⟨w9, hrun, hd9, hg9⟩ := KD9.store HWX.out HXE.out.1 HXE.out.2 (x := Y) HYL.out
          have D9 := Hide.mk hd9
          have G9 := Hide.mk hg9
          have h9 := And.intro (cells_grown hHeld.1 hg9 hpml) ((hg9.block a8 (lt_of_row hHeld.2) (by simpa using ha8m)).trans hHeld.2)
          clear hd9 hg9
          refine skip_ (w1 := w9) (by rfl) rfl ?_ ?_
          · first | (go_simp; done) | (go_simp; rfl)
          refine hK.out _ _ h9 (fun hHeld => ?_)
          clear hK K
          refine norm_ (a' := ?_) ?_ ?_
          rotate_left
          · rfl
          refine done_ (done_of HT_.out (by kernel_rfl)) ?_
          clear KC9 KD9 D8 h9 hHeld
          go_wp2
          go_roundw
          case rel =>
            have hmm : Moves [ml, w.heap.size] wr w9 := (Moves.of_below B7.out _).trans ((M8.out.more (by simp)).trans ((mdr.more (by simp)).trans ((Moves.of_grown G9.out).more (by simp))))
            refine ⟨i + 1, E.wrote x Y, g.tail, by go_num, ⟨by have := LT.out; omega⟩, D9, ⟨hEB.out⟩, ⟨(F8.out.moves mdr (by simp) (by simp)).moves (Moves.of_grown G9.out) (by simp; omega) (by simp)⟩, ⟨?_⟩, ⟨hM.out.trans hmm⟩, ⟨I1.out.moves (hM.out.trans hmm) (fun a ha hq => by have := G1.out a ha; simp at hq; omega)⟩⟩
            rw [hC.out, HDR.out, crashF, HV.out, if_pos HQ.out, HY.out]
          case measure => simp [intOf]; omega
        · rw [hq] at htm
          have HQ := Hide.mk hq
          clear hq hv3
          go_wp2_with (first
            | (go_at_call 77
               with_reducible refine HN7.out.mono ?_
               rintro e w8 ⟨rfl, hf8, hm8⟩
               have F8 := Hide.mk hf8
               have M8 := Hide.mk hm8
               clear hf8 hm8))
          go_roundw
          case rel =>
            have hmm : Moves [ml, w.heap.size] wr w8 := (Moves.of_below B7.out _).trans (M8.out.more (by simp))
            refine ⟨i + 1, E, g.tail, by go_num, ⟨by have := LT.out; omega⟩, ⟨D7.out.moves M8.out (by simp; omega) (by simp; omega) (by simp; omega)⟩, ⟨hEB.out⟩, F8, ⟨?_⟩, ⟨hM.out.trans hmm⟩, ⟨I1.out.moves (hM.out.trans hmm) (fun a ha hq => by have := G1.out a ha; simp at hq; omega)⟩⟩
            rw [hC.out, HDR.out, crashF, HV.out, if_neg (by have := HQ.out; omega), if_neg (by have := HQ.out; omega)]
          case measure => simp [intOf]; omega
        · rw [hq] at htm
          have HQ := Hide.mk hq
          clear hq hv3
          go_wp2_with (first
            | (go_at_call 77
               with_reducible refine HN7.out.mono ?_
               rintro e w8 ⟨rfl, hf8, hm8⟩
               have F8 := Hide.mk hf8
               have M8 := Hide.mk hm8
               clear hf8 hm8))
          have D8 : DiskAt w8 p ms ml E := D7.out.moves M8.out (by simp; omega) (by simp; omega) (by simp; omega)
          have mdr : Moves [] w8 w8.drew := ⟨rfl, rfl, rfl, Nat.le_refl _, fun _ _ _ => rfl⟩
          have r78 : w8.drew.heap[a7]? = some (.cells (encB X) 110 (0, 0)) := (M8.out.block a7 (lt_of_row R7.out) (by simp; omega)).trans R7.out
          have r88 : w8.drew.heap[a8]? = some (.cells (encB Y) 110 (0, 0)) := (M8.out.block a8 (lt_of_row R8.out) (by simp; omega)).trans R8.out
          have f8d := F8.out.moves mdr (by simp) (by simp)
          have HN8 := Hide.mk (next_any w.heap.size ml g.tail w8.drew f8d)
          obtain ⟨k, hk⟩ : ∃ k : Nat, g.tail.headD 0 = (k : Int) := ⟨(g.tail.headD 0).toNat, by have := f8d.head; omega⟩
          have hk256 : k < 256 := by have := f8d.head; omega
          have hkl : (k : Int) ≤ 256 := by omega
          have HK := Hide.mk hk
          clear hk f8d
          refine start_ (n := 5) (S := fun _ => True) (ds := []) #[false, false, false, false, false] (by kernel_rfl) rfl rfl trivial (fun hHeld => ?_); refine with_tabW tab32_11 bits32_11 (fun HT_ HW_ => ?_)
          refine pu_ (i := 0) (N := some 44) (v := ?_) (a' := ?_) (bls 5 1) HT_.out rfl rfl (by kernel_rfl) (by rfl) ?_ ?_ ?_
          rotate_left
          · intro w'; go_simp; with_reducible rfl
          rotate_left
          · simp only [Act.put, qT_, q0_, q1_, i64_w, i32_w]; rfl
          refine pu_ (i := 1) (N := some 45) (v := ?_) (a' := ?_) (bls 5 3) HT_.out rfl rfl (by kernel_rfl) (by rfl) ?_ ?_ ?_
          rotate_left
          · intro w'; go_simp; with_reducible rfl
          rotate_left
          · simp only [Act.put, qT_, q0_, q1_, i64_w, i32_w]; rfl
          refine one_ (i := 2) (N := some 46) (bls 5 7) rfl rfl (one_of HT_.out (by kernel_rfl)) (by decide) (fun K hK => ?_)
          refine call_ 77 #[.pointer (some ⟨w.heap.size, 0, none⟩)] rfl rfl (by go_simp) ?_
          with_reducible refine HN8.out.mono ?_
          rintro e w10 ⟨rfl, hf10, hm10⟩
          rw [HK.out]
          have F10 := Hide.mk hf10
          have M10 := Hide.mk hm10
          have r710 := (hm10.block a7 (lt_of_row r78) (by simp; omega)).trans r78
          have r810 := (hm10.block a8 (lt_of_row r88) (by simp; omega)).trans r88
          clear hf10 hm10
          refine ⟨_, rfl, ?_⟩
          refine hK.out _ _ trivial (fun hHeld => ?_)
          clear hK K
          refine norm_ (a' := ?_) ?_ ?_
          rotate_left
          · show Act.put _ (some 46) _ = _; simp only [Act.put, qT_, q0_, q1_, i64_w, i32_w]; rfl
          refine pu_ (i := 3) (N := some 47) (v := ?_) (a' := ?_) (bls 5 15) HT_.out rfl rfl (by kernel_rfl) (by rfl) ?_ ?_ ?_
          rotate_left
          · intro w'; go_simp; with_reducible rfl
          rotate_left
          · simp only [Act.put, qT_, q0_, q1_, i64_w, i32_w]; rfl
          refine one_ (i := 4) (N := some 48) (bls 5 31) rfl rfl (one_of HT_.out (by kernel_rfl)) (by decide) (fun K hK => ?_)
          obtain ⟨w11, hw11, row11, hg11⟩ := stage_blk (X.take k ++ Y.drop k) r810
          refine value_ (w1 := w11) (v := goInt k) (by rfl) rfl ?_ ?_
          · rw [← hw11]; exact exec_copyB rfl rfl rfl r810 r710 HXL.out HYL.out (by omega)
          refine hK.out _ _ trivial (fun hHeld => ?_)
          clear hK K
          refine norm_ (a' := ?_) ?_ ?_
          rotate_left
          · show Act.put _ (some 48) _ = _; simp only [Act.put, qT_, q0_, q1_, i64_w, i32_w]; rfl
          refine done_ (done_of HT_.out (by kernel_rfl)) ?_
          obtain ⟨T, hT⟩ : ∃ T, X.take k ++ Y.drop k = T := ⟨_, rfl⟩
          have HTL : Hide (T.length = 256) := ⟨by rw [← hT, List.length_append, List.length_take, List.length_drop, HXL.out, HYL.out]; omega⟩
          rw [hT] at row11
          have HT := Hide.mk hT
          have ROW11 := Hide.mk row11
          have m11 : Moves [] w8 w8.drew := mdr
          have mm : Moves [w.heap.size, a8] w8.drew w11 := (M10.out.more (by simp)).trans ((Moves.of_grown hg11).more (by simp))
          have D11 : DiskAt w11 p ms ml E := (D8.moves mdr (by simp) (by simp) (by simp)).moves mm (by simp; omega) (by simp; omega) (by simp; omega)
          have F11 := F10.out.moves (Moves.of_grown hg11) (by simp; omega) (by intro y hy; simp at hy; omega)
          have MM := Hide.mk mm
          have HF11 := Hide.mk F11
          have HD11 := Hide.mk D11
          clear hT row11 hg11 hw11 r78 r88 r710 r810 hHeld D8 mdr m11 mm F11 D11
          go_wp2
          have mdr2 : Moves [] w11 w11.drew := ⟨rfl, rfl, rfl, Nat.le_refl _, fun _ _ _ => rfl⟩
          have KD9 : DiskAt w11.drew p ms ml E := HD11.out.moves mdr2 (by simp) (by simp) (by simp)
          have KC9 := And.intro KD9.cells (show w11.drew.heap[a8]? = some (.cells (encB T) 110 (0, 0)) from ROW11.out)
          refine start_ (n := 7) (S := fun w' => DCells w' p ms ml E ∧ w'.heap[a8]? = some (.cells (encB T) 110 (0, 0))) (ds := []) #[false, false, false, false, false, false, false] (by kernel_rfl) rfl rfl KC9 (fun hHeld => ?_); refine with_tabW tab32_12 bits32_12 (fun HT_ HW_ => ?_)
          refine pu_ (i := 0) (N := some 49) (v := ?_) (a' := ?_) (bls 7 1) HT_.out rfl rfl (by kernel_rfl) (by rfl) ?_ ?_ ?_
          rotate_left
          · intro w'; go_simp; with_reducible rfl
          rotate_left
          · simp only [Act.put, qT_, q0_, q1_, i64_w, i32_w]; rfl
          refine pu_ (i := 1) (N := some 50) (v := ?_) (a' := ?_) (bls 7 3) HT_.out rfl rfl (by kernel_rfl) (by rfl) ?_ ?_ ?_
          rotate_left
          · intro w'; go_simp; with_reducible rfl
          rotate_left
          · simp only [Act.put, qT_, q0_, q1_, i64_w, i32_w]; rfl
          refine pu_ (i := 2) (N := some 51) (v := ?_) (a' := ?_) (bls 7 7) HT_.out rfl rfl (by kernel_rfl) (by rfl) ?_ ?_ ?_
          rotate_left
          · intro w'; go_simp; with_reducible rfl
          rotate_left
          · simp only [Act.put, qT_, q0_, q1_, i64_w, i32_w]; rfl
          refine take_ (i := 3) (N := some 52) (v := ?_) (a' := ?_) (bls 7 15) rfl rfl (take_ofW HT_.out HW_.out (by kernel_rfl)) (fun _ _ _ h => h) (Or.inl ⟨by rfl, ?_⟩) hHeld ?_ ?_
          rotate_left
          · intro w' hS'
            have s0 : DCells w' p ms ml E := hS'.1
            have s1 := s0.c2
            clear s0
            go_simp
            rfl
          rotate_left
          · simp only [Act.put, qT_, q0_, q1_, i64_w, i32_w]; rfl
          refine pu_ (i := 4) (N := some 53) (v := ?_) (a' := ?_) (bls 7 31) HT_.out rfl rfl (by kernel_rfl) (by rfl) ?_ ?_ ?_
          rotate_left
          · intro w'; go_simp; with_reducible rfl
          rotate_left
          · simp only [Act.put, qT_, q0_, q1_, i64_w, i32_w]; rfl
          refine take_ (i := 5) (N := some 54) (v := ?_) (a' := ?_) (bls 7 63) rfl rfl (take_ofW HT_.out HW_.out (by kernel_rfl)) (fun _ _ _ h => h) (Or.inl ⟨by rfl, ?_⟩) hHeld ?_ ?_
          rotate_left
          · intro w' hS'
            refine exec_load (x := .tmp 8) ?_ ?_ hS'.2 (by rw [encB_size]; exact HTL.out)
            · rfl
            · rfl
          rotate_left
          · simp only [Act.put, qT_, q0_, q1_, i64_w, i32_w]; rfl
          refine one_ (i := 6) (N := none) (bls 7 127) rfl rfl (one_of HT_.out (by kernel_rfl)) (by decide) (fun K hK => ?_)
          obtain ⟨w9, hrun, hd9, hg9⟩ := KD9.store HWX.out HXE.out.1 HXE.out.2 (x := T) HTL.out
          have D9 := Hide.mk hd9
          have G9 := Hide.mk hg9
          have h9 := And.intro (cells_grown hHeld.1 hg9 hpml) ((hg9.block a8 (lt_of_row hHeld.2) (by simpa using ha8m)).trans hHeld.2)
          clear hd9 hg9
          refine skip_ (w1 := w9) (by rfl) rfl ?_ ?_
          · first | (go_simp; done) | (go_simp; rfl)
          refine hK.out _ _ h9 (fun hHeld => ?_)
          clear hK K
          refine norm_ (a' := ?_) ?_ ?_
          rotate_left
          · rfl
          refine done_ (done_of HT_.out (by kernel_rfl)) ?_
          clear KC9 KD9 h9 hHeld
          go_wp2
          go_roundw
          case rel =>
            have mdr : Moves [] w8 w8.drew := ⟨rfl, rfl, rfl, Nat.le_refl _, fun _ _ _ => rfl⟩
            have hmm0 : Moves [ml, w.heap.size, a8] wr w9 := (Moves.of_below B7.out _).trans ((M8.out.more (by simp)).trans ((mdr.more (by simp)).trans ((MM.out.more (by simp)).trans ((mdr2.more (by simp)).trans ((Moves.of_grown G9.out).more (by simp))))))
            have hmm : Moves [ml, w.heap.size] wr w9 := hmm0.more (by intro y hy; simp at hy ⊢; omega)
            refine ⟨i + 1, E.wrote x T, g.tail.tail, by go_num, ⟨by have := LT.out; omega⟩, D9, ⟨hEB.out⟩, ⟨(HF11.out.moves mdr2 (by simp) (by simp)).moves (Moves.of_grown G9.out) (by simp; omega) (by simp)⟩, ⟨?_⟩, ⟨hM.out.trans hmm⟩, ⟨I1.out.moves (hM.out.trans hmm) (fun a ha hq => by have := G1.out a ha; simp at hq; omega)⟩⟩
            rw [hC.out, HDR.out, crashF, HV.out, if_neg (by have := HQ.out; omega), if_pos HQ.out, HK.out, Int.toNat_natCast, DiskSt.torn, HX.out, HY.out, HT.out]
          case measure => simp [intOf]; omega
    · have hlt : ¬ (i : Int) < (n1 : Int) := by omega
      have hin : i = n1 := by have := hi.out; omega
      have hE : crashF (looseL D) f D = E := by
        rw [hC.out, hin, List.drop_eq_nil_of_le (by rw [HN.out]; exact Nat.le_refl _), crashF]
      have HE := Hide.mk hE
      have HS := Hide.mk (settle_any p ms ml E wr hD.out)
      clear hin hE hlt0
      go_wp2_with (go_at_call 79; refine HS.out.mono ?_; rintro e w2 ⟨rfl, ml2, hd, hml, hm⟩
                   have D2 := Hide.mk hd
                   have M2 := Hide.mk hm
                   have ML2 := Hide.mk hml
                   have c3 := hd.cells.c3
                   have c7 := hd.cells.c7
                   have c6 := hd.cells.c6
                   have f3 := free_of (i := 3) hd.row
                   have f7 := free_of (i := 7) hd.row
                   have f6 := free_of (i := 6) hd.row
                   clear hd hm hml)
      go_end0
      have hr := D2.out.set_reset
      have hszb := HSZ.out
      have hsw1 := B1.out.size
      have hsw2 := hM.out.size
      have hbw : Below w.heap.size w w1 := HB.out.trans (B1.out.mono HB.out.size)
      have hm1 : Moves [p, ms, ml] w wr := ((Moves.of_below hbw [ml, w.heap.size]).trans hM.out).more (by intro y hy; simp at hy ⊢; omega)
      refine ⟨rfl, ml2, by rw [DiskSt.crash, HE.out]; exact hr.1, ?_, (hm1.trans (M2.out.more (by simp))).trans (hr.2.more (by simp))⟩
      have := ML2.out
      omega
end
end Go.Proofs.YtgmkbcoahilkhaaGreat.Disk
end
section
namespace Go.Proofs.YtgmkbcoahilkhaaGreat.Sh
open Go.RowKit YtgmkbcoahilkhaaGreatW.PrintWords YtgmkbcoahilkhaaGreatW.PrintLast YtgmkbcoahilkhaaGreatW.PrintMore MapFn Disk Bitset Page Num
set_option maxHeartbeats 4000000
structure OnB (w wr : World) (b : Nat) (row : Obj) (p pd : Nat) (s : Sh) : Prop where
  ex : ∃ F : Foot, ShAt wr F s ∧ F.p = p ∧ F.pd = pd ∧ (∀ x ∈ F.own, w.heap.size ≤ x) ∧ ¬ b ∈ F.own
  below : Below w.heap.size w wr
  box : wr.heap[b]? = some row
structure DOnB (w wr : World) (b : Nat) (row : Obj) (pd : Nat) (D : DiskSt) : Prop where
  ex : ∃ ms ml, DiskAt wr pd ms ml D ∧ (w.heap.size ≤ pd ∧ w.heap.size ≤ ms ∧ w.heap.size ≤ ml) ∧ ¬ b ∈ [pd, ms, ml]
  below : Below w.heap.size w wr
  box : wr.heap[b]? = some row
section
variable {w wr w' : World} {b p pd : Nat} {row : Obj} {s s' : Sh} {D : DiskSt}
theorem OnB.on (h : OnB w wr b row p pd s) : On w wr p pd s := by
  obtain ⟨⟨F, h1, h2, h3, h4, _⟩, h5, _⟩ := h
  exact ⟨⟨F, h1, h2, h3, h4⟩, h5⟩
theorem On.boxed (h : On w wr p pd s) {cs : Array Value} {t : TypeId} : OnB w (wr.alloc (.cells cs t)) wr.heap.size (.cells cs t) p pd s := by
  obtain ⟨⟨F, h1, h2, h3, h4⟩, h5⟩ := h
  have hb := (Below.refl wr.heap.size wr).alloc (Nat.le_refl _) (.cells cs t)
  exact ⟨⟨F, h1.below hb, h2, h3, h4, fun q => by have := h1.lts _ q; omega⟩, h5.trans (hb.mono h5.size), heap_last wr _⟩
theorem OnB.goes {F F' : Foot} (h : Below w.heap.size w wr) (hx : wr.heap[b]? = some row) (hB : ¬ b ∈ F.own) (ho : ∀ x ∈ F.own, w.heap.size ≤ x) (hp : F.p = p) (hpd : F.pd = pd) (hs : ShAt w' F' s') (hg : Goes F F' wr w') : OnB w w' b row p pd s' :=
  ⟨⟨F', hs, hg.p.trans hp, hg.pd.trans hpd, fun x hx => by
    rcases hg.own x hx with q | q
    · exact ho x q
    · exact Nat.le_trans h.size q, fun q => by
    rcases hg.own b q with q | q
    · exact hB q
    · have := lt_of_row hx
      omega⟩, h.moves_low hg.moves ho (Nat.le_refl _), (hg.moves.block b (lt_of_row hx) hB).trans hx⟩
theorem OnB.call (h : OnB w wr b row p pd s) {f : FuncId} {args : Array Value} {v : Value}
    (hc : ∀ F, ShAt wr F s → F.p = p → F.pd = pd → Calls Tryz.prog f args wr fun e w' => e = .returned v ∧ ∃ F', ShAt w' F' s' ∧ Goes F F' wr w') : Calls Tryz.prog f args wr fun e w' => e = .returned v ∧ OnB w w' b row p pd s' := by
  obtain ⟨⟨F, h1, h2, h3, h4, h5⟩, h6, h7⟩ := h
  refine (hc F h1 h2 h3).mono ?_
  rintro e w2 ⟨rfl, F', hs, hg⟩
  exact ⟨rfl, OnB.goes h6 h7 h5 h4 h2 h3 hs hg⟩
theorem OnB.disk (h : OnB w wr b row p pd s) : DOnB w wr b row pd s.D := by
  obtain ⟨⟨F, h1, rfl, rfl, h4, h5⟩, h6, h7⟩ := h
  refine ⟨⟨F.ms, F.ml, h1.disk, ⟨h4 _ (by simp [Foot.own]), h4 _ (by simp [Foot.own]), h4 _ (by simp [Foot.own])⟩, fun q => h5 ?_⟩, h6, h7⟩
  simp only [Foot.own, List.mem_cons, List.not_mem_nil, or_false] at q ⊢
  rcases q with q | q | q <;> simp [q]
theorem DOnB.crashed (h : DOnB w wr b row pd D) (f : List Int) : Crashed D (D.crash f) := by
  obtain ⟨⟨ms, ml, h1, _⟩, _⟩ := h
  exact crash_crashed f (fun k hk => h1.dom k (.inr hk)) h1.len
theorem crash_onB (h : DOnB w wr b row pd D) {A : Option Addr} {c : Nat} {f : List Int} (hf : InW .u8 wr A f c) (hb : Bytes f) :
    Calls Tryz.prog 32 #[.pointer (some ⟨pd, 0, none⟩), .slice A f.length c] wr fun en w' => en = .returned (.tuple #[]) ∧ DOnB w w' b row pd (D.crash f) := by
  obtain ⟨⟨ms, ml, h1, ⟨h2, h3, h4⟩, h5⟩, h6, h7⟩ := h
  refine (crash_any A c f h1 hf hb).mono ?_
  rintro e w2 ⟨rfl, ml', hd, hml, hm⟩
  have hlt := lt_of_row h7
  have hsz := h6.size
  refine ⟨rfl, ⟨ms, ml', hd, ⟨h2, h3, by omega⟩, fun q => ?_⟩, h6.moves_low hm (fun x hx => by simp only [List.mem_cons, List.not_mem_nil, or_false] at hx; omega) (Nat.le_refl _), (hm.block b hlt h5).trans h7⟩
  simp only [List.mem_cons, List.not_mem_nil, or_false] at q h5
  rcases hml with e | e <;> omega
theorem down_onB (h : DOnB w wr b row pd D) : Calls Tryz.prog 33 #[.pointer (some ⟨pd, 0, none⟩)] wr fun en w' => en = .returned (.bool D.down) ∧ Below wr.heap.size wr w' := by
  obtain ⟨⟨ms, ml, h1, _⟩, _⟩ := h
  exact (Down_any h1).mono fun _ _ q => q
theorem DOnB.later (h : DOnB w wr b row pd D) (hb : Below wr.heap.size wr w') : DOnB w w' b row pd D := by
  obtain ⟨⟨ms, ml, h1, h2, h5⟩, h6, h7⟩ := h
  exact ⟨⟨ms, ml, h1.below hb, h2, h5⟩, h6.trans (hb.mono h6.size), (hb.block b (lt_of_row h7)).trans h7⟩
theorem OnB.later (h : OnB w wr b row p pd s) (hb : Below wr.heap.size wr w') : OnB w w' b row p pd s := by
  obtain ⟨⟨F, h1, h2, h3, h4, h5⟩, h6, h7⟩ := h
  exact ⟨⟨F, h1.below hb, h2, h3, h4, h5⟩, h6.trans (hb.mono h6.size), (hb.block b (lt_of_row h7)).trans h7⟩
theorem open_onB (h : DOnB w wr b row pd D) (hB : ∀ n, Bytes (D.get n)) (he : (Sh.open_ D).2 = 0) :
    Calls Tryz.prog 30 #[.pointer (some ⟨pd, 0, none⟩)] wr fun en w' => ∃ p, en = .returned (.tuple #[.pointer (some ⟨p, 0, none⟩), .int .i64 0]) ∧ OnB w w' b row p pd (Sh.open_ D).1 := by
  obtain ⟨⟨ms, ml, h1, ⟨h2, h3, h4⟩, h5⟩, h6, h7⟩ := h
  refine (shopen_any pd ms ml D wr h1 hB).mono ?_
  rintro e w2 ⟨F, rfl, hd, hs, hbn⟩
  have hlt := lt_of_row h7
  have hsz := h6.size
  refine ⟨F.p, by rw [he, ptrOf_ok], ⟨F, hs he, rfl, hbn.epd, fun x hx => ?_, fun q => ?_⟩, h6.moves_low hbn.moves (fun x hx => by simp only [List.mem_cons, List.not_mem_nil, or_false] at hx; omega) (Nat.le_refl _), (hbn.moves.block b hlt h5).trans h7⟩
  · rcases hbn.own x hx with q | q
    · simp only [List.mem_cons, List.not_mem_nil, or_false] at q
      omega
    · omega
  · rcases hbn.own b q with q | q
    · exact h5 q
    · omega
end
theorem DB.wrote {D : DiskSt} (h : DB D) (n : Int) {l : List Int} (hl : Bytes l) : DB (D.wrote n l) := ⟨h.safe, fun j x hx => by
  simp only [DiskSt.wrote, upd] at hx
  by_cases c : j = n
  · rw [if_pos c] at hx; cases hx; exact hl
  · rw [if_neg c] at hx; exact h.loose j x hx⟩
theorem DB.old {D : DiskSt} (h : DB D) (n : Int) : Bytes ((D.safe n).getD zeros) := by
  cases e : D.safe n with
  | none => exact zeros_bytes
  | some x => exact h.safe n x e
theorem DB.new_ {D : DiskSt} (h : DB D) (n : Int) : Bytes ((D.loose n).getD zeros) := by
  cases e : D.loose n with
  | none => exact zeros_bytes
  | some x => exact h.loose n x e
theorem DB.torn {D : DiskSt} (h : DB D) (n : Int) (k : Nat) : Bytes (D.torn n k) := fun x hx => by
  unfold DiskSt.torn at hx
  rcases List.mem_append.1 hx with q | q
  · exact h.new_ n x (List.mem_of_mem_take q)
  · exact h.old n x (List.mem_of_mem_drop q)
theorem DB.crashF : ∀ (l f : List Int) (D : DiskSt), DB D → DB (crashF l f D)
  | [], f, D, h => h
  | n :: ns, f, D, h => by
    rw [Disk.crashF]
    split
    · exact DB.crashF ns _ _ (h.wrote n (h.old n))
    · split
      · exact DB.crashF ns _ _ (h.wrote n (h.torn n _))
      · exact DB.crashF ns _ _ h
theorem DB.crash {D : DiskSt} (h : DB D) (f : List Int) : DB (D.crash f) := (DB.crashF _ _ _ h).reset
structure GoodB (w wr : World) (b : Nat) (row : Obj) (p pd : Nat) (s : Sh) (last : List Int) : Prop where
  on : OnB w wr b row p pd s
  inv : Inv 40 s
  db : DB s.D
  last : imgOf s.D.get s.was s.root.start = last
structure LowB (w wr : World) (b : Nat) (row : Obj) (pd : Nat) (D : DiskSt) (last next : List Int) : Prop where
  on : DOnB w wr b row pd D
  db : DB D
  down : D.down = true
  will : ∀ E, Crashed D E → ∃ r t, Sure 40 E r t ∧ (imgOf E.get t r.start = last ∨ imgOf E.get t r.start = next)
def AfterB (w wr : World) (b : Nat) (row : Obj) (p pd : Nat) (last next : List Int) : Prop := (∃ s, GoodB w wr b row p pd s last) ∨ ∃ D, LowB w wr b row pd D last next
structure GoodP (w wr : World) (p pd : Nat) (s : Sh) (last : List Int) : Prop where
  on : On w wr p pd s
  inv : Inv 40 s
  db : DB s.D
  last : imgOf s.D.get s.was s.root.start = last
section
variable {w wr w' : World} {b p pd : Nat} {row : Obj} {s s' : Sh} {D : DiskSt} {last next : List Int}
theorem GoodB.plain (h : GoodB w wr b row p pd s last) : GoodP w wr p pd s last := ⟨h.on.on, h.inv, h.db, h.last⟩
theorem GoodB.later (h : GoodB w wr b row p pd s last) (hb : Below wr.heap.size wr w') : GoodB w w' b row p pd s last := ⟨h.on.later hb, h.inv, h.db, h.last⟩
theorem GoodP.boxed (h : GoodP w wr p pd s last) {cs : Array Value} {t : TypeId} : GoodB w (wr.alloc (.cells cs t)) wr.heap.size (.cells cs t) p pd s last := ⟨h.on.boxed, h.inv, h.db, h.last⟩
theorem GoodB.after (h : GoodB w wr b row p pd s last) (k : Step 40 s s' ∨ Lost s s') (ho : OnB w w' b row p pd s') (hd : DB s'.D) (next : List Int) : AfterB w w' b row p pd last next := by
  rcases k with k | k
  · exact .inl ⟨s', ho, k.inv, hd, by rw [k.root, k.was, imgOf_same _ fun i hi => k.get _ (.inr (.inr (.inr (.inr (mem_getD hi).1))))]; exact h.last⟩
  · refine .inr ⟨s'.D, ho.disk, hd, k.down, fun E hE => ?_⟩
    obtain ⟨h1, h2⟩ := (k.sure h.inv).crash hE
    refine ⟨s.root, s.was, h1, .inl ?_⟩
    rw [imgOf_same (g := s.D.get) _ fun i hi => ?_]
    · exact h.last
    · have hdur : Dur s.root s.was (s.was.getD i 0) := .inr (.inr (.inr (.inr (mem_getD hi).1)))
      rw [h2 _ hdur, k.same.get (fun q => q hdur)]
theorem GoodB.alloc (h : GoodB w wr b row p pd s last) (kind : Int) {A : Option Addr} {c : Nat} {body : List Int} (hr : InW .u8 wr A body c) (hb : Bytes body) (next : List Int) :
    Calls Tryz.prog 19 #[.pointer (some ⟨p, 0, none⟩), .int .i64 kind, .slice A body.length c] wr fun en w' => ∃ id e : Int, en = .returned (.tuple #[.int .i64 id, .int .i64 e]) ∧ AfterB w w' b row p pd last next := by
  refine (h.on.call (s' := (s.alloc kind body).1) fun F hs hp hpd => by rw [← hp]; exact alloc_any kind A c body wr F s hs h.inv.ok hr hb).mono ?_
  rintro e w2 ⟨rfl, ho⟩
  exact ⟨_, _, rfl, h.after (alloc_step h.inv kind hb) ho (h.db.alloc kind hb) next⟩
theorem GoodB.write (h : GoodB w wr b row p pd s last) (id kind : Int) {A : Option Addr} {c : Nat} {body : List Int} (hr : InW .u8 wr A body c) (hb : Bytes body) (next : List Int) :
    Calls Tryz.prog 29 #[.pointer (some ⟨p, 0, none⟩), .int .i64 id, .int .i64 kind, .slice A body.length c] wr fun en w' => ∃ e : Int, en = .returned (.int .i64 e) ∧ AfterB w w' b row p pd last next := by
  refine (h.on.call (s' := (s.write id kind body).1) fun F hs hp hpd => by rw [← hp]; exact shwrite_any id kind A c body wr F s hs h.inv.ok hr hb).mono ?_
  rintro e w2 ⟨rfl, ho⟩
  exact ⟨_, rfl, h.after (write_step h.inv id kind hb) ho (h.db.shwrite id kind hb) next⟩
theorem free_D (s : Sh) (id : Int) : (s.free id).1.D = s.D := by
  unfold Sh.free
  split
  · rfl
  · split <;> rfl
theorem setStart_D (s : Sh) (id : Int) : (s.setStart id).1.D = s.D := by
  unfold Sh.setStart
  split
  · rfl
  · split <;> rfl
theorem GoodB.free (h : GoodB w wr b row p pd s last) (id : Int) (next : List Int) :
    Calls Tryz.prog 23 #[.pointer (some ⟨p, 0, none⟩), .int .i64 id] wr fun en w' => ∃ e : Int, en = .returned (.int .i64 e) ∧ AfterB w w' b row p pd last next := by
  refine (h.on.call (s' := (s.free id).1) fun F hs hp hpd => by rw [← hp]; exact free_any id wr F s hs h.inv.ok).mono ?_
  rintro e w2 ⟨rfl, ho⟩
  exact ⟨_, rfl, h.after (.inl (free_step h.inv id)) ho (by rw [free_D]; exact h.db) next⟩
theorem GoodB.setStart (h : GoodB w wr b row p pd s last) (id : Int) (next : List Int) :
    Calls Tryz.prog 28 #[.pointer (some ⟨p, 0, none⟩), .int .i64 id] wr fun en w' => ∃ e : Int, en = .returned (.int .i64 e) ∧ AfterB w w' b row p pd last next := by
  refine (h.on.call (s' := (s.setStart id).1) fun F hs hp hpd => by rw [← hp]; exact setStart_any id wr F s hs).mono ?_
  rintro e w2 ⟨rfl, ho⟩
  exact ⟨_, rfl, h.after (.inl (setStart_step h.inv id)) ho (by rw [setStart_D]; exact h.db) next⟩
theorem GoodB.abort (h : GoodB w wr b row p pd s last) (next : List Int) :
    Calls Tryz.prog 25 #[.pointer (some ⟨p, 0, none⟩)] wr fun en w' => en = .returned (.int .i64 0) ∧ AfterB w w' b row p pd last next := by
  obtain ⟨h1, h2, h3, h4, h5⟩ := abort_step h.inv
  refine (h.on.call (s' := s.abort.1) fun F hs hp hpd => by rw [← hp]; exact abort_any wr F s hs h.inv.ok).mono ?_
  rintro e w2 ⟨rfl, ho⟩
  rw [h2]
  exact ⟨rfl, h.after (.inl h1) ho (by rw [h5]; exact h.db) next⟩
theorem GoodB.image (h : GoodB w wr b row p pd s last) : ∃ k, Calls Tryz.prog 27 #[.pointer (some ⟨p, 0, none⟩)] wr fun en w' => en = .returned (.string (strOfNums (imgOf s.D.get s.table s.start))) ∧ GoodB w w' b row p pd ({ s with D := { s.D with reads := k } } : Sh) last := by
  obtain ⟨k, e⟩ := image_inv h.inv
  refine ⟨k, (h.on.call (s' := s.image.1) fun F hs hp hpd => by rw [← hp]; exact image_any s wr F hs h.inv.ok h.db).mono ?_⟩
  rintro en w2 ⟨rfl, ho⟩
  rw [e] at ho ⊢
  exact ⟨rfl, ho, h.inv.reads k, h.db.of rfl rfl, h.last⟩
theorem GoodB.commit0 (h : GoodB w wr b row p pd s last) (he : s.commit.2 = 0) :
    Calls Tryz.prog 20 #[.pointer (some ⟨p, 0, none⟩)] wr fun en w' => en = .returned (.int .i64 0) ∧ ∃ s', GoodB w w' b row p pd s' (imgOf s.D.get s.table s.start) := by
  refine (h.on.call (s' := s.commit.1) fun F hs hp hpd => by rw [← hp]; exact commit_any wr F s hs h.inv.ok h.inv.maps fun l h1 h2 => next_check h.inv h1 h2).mono ?_
  rintro e w2 ⟨rfl, ho⟩
  rw [he]
  rcases commit_gen h.inv with ⟨q, _⟩ | ⟨_, q⟩ | ⟨q, _⟩
  · exact absurd he q
  · exact ⟨rfl, _, ho, q.inv, h.db.commit, by rw [q.was, q.rstart, imgOf_same _ q.get]⟩
  · exact absurd he q
theorem GoodB.commitE (h : GoodB w wr b row p pd s last) (he : s.commit.2 ≠ 0) :
    Calls Tryz.prog 20 #[.pointer (some ⟨p, 0, none⟩)] wr fun en w' => en = .returned (.int .i64 s.commit.2) ∧ AfterB w w' b row p pd last (imgOf s.D.get s.table s.start) := by
  refine (h.on.call (s' := s.commit.1) fun F hs hp hpd => by rw [← hp]; exact commit_any wr F s hs h.inv.ok h.inv.maps fun l h1 h2 => next_check h.inv h1 h2).mono ?_
  rintro e w2 ⟨rfl, ho⟩
  refine ⟨rfl, ?_⟩
  rcases commit_gen h.inv with ⟨_, q⟩ | ⟨q, _⟩ | ⟨_, q1, q2, q3, q4, q5⟩
  · rw [q] at ho
    exact .inl ⟨s, ho, h.inv, h.db, h.last⟩
  · exact absurd q he
  · refine .inr ⟨_, ho.disk, h.db.commit, q2, fun E hE => ?_⟩
    rcases late_crash q4 hE with ⟨z1, z2⟩ | ⟨r', z0, z1, z2⟩
    · refine ⟨_, _, z1, .inl ?_⟩
      rw [imgOf_same (g := s.D.get) _ fun i hi => (z2 i hi).trans (q5.was i hi)]
      exact h.last
    · refine ⟨_, _, z1, .inr ?_⟩
      rw [imgOf_same (g := s.D.get) _ fun i hi => (z2 i hi).trans (q5.table i hi), z0]
theorem Inv.ondisk (h : Inv 40 s) {E : DiskSt} (h1 : E.down = false) (h2 : E.blocks = s.D.blocks) (h3 : E.get = s.D.get) (h4 : E.loose = s.D.loose) : Inv 40 ({ s with D := E } : Sh) :=
  ⟨h.bad, h1, h2.trans h.blocks, h.fit, by show Hold E.get s.root s.was; rw [h3]; exact h.hold, h.used, h.len, h.zero, h.last, h.ent, h.inj, (by show ∀ i : Nat, s.table.getD i 0 ≠ 0 → PageAt E.get i (s.table.getD i 0); rw [h3]; exact h.page), h.freshB, h.fresh, h.start, h.clean, (by show ∀ n : Int, E.loose n ≠ none → _; rw [h4]; exact h.loose)⟩
theorem fail_same (D : DiskSt) (n : Int) (d : Bool) : (D.fail n d).1.down = D.down ∧ (D.fail n d).1.blocks = D.blocks ∧ (D.fail n d).1.get = D.get ∧ (D.fail n d).1.loose = D.loose ∧ (D.fail n d).1.safe = D.safe := by
  unfold DiskSt.fail
  split
  · exact ⟨rfl, rfl, rfl, rfl, rfl⟩
  · split <;> exact ⟨rfl, rfl, rfl, rfl, rfl⟩
theorem GoodB.fail (h : GoodB w wr b row p pd s last) (n : Int) (d : Bool) (next : List Int) :
    Calls Tryz.prog 31 #[.pointer (some ⟨pd, 0, none⟩), .int .i64 n, .bool d] wr fun en w' => ∃ e : Int, en = .returned (.int .i64 e) ∧ AfterB w w' b row p pd last next := by
  obtain ⟨f1, f2, f3, f4, f5⟩ := fail_same s.D n d
  refine (h.on.call (s' := ({ s with D := (s.D.fail n d).1 } : Sh)) (v := .int .i64 (s.D.fail n d).2) fun F hs hp hpd => by
    subst hpd
    refine (fail_any n d hs.disk).mono ?_
    rintro e w2 ⟨rfl, hd, hm⟩
    exact ⟨rfl, F, hs.wrote hd (hm.more (by simp))⟩).mono ?_
  rintro e w2 ⟨rfl, ho⟩
  refine ⟨_, rfl, .inl ⟨_, ho, h.inv.ondisk (f1.trans h.inv.up) f2 f3 f4, h.db.of f5 f4, ?_⟩⟩
  show imgOf (s.D.fail n d).1.get s.was s.root.start = last
  rw [f3]
  exact h.last
theorem reopen (hD : DOnB w wr b row pd D) (hb : DB D) (hup : D.down = false) {r : Root} {t : List Int} (hS : Sure 40 D r t) {img : List Int} (hi : imgOf D.get t r.start = img) :
    Calls Tryz.prog 30 #[.pointer (some ⟨pd, 0, none⟩)] wr fun en w' => ∃ p', en = .returned (.tuple #[.pointer (some ⟨p', 0, none⟩), .int .i64 0]) ∧ ∃ s', GoodB w w' b row p' pd s' img ∧ Clean s' := by
  obtain ⟨s', e, hinv, h1, h2, h3, h4, h5, h6, h7⟩ := open_inv hup hS.blocks hS.fit hS.hold hS.loose
  have hdb := DB.open_ hb
  refine (open_onB hD hb.get (by rw [e])).mono ?_
  rintro en w2 ⟨p', rfl, ho⟩
  rw [e] at ho hdb
  exact ⟨p', rfl, s', ⟨ho, hinv, hdb, by rw [h5, h2, h1]; exact hi⟩, ⟨h3.trans h2.symm, h4.trans (by rw [h1])⟩⟩
theorem GoodB.crash (h : GoodB w wr b row p pd s last) {A : Option Addr} {c : Nat} {f : List Int} (hf : InW .u8 wr A f c) (hb : Bytes f) :
    Calls Tryz.prog 32 #[.pointer (some ⟨pd, 0, none⟩), .slice A f.length c] wr fun en w' => en = .returned (.tuple #[]) ∧ ∃ D r t, DOnB w w' b row pd D ∧ DB D ∧ D.down = false ∧ Sure 40 D r t ∧ imgOf D.get t r.start = last := by
  have hc := h.on.disk.crashed f
  refine (crash_onB h.on.disk hf hb).mono ?_
  rintro e w2 ⟨rfl, ho⟩
  obtain ⟨h1, h2⟩ := h.inv.sure.crash hc
  exact ⟨rfl, _, _, _, ho, h.db.crash f, hc.up, h1, by rw [imgOf_same (g := s.D.get) _ fun i hi => h2 _ (.inr (.inr (.inr (.inr (mem_getD hi).1))))]; exact h.last⟩
theorem LowB.crash (h : LowB w wr b row pd D last next) {A : Option Addr} {c : Nat} {f : List Int} (hf : InW .u8 wr A f c) (hb : Bytes f) :
    Calls Tryz.prog 32 #[.pointer (some ⟨pd, 0, none⟩), .slice A f.length c] wr fun en w' => en = .returned (.tuple #[]) ∧ ∃ D r t img, DOnB w w' b row pd D ∧ DB D ∧ D.down = false ∧ Sure 40 D r t ∧ imgOf D.get t r.start = img ∧ (img = last ∨ img = next) := by
  have hc := h.on.crashed f
  refine (crash_onB h.on hf hb).mono ?_
  rintro e w2 ⟨rfl, ho⟩
  obtain ⟨r, t, h1, h2⟩ := h.will _ hc
  exact ⟨rfl, _, r, t, _, ho, h.db.crash f, hc.up, h1, rfl, h2⟩
theorem GoodB.seen (h : GoodB w wr b row p pd s last) (hc : Clean s) :
    Calls Tryz.prog 27 #[.pointer (some ⟨p, 0, none⟩)] wr fun en w' => en = .returned (.string (strOfNums last)) ∧ ∃ s', GoodB w w' b row p pd s' last := by
  obtain ⟨k, hk⟩ := h.image
  refine hk.mono ?_
  rintro en w2 ⟨rfl, hg⟩
  rw [show imgOf s.D.get s.table s.start = last by rw [hc.table, hc.start]; exact h.last]
  exact ⟨rfl, _, hg⟩
end
theorem GoodN.plain {w wr : World} {p pd : Nat} {s : Sh} {last : List Int} (h : GoodN 40 w wr p pd s last) : GoodP w wr p pd s last := ⟨h.on, h.inv, h.db, h.last⟩
end Go.Proofs.YtgmkbcoahilkhaaGreat.Sh
end
section
namespace Go.Proofs.YtgmkbcoahilkhaaGreat.Sh
open Go.RowKit YtgmkbcoahilkhaaGreatW.PrintWords YtgmkbcoahilkhaaGreatW.PrintLast YtgmkbcoahilkhaaGreatW.PrintMore MapFn Disk Bitset Page Num Acts
set_option maxHeartbeats 16000000
set_option maxRecDepth 100000
theorem infoAct : (Tryz.prog.info? 49).map (·.size) = some 10 := by kernel_rfl
theorem load_act {w : World} {ops : Array Oper} {rest : List Oper} {o : Oper} {a : Go.Act} {Q : Exit → Go.Act → World → Prop} (hg : o.guard = none) (x : Operand) (hop : o.op = Op.load 49 x) (g off : Nat) (hx : a.eval x = .pointer (some ⟨g, off, none⟩))
    (v : ActV) (A : Option Addr) (c : Nat) (A2 : Option Addr) (c2 : Nat) (hc : ∀ j, j < 10 → w.cell? ⟨g, off + j, none⟩ = (v.vals A c A2 c2)[j]?)
    (hK : wpList Tryz.prog ops Q rest (a.put o.dst (.agg #[.int .u8 v.kind, .int .i64 v.id, .int .i64 v.page, .slice A v.body.length c, .int .u8 v.d.kind, .int .i64 v.d.n, .int .u8 v.d.c, .int .u8 v.d.cut, .bool v.d.done, .slice A2 v.d.fate.length c2])) w) : wpList Tryz.prog ops Q (o :: rest) a w :=
  wpList_load_mid hg _ _ hop g off hx (v.vals A c A2 c2) _ (fun j y hy => by
    have hj : j < 10 := by
      refine Decidable.byContradiction fun q => ?_
      rw [List.getElem?_eq_none (by show 10 ≤ j; omega)] at hy
      cases hy
    rw [hc j hj, hy]) Tryz.underlying49 rfl (by rw [infoAct]; rfl) hK
end Go.Proofs.YtgmkbcoahilkhaaGreat.Sh
end
section
namespace Go.Proofs.YtgmkbcoahilkhaaGreat.Sh
open Go.RowKit YtgmkbcoahilkhaaGreatW.PrintWords YtgmkbcoahilkhaaGreatW.PrintLast YtgmkbcoahilkhaaGreatW.PrintMore MapFn Disk Bitset Page Num Acts
set_option maxHeartbeats 16000000
set_option maxRecDepth 100000
theorem LowB.later {w wr w' : World} {b pd : Nat} {row : Obj} {D : DiskSt} {last next : List Int} (h : LowB w wr b row pd D last next) (hb : Below wr.heap.size wr w') : LowB w w' b row pd D last next := ⟨h.on.later hb, h.db, h.down, h.will⟩
theorem cells_below {W W' : World} {g o : Nat} {l : List Value} (hl : l.length = 10) (h : ∀ j, j < 10 → W.cell? ⟨g, o + j, none⟩ = l[j]?) (hb : Below W.heap.size W W') : ∀ j, j < 10 → W'.cell? ⟨g, o + j, none⟩ = l[j]? := by
  intro j hj
  have := h j hj
  cases hv : l[j]? with
  | none =>
    rw [List.getElem?_eq_none_iff] at hv
    omega
  | some y =>
    rw [hv] at this
    exact pw_cell_below hb this
theorem shadowKeeps_any (A : Option Addr) (c : Nat) (l : List ActV) (w : World) (h : ActsAt w A l) :
    Calls Tryz.prog 6 #[.slice A l.length c] w fun e w' => e = .returned (.bool true) ∧ Below w.heap.size w w' := by
  have HF0 := few_any A c l w h
  have hmx := h.len
  obtain ⟨L, hL⟩ : ∃ L, l.length = L := ⟨_, rfl⟩
  have H := Hide.mk h
  have HL := Hide.mk hL
  rw [hL] at HF0 hmx ⊢
  have hmxL : (L : Int) ≤ 9223372036854775807 := by omega
  by_cases hf : fewB l 40 = true
  · rw [hf] at HF0
    have HFEW := Hide.mk HF0
    have hl40 : L ≤ 40 := by
      unfold fewB at hf
      have := (Bool.and_eq_true _ _ ▸ hf).1
      have := of_decide_eq_true this
      omega
    clear h hL hf HF0 hmx
    go_enter Tryz.func6, Tryz.ntmps6
    go_wp2_with (first
      | (go_at_call 26
         with_reducible refine HFEW.out.mono ?_
         rintro e wF ⟨rfl, hw⟩
         obtain rfl : w = wF := hw.symm)
      | (go_at_call 10
         refine (new_on 40 _).mono ?_
         rintro e w1 ⟨pd, rfl, hd⟩
         have HFM := Hide.mk (good_new hd)
         clear hd)
      | (go_at_call 9
         with_reducible refine HFM.out.mono ?_
         rintro e w2 ⟨p, rfl, s, last, hg, hc⟩
         have HIM := Hide.mk (hg.image hc)
         clear hg hc)
      | (go_at_call 27
         with_reducible refine HIM.out.mono ?_
         rintro e w3 ⟨rfl, s3, hg⟩
         have G3 := Hide.mk hg.plain
         clear hg))
    go_loopw [4, 5, 6, 7] (fun v4 v5 v6 v7 wr => ∃ (i p : Nat) (s : Sh) (last : List Int) (e : Int), v7 = .int .i64 (i : Int) ∧ v4 = .pointer (some ⟨p, 0, none⟩) ∧ v5 = .int .i64 e ∧ v6 = .string (strOfNums last) ∧ Hide (i ≤ L) ∧ Hide (GoodP w wr p pd s last)) (fun _ _ _ v7 _ => 100 - (intOf v7).toNat)
    case atStart => exact ⟨0, p, s3, last, 0, by first | rfl | simp, rfl, rfl, rfl, ⟨Nat.zero_le _⟩, G3⟩
    case round =>
      obtain ⟨i, p, s, last, e, rfl, rfl, rfl, rfl, hi, hG⟩ := hrel
      clear G3 HIM HFM HFEW
      by_cases hlt0 : i < L
      · have hlt : (i : Int) < (L : Int) := by omega
        have hi40 : (i : Int) ≤ 40 := by omega
        obtain ⟨g, off, rfl, hact⟩ := H.out.at_ i (by rw [HL.out]; exact hlt0)
        obtain ⟨v, hv⟩ : ∃ v, l[i]'(by rw [HL.out]; exact hlt0) = v := ⟨_, rfl⟩
        rw [hv] at hact
        obtain ⟨kd, id, page, body, dv⟩ := v
        obtain ⟨⟨Ab, cb, A2, c2, hcell, hin, hin2⟩, hwf⟩ := hact
        have hbw := hG.out.on.below
        obtain ⟨q, hq⟩ : ∃ q, Int.tmod kd 12 = q := ⟨_, rfl⟩
        have hq12 : 0 ≤ q ∧ q < 12 := by
          have h0 : 0 ≤ kd := hwf.kind.1
          rw [← hq, Int.tmod_eq_emod_of_nonneg h0]
          omega
        have HCELL := Hide.mk (cells_below rfl hcell hbw)
        have HIN := Hide.mk (show InW .u8 wr Ab body cb from hin.below hbw)
        have HFT := Hide.mk (show InW .u8 w A2 dv.fate c2 from hin2)
        have HFB := Hide.mk (show Bytes dv.fate from hwf.d.fate)
        have HBY := Hide.mk (show Bytes body from hwf.body)
        have HQ := Hide.mk hq12
        have LT := Hide.mk hlt0
        clear hcell hin hin2 hwf hbw hv hlt0 hq12
        go_upto_block 2 with (first
  | (refine load_act rfl _ rfl _ _ rfl _ _ _ _ _ HCELL.out ?_))
        clear hq
        go_cut [4, 5, 6, 9] (fun v4 v5 v6 v9 wx => ∃ (p : Nat) (e : Int) (last next : List Int), v4 = .pointer (some ⟨p, 0, none⟩) ∧ v5 = .int .i64 e ∧ v6 = .string (strOfNums last) ∧ v9 = .string (strOfNums next) ∧ Hide (AfterB w wx wr.heap.size (.cells #[.int .u8 kd, .int .i64 id, .int .i64 page, .slice Ab body.length cb, .int .u8 dv.kind, .int .i64 dv.n, .int .u8 dv.c, .int .u8 dv.cut, .bool dv.done, .slice A2 dv.fate.length c2] 49) p pd last next))
        case first =>
          have hal := (Below.refl wr.heap.size wr).alloc (Nat.le_refl _) (.cells #[.int .u8 kd, .int .i64 id, .int .i64 page, .slice Ab body.length cb, .int .u8 dv.kind, .int .i64 dv.n, .int .u8 dv.c, .int .u8 dv.cut, .bool dv.done, .slice A2 dv.fate.length c2] 49)
          have hgb : GoodB w (wr.alloc (.cells #[.int .u8 kd, .int .i64 id, .int .i64 page, .slice Ab body.length cb, .int .u8 dv.kind, .int .i64 dv.n, .int .u8 dv.c, .int .u8 dv.cut, .bool dv.done, .slice A2 dv.fate.length c2] 49)) wr.heap.size (.cells #[.int .u8 kd, .int .i64 id, .int .i64 page, .slice Ab body.length cb, .int .u8 dv.kind, .int .i64 dv.n, .int .u8 dv.c, .int .u8 dv.cut, .bool dv.done, .slice A2 dv.fate.length c2] 49) p pd s last := hG.out.boxed
          have rowb := heap_last wr (.cells #[.int .u8 kd, .int .i64 id, .int .i64 page, .slice Ab body.length cb, .int .u8 dv.kind, .int .i64 dv.n, .int .u8 dv.c, .int .u8 dv.cut, .bool dv.done, .slice A2 dv.fate.length c2] 49)
          generalize wr.alloc (.cells #[.int .u8 kd, .int .i64 id, .int .i64 page, .slice Ab body.length cb, .int .u8 dv.kind, .int .i64 dv.n, .int .u8 dv.c, .int .u8 dv.cut, .bool dv.done, .slice A2 dv.fate.length c2] 49) = WB at hal hgb rowb ⊢
          have hGb := Hide.mk hgb
          have hib := Hide.mk (HIN.out.below hal)
          have hif := Hide.mk (HFT.out.below hgb.on.below)
          have hbb := HBY
          have k1 : WB.cell? ⟨wr.heap.size, 1, none⟩ = some (.int .i64 id) := cell_of rowb
          have k2 : WB.cell? ⟨wr.heap.size, 2, none⟩ = some (.int .i64 page) := cell_of rowb
          have k3 : WB.cell? ⟨wr.heap.size, 3, none⟩ = some (.slice Ab body.length cb) := cell_of rowb
          have k5 : WB.cell? ⟨wr.heap.size, 5, none⟩ = some (.int .i64 dv.n) := cell_of rowb
          have k8 : WB.cell? ⟨wr.heap.size, 8, none⟩ = some (.bool dv.done) := cell_of rowb
          have k9 : WB.cell? ⟨wr.heap.size, 9, none⟩ = some (.slice A2 dv.fate.length c2) := cell_of rowb
          have hql := HQ.out
          clear hal hgb rowb HCELL HIN HBY hG
          rcases (by omega : q = 0 ∨ q = 1 ∨ q = 2 ∨ q = 3 ∨ q = 4 ∨ q = 5 ∨ q = 6 ∨ q = 7 ∨ q = 8 ∨ q = 9 ∨ q = 10 ∨ q = 11) with rfl | rfl | rfl | rfl | rfl | rfl | rfl | rfl | rfl | rfl | rfl | rfl
          · have HAL := Hide.mk (hGb.out.alloc page hib.out hbb.out last)
            go_wp2_with (first
              | (go_at_call 19
                 with_reducible refine HAL.out.mono ?_
                 rintro e2 w5 ⟨id5, er5, rfl, hg⟩
                 have G5 := Hide.mk hg
                 clear hg))
            go_meet
            exact ⟨p, e, last, last, rfl, rfl, rfl, rfl, G5⟩
          · have HAL := Hide.mk (hGb.out.alloc page hib.out hbb.out last)
            go_wp2_with (first
              | (go_at_call 19
                 with_reducible refine HAL.out.mono ?_
                 rintro e2 w5 ⟨id5, er5, rfl, hg⟩
                 have G5 := Hide.mk hg
                 clear hg))
            go_meet
            exact ⟨p, e, last, last, rfl, rfl, rfl, rfl, G5⟩
          · have HAL := Hide.mk (hGb.out.alloc page hib.out hbb.out last)
            go_wp2_with (first
              | (go_at_call 19
                 with_reducible refine HAL.out.mono ?_
                 rintro e2 w5 ⟨id5, er5, rfl, hg⟩
                 have G5 := Hide.mk hg
                 clear hg))
            go_meet
            exact ⟨p, e, last, last, rfl, rfl, rfl, rfl, G5⟩
          · have HAL := Hide.mk (hGb.out.write id page hib.out hbb.out last)
            go_wp2_with (first
              | (go_at_call 29
                 with_reducible refine HAL.out.mono ?_
                 rintro e2 w5 ⟨er5, rfl, hg⟩
                 have G5 := Hide.mk hg
                 clear hg))
            go_meet
            exact ⟨p, e, last, last, rfl, rfl, rfl, rfl, G5⟩
          · have HAL := Hide.mk (hGb.out.write id page hib.out hbb.out last)
            go_wp2_with (first
              | (go_at_call 29
                 with_reducible refine HAL.out.mono ?_
                 rintro e2 w5 ⟨er5, rfl, hg⟩
                 have G5 := Hide.mk hg
                 clear hg))
            go_meet
            exact ⟨p, e, last, last, rfl, rfl, rfl, rfl, G5⟩
          · have HAL := Hide.mk (hGb.out.free id last)
            go_wp2_with (first
              | (go_at_call 23
                 with_reducible refine HAL.out.mono ?_
                 rintro e2 w5 ⟨er5, rfl, hg⟩
                 have G5 := Hide.mk hg
                 clear hg))
            go_meet
            exact ⟨p, e, last, last, rfl, rfl, rfl, rfl, G5⟩
          · have HAL := Hide.mk (hGb.out.setStart id last)
            go_wp2_with (first
              | (go_at_call 28
                 with_reducible refine HAL.out.mono ?_
                 rintro e2 w5 ⟨er5, rfl, hg⟩
                 have G5 := Hide.mk hg
                 clear hg))
            go_meet
            exact ⟨p, e, last, last, rfl, rfl, rfl, rfl, G5⟩
          · obtain ⟨kk, hIM⟩ := hGb.out.image
            obtain ⟨M, hM⟩ : ∃ M, imgOf s.D.get s.table s.start = M := ⟨_, rfl⟩
            rw [hM] at hIM
            have HIM := Hide.mk hIM
            obtain ⟨s2, hs2⟩ : ∃ s2, ({ s with D := { s.D with reads := kk } } : Sh) = s2 := ⟨_, rfl⟩
            have hMM : Hide (imgOf s2.D.get s2.table s2.start = M) := ⟨by rw [← hs2]; exact hM⟩
            rw [hs2] at HIM
            clear hIM hM hs2
            by_cases he : s2.commit.2 = 0
            · have HC0 := Hide.mk he
              clear he
              go_wp2_with (first
                | (go_at_call 27
                   with_reducible refine HIM.out.mono ?_
                   rintro e2 w4 ⟨rfl, hg⟩
                   have HCM := Hide.mk (hg.commit0 HC0.out)
                   clear hg)
                | (go_at_call 20
                   with_reducible refine HCM.out.mono ?_
                   rintro e2 w5 ⟨rfl, s5, hg⟩
                   have G5 := Hide.mk (show GoodB w w5 wr.heap.size (.cells #[.int .u8 kd, .int .i64 id, .int .i64 page, .slice Ab body.length cb, .int .u8 dv.kind, .int .i64 dv.n, .int .u8 dv.c, .int .u8 dv.cut, .bool dv.done, .slice A2 dv.fate.length c2] 49) p pd s5 M from hMM.out ▸ hg)
                   clear hg))
              go_meet
              exact ⟨p, e, M, M, rfl, rfl, rfl, rfl, ⟨.inl ⟨s5, G5.out⟩⟩⟩
            · have HC0 := Hide.mk he
              obtain ⟨er, her⟩ : ∃ er, s2.commit.2 = er := ⟨_, rfl⟩
              have hz : (er == 0) = false := by rw [← her]; simpa using he
              have HER := Hide.mk her
              clear her he
              go_wp2_with (first
                | (go_at_call 27
                   with_reducible refine HIM.out.mono ?_
                   rintro e2 w4 ⟨rfl, hg⟩
                   have hcm := hg.commitE HC0.out
                   rw [HER.out] at hcm
                   have HCM := Hide.mk hcm
                   clear hg hcm)
                | (go_at_call 20
                   with_reducible refine HCM.out.mono ?_
                   rintro e2 w5 ⟨rfl, hg⟩
                   have G5 := Hide.mk (show AfterB w w5 wr.heap.size (.cells #[.int .u8 kd, .int .i64 id, .int .i64 page, .slice Ab body.length cb, .int .u8 dv.kind, .int .i64 dv.n, .int .u8 dv.c, .int .u8 dv.cut, .bool dv.done, .slice A2 dv.fate.length c2] 49) p pd last M from hMM.out ▸ hg)
                   clear hg))
              go_meet
              exact ⟨p, e, last, M, rfl, rfl, rfl, rfl, G5⟩
          · have HAL := Hide.mk (hGb.out.abort last)
            go_wp2_with (first
              | (go_at_call 25
                 with_reducible refine HAL.out.mono ?_
                 rintro e2 w5 ⟨rfl, hg⟩
                 have G5 := Hide.mk hg
                 clear hg))
            go_meet
            exact ⟨p, e, last, last, rfl, rfl, rfl, rfl, G5⟩
          · have HCR := Hide.mk (hGb.out.crash hif.out HFB.out)
            go_wp2_with (first
              | (go_at_call 32
                 with_reducible refine HCR.out.mono ?_
                 rintro e2 w5 ⟨rfl, D5, r5, t5, hd, hdb, hup, hs, hi⟩
                 have HOP := Hide.mk (reopen hd hdb hup hs hi)
                 clear hd hdb hup hs hi)
              | (go_at_call 30
                 with_reducible refine HOP.out.mono ?_
                 rintro e2 w6 ⟨p6, rfl, s6, hg, hc⟩
                 have HIM := Hide.mk (hg.seen hc)
                 clear hg hc)
              | (go_at_call 27
                 with_reducible refine HIM.out.mono ?_
                 rintro e2 w7 ⟨rfl, s7, hg⟩
                 have G7 := Hide.mk hg
                 clear hg))
            go_meet
            exact ⟨p6, 0, last, last, rfl, rfl, rfl, rfl, ⟨.inl ⟨s7, G7.out⟩⟩⟩
          · go_wp2_with (first
              | (go_at_call 31
                 refine (hGb.out.fail _ _ last).mono ?_
                 rintro e2 w5 ⟨er5, rfl, hg⟩
                 have G5 := Hide.mk hg
                 clear hg))
            go_meet
            exact ⟨p, e, last, last, rfl, rfl, rfl, rfl, G5⟩
          · have HCR := Hide.mk (hGb.out.crash hif.out HFB.out)
            go_wp2_with (first
              | (go_at_call 32
                 with_reducible refine HCR.out.mono ?_
                 rintro e2 w5 ⟨rfl, D5, r5, t5, hd, hdb, hup, hs, hi⟩
                 have HOP := Hide.mk (reopen hd hdb hup hs hi)
                 clear hd hdb hup hs hi)
              | (go_at_call 30
                 with_reducible refine HOP.out.mono ?_
                 rintro e2 w6 ⟨p6, rfl, s6, hg, hc⟩
                 have HIM := Hide.mk (hg.seen hc)
                 clear hg hc)
              | (go_at_call 27
                 with_reducible refine HIM.out.mono ?_
                 rintro e2 w7 ⟨rfl, s7, hg⟩
                 have G7 := Hide.mk hg
                 clear hg))
            go_meet
            exact ⟨p6, 0, last, last, rfl, rfl, rfl, rfl, ⟨.inl ⟨s7, G7.out⟩⟩⟩
        case rest =>
          obtain ⟨p, e, last, next, rfl, rfl, rfl, rfl, hA⟩ := hcut
          clear HCELL HIN HBY HQ hG
          rcases hA.out with ⟨s, hG2⟩ | ⟨D, hLw0⟩
          · have hdn := down_onB hG2.on.disk
            rw [hG2.inv.up] at hdn
            have HDN := Hide.mk hdn
            clear hA hdn
            go_wp2_with (first
              | (go_at_call 33
                 with_reducible refine HDN.out.mono ?_
                 rintro e2 w8 ⟨rfl, hb⟩
                 have G8 := Hide.mk (hG2.later hb).plain
                 clear hb))
            go_roundw
            case rel => exact ⟨i + 1, p, s, last, e, by go_num, rfl, rfl, rfl, ⟨by have := LT.out; omega⟩, G8⟩
            case measure => simp [intOf]; omega
          · have hdn := down_onB hLw0.on
            rw [hLw0.down] at hdn
            have HDN := Hide.mk hdn
            have hLw := Hide.mk hLw0
            clear hA hdn hLw0
            go_upto_region 43 with (first
              | (go_at_call 33
                 with_reducible refine HDN.out.mono ?_
                 rintro e2 w8 ⟨rfl, hb⟩
                 have hl := hLw.out.later hb
                 have k9 : w8.cell? ⟨wr.heap.size, 9, none⟩ = some (.slice A2 dv.fate.length c2) := cell_of hl.on.box
                 have HCR := Hide.mk (hl.crash (HFT.out.below hl.on.below) HFB.out)
                 clear hb hl)
              | (go_at_call 32
                 with_reducible refine HCR.out.mono ?_
                 rintro e2 w5 ⟨rfl, D5, r5, t5, img, hd, hdb, hup, hs, hi, hor⟩
                 have HOP := Hide.mk (reopen hd hdb hup hs hi)
                 have HOR := Hide.mk hor
                 clear hd hdb hup hs hi hor)
              | (go_at_call 30
                 with_reducible refine HOP.out.mono ?_
                 rintro e2 w6 ⟨p6, rfl, s6, hg, hc⟩
                 have HIM := Hide.mk (hg.seen hc)
                 clear hg hc)
              | (go_at_call 27
                 with_reducible refine HIM.out.mono ?_
                 rintro e2 w7 ⟨rfl, s7, hg⟩
                 have G7 := Hide.mk hg
                 clear hg))
            clear k9
            by_cases hlast : img = last
            · subst hlast
              clear HOR
              go_wp2_with fail
              go_roundw
              case rel => exact ⟨i + 1, p6, s7, img, 0, by go_num, rfl, rfl, rfl, ⟨by have := LT.out; omega⟩, ⟨G7.out.plain⟩⟩
              case measure => simp [intOf]; omega
            · obtain rfl : next = img := (HOR.out.resolve_left hlast).symm
              clear hlast HOR
              by_cases hc : (strOfNums next).toList = (strOfNums last).toList
              · go_wp2_with fail
                go_roundw
                case rel => exact ⟨i + 1, p6, s7, next, 0, by go_num, rfl, rfl, rfl, ⟨by have := LT.out; omega⟩, ⟨G7.out.plain⟩⟩
                case measure => simp [intOf]; omega
              · go_wp2_with fail
                go_roundw
                case rel => exact ⟨i + 1, p6, s7, next, 0, by go_num, rfl, rfl, rfl, ⟨by have := LT.out; omega⟩, ⟨G7.out.plain⟩⟩
                case measure => simp [intOf]; omega
      · have hlt : ¬ (i : Int) < (L : Int) := by omega
        have B3 := Hide.mk hG.out.on.below
        clear hlt0 hG
        go_wp2_with (first
          | (go_at_call 18
             refine (awake_any _).mono ?_
             rintro e wA ⟨rfl, hb⟩
             have BA := Hide.mk hb
             clear hb))
        go_ret
        exact ⟨rfl, B3.out.trans (BA.out.mono B3.out.size)⟩
  · have hf : fewB l 40 = false := by simpa using hf
    rw [hf] at HF0
    have HFEW := Hide.mk HF0
    clear h hL hf HF0 hmx
    go_enter Tryz.func6, Tryz.ntmps6
    go_wp2_with (first
      | (go_at_call 26
         with_reducible refine HFEW.out.mono ?_
         rintro e wF ⟨rfl, hw⟩
         obtain rfl : w = wF := hw.symm)
      | (go_at_call 18
         refine (awake_any _).mono ?_
         rintro e wA ⟨rfl, hb⟩
         have BA := Hide.mk hb
         clear hb))
    go_ret
    exact ⟨rfl, BA.out⟩
end Go.Proofs.YtgmkbcoahilkhaaGreat.Sh
end
section
namespace Go.Proofs.YtgmkbcoahilkhaaGreatW.PrintWords
open Go.ChangeShapes Go.WideShapes
end Go.Proofs.YtgmkbcoahilkhaaGreatW.PrintWords
end
