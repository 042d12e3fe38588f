/- The words, and the contracts of the functions that are reached, one behind the other. -/
import Derived.Shelf.SlIterI.Nil
import Derived.Shelf.SortM.Plain
import Derived.Shelf.SortM.SortNone
import Derived.Ground.GgzProg
import Derived.Ground.SlgmProg
import Derived.Test.YtgmkbcoahilkhaaGreatProg
import Derived.Lib.SlBytesConst
import Derived.Test.YtgmkbcoahilkhaaGreatSFF
section
namespace Go.Proofs.YtgmkbcoahilkhaaGreat.Sh
open Go.RowKit Go.Proofs.YtgmkbcoahilkhaaGreat.Disk Go.Proofs.YtgmkbcoahilkhaaGreat.Page Go.Proofs.YtgmkbcoahilkhaaGreat.Num Go.Proofs.YtgmkbcoahilkhaaGreat.Bitset
set_option linter.unusedVariables false
def DiskSt.crash0 (D : DiskSt) : DiskSt := { D.settled with down := false, done := false, fails := -1 }
def awF : Sh × Int := Sh.format (DiskSt.new 20)
def awA : Sh × Int × Int := awF.1.alloc 5 [120]
def awC : Sh × Int := awA.1.commit
def awO : Sh × Int := Sh.open_ (DiskSt.crash0 awC.1.D)
def awR : Sh × Int × List Int × Int := awO.1.read 1
theorem aw_format : decide (awF.2 = 0) && decide (awF.1.D.ops = 5) = true := by decide +kernel
theorem aw_alloc : (decide (awA.2 = (1, 0)) && decide (awA.1.usedN = 4) && awA.1.dirty) = true := by decide +kernel
theorem aw_commit : (decide (awC.2 = 0) && decide (awC.1.usedN = 5) && decide (awC.1.root.epoch = 1)) = true := by decide +kernel
theorem aw_open : (decide (awO.2 = 0) && decide (awO.1.ids.length = 1)) = true := by decide +kernel
theorem aw_read : (decide (awR.2 = (5, [120], 0)) && decide (awR.1.D.reads = 5)) = true := by decide +kernel
end Go.Proofs.YtgmkbcoahilkhaaGreat.Sh
end
section
namespace Go.Proofs.YtgmkbcoahilkhaaGreat.Sh
open Go.RowKit Go.Proofs.YtgmkbcoahilkhaaGreat.Disk Go.Proofs.YtgmkbcoahilkhaaGreat.Page Go.Proofs.YtgmkbcoahilkhaaGreat.Num Go.Proofs.YtgmkbcoahilkhaaGreat.Bitset Go.Proofs.YtgmkbcoahilkhaaGreat.MapFn
set_option linter.unusedVariables false
structure DB (D : DiskSt) : Prop where
  safe : ∀ j l, D.safe j = some l → Bytes l
  loose : ∀ j l, D.loose j = some l → Bytes l
theorem zeros_bytes : Bytes zeros := by
  intro x hx
  simp only [zeros, List.mem_replicate] at hx
  rw [hx.2]
  exact ⟨by decide, by decide⟩
theorem DB.get {D : DiskSt} (h : DB D) (n : Int) : Bytes (D.get n) := by
  unfold DiskSt.get
  cases h1 : D.loose n with
  | some l => exact h.loose n l h1
  | none =>
    cases h2 : D.safe n with
    | some l => exact h.safe n l h2
    | none => exact zeros_bytes
theorem DB.new (n : Int) : DB (DiskSt.new n) := ⟨(fun j l h => by cases h), (fun j l h => by cases h)⟩
theorem DB.of {D E : DiskSt} (h : DB D) (h1 : E.safe = D.safe) (h2 : E.loose = D.loose) : DB E := ⟨by rw [h1]; exact h.safe, by rw [h2]; exact h.loose⟩
theorem DB.read {D : DiskSt} (h : DB D) : DB D.read := h.of rfl rfl
theorem merge_bytes {ms ml : Int → Option (List Int)} (h1 : ∀ j l, ms j = some l → Bytes l) (h2 : ∀ j l, ml j = some l → Bytes l) : ∀ j l, mergeM ms ml j = some l → Bytes l := by
  intro j l h
  unfold mergeM at h
  cases hm : ml j with
  | some y => rw [hm] at h; cases h; exact h2 j _ hm
  | none => rw [hm] at h; exact h1 j l h
theorem DB.settled {D : DiskSt} (h : DB D) : DB D.settled := ⟨merge_bytes h.safe h.loose, (fun j l h => by cases h)⟩
theorem DB.step {D : DiskSt} (h : DB D) {act : DiskSt → DiskSt} (ha : ∀ E, DB E → DB (act E)) : DB (D.step act).1 := by
  have ho : DB D.op := h.of rfl rfl
  have hf : ∀ E, DB E → DB E.fail1 := fun E h => h.of rfl rfl
  have hd : ∀ E, DB E → DB E.dead := fun E h => h.of rfl rfl
  unfold DiskSt.step
  repeat' split
  all_goals first | exact ho | exact hf _ ho | exact ha _ ho | exact ha _ (hf _ ho) | exact hd _ (ha _ ho) | exact hd _ (ha _ (hf _ ho)) | exact hd _ ho | exact hd _ (hf _ ho)
theorem DB.sync {D : DiskSt} (h : DB D) : DB D.sync.1 := by
  unfold DiskSt.sync
  split
  · exact h
  · exact h.step fun E he => he.settled
theorem DB.write {D : DiskSt} (h : DB D) (n : Int) {l : List Int} (hb : Bytes l) : DB (D.write n l).1 := by
  unfold DiskSt.write
  split
  · exact h
  · split
    · exact h
    · exact h.step fun E he => ⟨he.safe, fun j x hx => by
        simp only [DiskSt.wrote, upd] at hx
        by_cases c : j = n
        · rw [if_pos c] at hx; cases hx; exact hb
        · rw [if_neg c] at hx; exact he.loose j x hx⟩
theorem DB.wr {s : Sh} (h : DB s.D) (n : Int) {b : List Int} (hb : Bytes b) : DB (s.wr n b).1.D := h.write n hb
theorem DB.shsync {s : Sh} (h : DB s.D) : DB s.sync.1.D := h.sync
theorem DB.layF (kind : Int) (bl : List Int) : ∀ (ps : List (List Int)) (i : Nat) (s : Sh), DB s.D → (∀ p ∈ ps, Bytes p) → DB (Sh.layF kind bl ps i s).1.D
  | [], _, s, h, _ => h
  | p :: ps, i, s, h, hb => by
    rw [layF_cons]
    split
    · exact h
    · rename_i hs
      have hp : Bytes (sealL kind i p) := seal_bytes (hb p (by simp)) (by simpa using hs)
      split
      · exact h.wr _ hp
      · exact DB.layF kind bl ps (i + 1) _ (h.wr _ hp) (fun q hq => hb q (by simp [hq]))
theorem DB.crown {s : Sh} (h : DB s.D) (r : Root) : DB (s.crown r).1.D := by
  unfold Sh.crown
  split
  · exact h.shsync
  · split
    · exact h.shsync
    · rename_i hk
      have hb : Bytes r.bytes := bytes_bytes (by simpa using hk)
      split
      · exact h.shsync.wr _ hb
      · exact (h.shsync.wr _ hb).shsync
theorem DB.place {s : Sh} (h : DB s.D) (id n : Int) {b : List Int} (hb : Bytes b) : DB (s.place id n b).1.D := by
  unfold Sh.place
  split
  · exact h.wr _ hb
  · exact h.wr _ hb
theorem DB.alloc {s : Sh} (h : DB s.D) (kind : Int) {b : List Int} (hb : Bytes b) : DB (s.alloc kind b).1.D := by
  unfold Sh.alloc
  split
  · exact h
  · split
    · exact h
    · split
      · exact h
      · rename_i hs
        split
        · exact h
        · simp only
          split
          · exact h.place _ _ (seal_bytes hb (by simpa using hs))
          · exact h.place _ _ (seal_bytes hb (by simpa using hs))
theorem DB.commit {s : Sh} (h : DB s.D) : DB s.commit.1.D := by
  unfold Sh.commit
  split
  · exact h
  · split
    · exact h
    · simp only
      split
      · exact h
      · split
        · exact h
        · rename_i l _ _
          have h1 := DB.layF 1 (s.next (splitL 246 (wordsL (s.table.drop 1))).length l).tables (splitL 246 (wordsL (s.table.drop 1))) 0 s h (splitL_bytes (wordsL_bytes _))
          split
          · exact h1
          · have h2 := DB.layF 2 (s.next (splitL 246 (wordsL (s.table.drop 1))).length l).maps (splitL 246 (usedL (s.next (splitL 246 (wordsL (s.table.drop 1))).length l) s.table)) 0 _ h1 (splitL_bytes (usedL_bytes _ _))
            split
            · exact h2
            · split
              · exact h2.crown _
              · exact h2.crown _
theorem DB.format {D : DiskSt} (h : DB D) : DB (Sh.format D).1.D := by
  have key : ∀ (U : List (List Int)) (m : List Int) (s0 : Sh) (r : Root), DB s0.D → (∀ p ∈ U, Bytes p) → DB (if (s0.lay 2 U m).2 ≠ 0 then s0.lay 2 U m else if ((s0.lay 2 U m).1.crown r).2 ≠ 0 then (s0.lay 2 U m).1.crown r else (((s0.lay 2 U m).1.crown r).1.settle r, 0)).1.D := by
    intro U m s0 r h0 hU
    have h1 : DB (s0.lay 2 U m).1.D := DB.layF 2 m U 0 s0 h0 hU
    split
    · exact h1
    · split
      · exact h1.crown _
      · exact h1.crown _
  have hU := splitL_bytes (n := 246) (usedL_bytes (firstRoot D.blocks) [0])
  unfold Sh.format
  split
  · exact h
  · split
    · exact h.write 1 zeros_bytes
    · refine key _ _ _ _ (h.write 1 zeros_bytes) hU
theorem DB.same {D E : DiskSt} (h : DB D) (hs : ∀ j, E.safe j = D.safe j) (hl : ∀ j, E.loose j = D.loose j) : DB E := ⟨(fun j l e => h.safe j l (by rw [← hs]; exact e)), (fun j l e => h.loose j l (by rw [← hl]; exact e))⟩
def bytesB (l : List Int) : Bool := l.all fun x => decide (0 ≤ x) && decide (x < 256)
theorem bytesB_ok {l : List Int} (h : bytesB l = true) : Bytes l := by
  intro x hx
  simp only [bytesB, List.all_eq_true, Bool.and_eq_true, decide_eq_true_eq] at h
  exact h x hx
def tabB (l : List Int) : Bool := decide (0 < l.length) && decide (l.length ≤ 3001) && l.all fun n => decide (0 ≤ n) && decide (n < 4096)
theorem tabB_ok {l : List Int} (h : tabB l = true) : 0 < l.length ∧ l.length ≤ 3001 ∧ ∀ n ∈ l, 0 ≤ n ∧ n < 4096 := by
  simp only [tabB, List.all_eq_true, Bool.and_eq_true, decide_eq_true_eq] at h
  exact ⟨h.1.1, h.1.2, h.2⟩
def okB (s : Sh) : Bool := decide (s.used.length ≤ 512) && bytesB s.used && decide (s.fresh.length ≤ 512) && bytesB s.fresh && tabB s.table && tabB s.was && decide (0 ≤ s.root.blocks) && decide (s.root.blocks ≤ 4096) &&
  decide (0 ≤ s.root.epoch) && decide (s.root.epoch ≤ 1099511627776) && decide (s.root.tables.length ≤ 1000) && decide (s.root.maps.length ≤ 1000)
theorem okB_ok {s : Sh} (h : okB s = true) : Ok s := by
  simp only [okB, Bool.and_eq_true, decide_eq_true_eq] at h
  obtain ⟨⟨⟨⟨⟨⟨⟨⟨⟨⟨⟨h1, h2⟩, h3⟩, h4⟩, h5⟩, h6⟩, h7⟩, h8⟩, h9⟩, h10⟩, h11⟩, h12⟩ := h
  exact ⟨⟨h1, bytesB_ok h2⟩, ⟨h3, bytesB_ok h4⟩, tabB_ok h5, tabB_ok h6, ⟨h7, h8⟩, ⟨h9, h10⟩, ⟨h11, h12⟩⟩
def nxB (s : Sh) : Bool := decide (1 ≤ mapsOf s.root.blocks) &&
  match s.lowest ((splitL 246 (wordsL (s.table.drop 1))).length + mapsOf s.root.blocks) with
  | none => true
  | some l => decide ((s.next (splitL 246 (wordsL (s.table.drop 1))).length l).check = 0)
theorem nxB_ok {s : Sh} (h : nxB s = true) : 1 ≤ mapsOf s.root.blocks ∧ ∀ l, s.lowest ((splitL 246 (wordsL (s.table.drop 1))).length + mapsOf s.root.blocks) = some l → s.root.epoch < 1099511627776 → (s.next (splitL 246 (wordsL (s.table.drop 1))).length l).check = 0 := by
  unfold nxB at h
  simp only [Bool.and_eq_true, decide_eq_true_eq] at h
  refine ⟨h.1, fun l hl _ => ?_⟩
  have := h.2
  rw [hl] at this
  simpa using this
theorem Ok.on {s : Sh} (h : Ok s) (D : DiskSt) : Ok (s.on D) := ⟨h.used, h.fresh, h.table, h.was, h.blocks, h.epoch, h.tabs⟩
theorem aw_ok : (okB awF.1 && okB awA.1 && nxB awA.1 && okB awC.1 && okB awO.1) = true := by decide +kernel
theorem aw_ok2 : (okB awR.1 && decide (awR.1.ids.length = 1)) = true := by decide +kernel
theorem roots_D (D : DiskSt) : ∃ n, (roots D).1 = { D with reads := n } := by
  unfold roots
  split
  · exact ⟨D.reads, rfl⟩
  · split
    · exact ⟨_, rfl⟩
    · exact ⟨_, rfl⟩
theorem gatherF_D (kind : Int) : ∀ (bl : List Int) (i : Nat) (D : DiskSt) (out : List Int), ∃ n, (Sh.gatherF kind bl i D out).1 = { D with reads := n }
  | [], i, D, out => ⟨D.reads, rfl⟩
  | b :: ns, i, D, out => by
    rw [gatherF_cons]
    split
    · exact ⟨D.reads, rfl⟩
    · split
      · exact ⟨_, rfl⟩
      · obtain ⟨n, h⟩ := gatherF_D kind ns (i + 1) D.read (out ++ (openL (D.get b)).2.2.1)
        exact ⟨n, by rw [h]; rfl⟩
theorem open_D (D : DiskSt) : ∃ n, (Sh.open_ D).1.D = { D with reads := n } := by
  obtain ⟨n1, h1⟩ := roots_D D
  have h2 : ∃ n, (gather (roots D).1 1 (roots D).2.1.tables).1 = { D with reads := n } := by
    obtain ⟨n, h⟩ := gatherF_D 1 (roots D).2.1.tables 0 (roots D).1 []
    exact ⟨n, by unfold gather; rw [h, h1]⟩
  have h3 : ∃ n, (gather (gather (roots D).1 1 (roots D).2.1.tables).1 2 (roots D).2.1.maps).1 = { D with reads := n } := by
    obtain ⟨n2, h2⟩ := h2
    obtain ⟨n, h⟩ := gatherF_D 2 (roots D).2.1.maps 0 (gather (roots D).1 1 (roots D).2.1.tables).1 []
    refine ⟨n, ?_⟩
    show (Sh.gatherF 2 (roots D).2.1.maps 0 (gather (roots D).1 1 (roots D).2.1.tables).1 []).1 = _
    rw [h, h2]
  unfold Sh.open_
  simp only
  split
  · exact ⟨n1, h1⟩
  · split
    · exact h2
    · split
      · exact h3
      · split
        · exact h3
        · split
          · exact h3
          · exact h3
theorem DB.open_ {D : DiskSt} (h : DB D) : DB (Sh.open_ D).1.D := by
  obtain ⟨n, e⟩ := open_D D
  rw [e]
  exact h.of rfl rfl
end Go.Proofs.YtgmkbcoahilkhaaGreat.Sh
end
section
namespace Go.Proofs
open Go.Shelf
def Tryz.keysA_ren : Go.Shelf.Ren := ⟨fun | 7 => 113 | 10 => 166 | n => n, fun | 23 => 75 | 26 => 3 | 3 => 110 | 28 => 149 | 0 => 0 | 27 => 148 | 33 => 198 | 4 => 4 | n => n, fun | n => n⟩
theorem Tryz.keysA : Go.Proofs.SlLaysZI.n7 Tryz.prog Tryz.keysA_ren := {
  mixed := by kernel_rfl
  f7 := ⟨Tryz.f113.name, by decide, Tryz.func113.trans (congrArg some (by kernel_rfl))⟩
  f10 := ⟨Tryz.f166.name, by decide, Tryz.func166.trans (congrArg some (by kernel_rfl))⟩
  t0 := Tryz.underlying0
  a0 := Tryz.isAgg0
  z0 := Tryz.sizeOf0
  v0 := Tryz.zeroValue0
  t4 := Tryz.underlying4
  a4 := Tryz.isAgg4
  z4 := Tryz.sizeOf4
  v4 := Tryz.zeroValue4
  t23 := Tryz.underlying75
  a23 := Tryz.isAgg75
  z23 := Tryz.sizeOf75
  v23 := Tryz.zeroValue75
  t26 := Tryz.underlying3
  a26 := Tryz.isAgg3
  z26 := Tryz.sizeOf3
  v26 := Tryz.zeroValue3
  t27 := Tryz.underlying148
  a27 := Tryz.isAgg148
  z27 := Tryz.sizeOf148
  v27 := Tryz.zeroValue148
  t28 := Tryz.underlying149
  a28 := Tryz.isAgg149
  z28 := Tryz.sizeOf149
  v28 := Tryz.zeroValue149
  t33 := Tryz.underlying198
  a33 := Tryz.isAgg198
  z33 := Tryz.sizeOf198
  v33 := Tryz.zeroValue198 }
def Tryz.sortedA_ren : Go.Shelf.Ren := ⟨fun | 6 => 112 | 8 => 165 | 9 => 52 | 11 => 203 | 13 => 100 | 12 => 99 | 23 => 157 | 24 => 158 | 14 => 148 | 15 => 149 | 16 => 150 | 17 => 151 | 18 => 152 | 19 => 153 | 20 => 154 | 21 => 155 | 22 => 156 | 25 => 192 | 26 => 193 | 27 => 194 | 28 => 195 | 29 => 196 | 30 => 197 | 31 => 211 | n => n, fun | 26 => 3 | 28 => 149 | 24 => 38 | 0 => 0 | 3 => 3 | 37 => 53 | 48 => 189 | 50 => 191 | 4 => 4 | 40 => 182 | 39 => 181 | 45 => 138 | 5 => 5 | 9 => 9 | 51 => 221 | 55 => 225 | 57 => 241 | 58 => 215 | 33 => 198 | n => n, fun | n => n⟩
theorem Tryz.sortedA : Go.Proofs.SlLaysZI.n6 Tryz.prog Tryz.sortedA_ren := {
  mixed := by kernel_rfl
  f6 := ⟨Tryz.f112.name, by decide, Tryz.func112.trans (congrArg some (by kernel_rfl))⟩
  f8 := ⟨Tryz.f165.name, by decide, Tryz.func165.trans (congrArg some (by kernel_rfl))⟩
  f11 := ⟨Tryz.f203.name, by decide, Tryz.func203.trans (congrArg some (by kernel_rfl))⟩
  t0 := Tryz.underlying0
  a0 := Tryz.isAgg0
  z0 := Tryz.sizeOf0
  v0 := Tryz.zeroValue0
  t24 := Tryz.underlying38
  a24 := Tryz.isAgg38
  z24 := Tryz.sizeOf38
  v24 := Tryz.zeroValue38
  t26 := Tryz.underlying3
  a26 := Tryz.isAgg3
  z26 := Tryz.sizeOf3
  v26 := Tryz.zeroValue3
  t28 := Tryz.underlying149
  a28 := Tryz.isAgg149
  z28 := Tryz.sizeOf149
  v28 := Tryz.zeroValue149
  i26 := by kernel_rfl }
def Tryz.sortA_ren : Go.Shelf.Ren := ⟨fun | 5 => 52 | 8 => 100 | 7 => 99 | 19 => 157 | 20 => 158 | 10 => 148 | 11 => 149 | 12 => 150 | 13 => 151 | 14 => 152 | 15 => 153 | 16 => 154 | 17 => 155 | 18 => 156 | 30 => 192 | 31 => 193 | 32 => 194 | 33 => 195 | 34 => 196 | 35 => 197 | 40 => 211 | n => n, fun | 23 => 38 | 25 => 3 | 3 => 3 | 32 => 53 | 22 => 38 | 0 => 0 | 44 => 189 | 46 => 191 | 4 => 4 | 36 => 182 | 35 => 181 | 41 => 138 | 5 => 5 | 9 => 9 | 53 => 221 | 57 => 225 | 63 => 241 | 64 => 215 | n => n, fun | n => n⟩
theorem Tryz.sortA : Go.Proofs.SlLaysM.n5 Tryz.prog Tryz.sortA_ren := {
  mixed := by kernel_rfl
  f5 := ⟨Tryz.f52.name, by decide, Tryz.func52.trans (congrArg some (by kernel_rfl))⟩
  f7 := ⟨Tryz.f99.name, by decide, Tryz.func99.trans (congrArg some (by kernel_rfl))⟩
  f8 := Tryz.func100.trans (congrArg some (by kernel_rfl))
  f10 := ⟨Tryz.f148.name, by decide, Tryz.func148.trans (congrArg some (by kernel_rfl))⟩
  f11 := ⟨Tryz.f149.name, by decide, Tryz.func149.trans (congrArg some (by kernel_rfl))⟩
  f12 := ⟨Tryz.f150.name, by decide, Tryz.func150.trans (congrArg some (by kernel_rfl))⟩
  f13 := ⟨Tryz.f151.name, by decide, Tryz.func151.trans (congrArg some (by kernel_rfl))⟩
  f14 := ⟨Tryz.f152.name, by decide, Tryz.func152.trans (congrArg some (by kernel_rfl))⟩
  f15 := ⟨Tryz.f153.name, by decide, Tryz.func153.trans (congrArg some (by kernel_rfl))⟩
  f16 := ⟨Tryz.f154.name, by decide, Tryz.func154.trans (congrArg some (by kernel_rfl))⟩
  f17 := ⟨Tryz.f155.name, by decide, Tryz.func155.trans (congrArg some (by kernel_rfl))⟩
  f18 := ⟨Tryz.f156.name, by decide, Tryz.func156.trans (congrArg some (by kernel_rfl))⟩
  f19 := Tryz.func157.trans (congrArg some (by kernel_rfl))
  f20 := Tryz.func158.trans (congrArg some (by kernel_rfl))
  f30 := ⟨Tryz.f192.name, by decide, Tryz.func192.trans (congrArg some (by kernel_rfl))⟩
  f31 := Tryz.func193.trans (congrArg some (by kernel_rfl))
  f32 := Tryz.func194.trans (congrArg some (by kernel_rfl))
  f33 := ⟨Tryz.f195.name, by decide, Tryz.func195.trans (congrArg some (by kernel_rfl))⟩
  f34 := ⟨Tryz.f196.name, by decide, Tryz.func196.trans (congrArg some (by kernel_rfl))⟩
  f35 := ⟨Tryz.f197.name, by decide, Tryz.func197.trans (congrArg some (by kernel_rfl))⟩
  f40 := ⟨Tryz.f211.name, by decide, Tryz.func211.trans (congrArg some (by kernel_rfl))⟩
  t0 := Tryz.underlying0
  a0 := Tryz.isAgg0
  z0 := Tryz.sizeOf0
  v0 := Tryz.zeroValue0
  t3 := Tryz.underlying3
  a3 := Tryz.isAgg3
  z3 := Tryz.sizeOf3
  v3 := Tryz.zeroValue3
  t4 := Tryz.underlying4
  a4 := Tryz.isAgg4
  z4 := Tryz.sizeOf4
  v4 := Tryz.zeroValue4
  t5 := Tryz.underlying5
  a5 := Tryz.isAgg5
  z5 := Tryz.sizeOf5
  v5 := Tryz.zeroValue5
  t9 := Tryz.underlying9
  a9 := Tryz.isAgg9
  z9 := Tryz.sizeOf9
  v9 := Tryz.zeroValue9
  t22 := Tryz.underlying38
  a22 := Tryz.isAgg38
  z22 := Tryz.sizeOf38
  v22 := Tryz.zeroValue38
  t23 := Tryz.underlying38
  a23 := Tryz.isAgg38
  z23 := Tryz.sizeOf38
  v23 := Tryz.zeroValue38
  t25 := Tryz.underlying3
  a25 := Tryz.isAgg3
  z25 := Tryz.sizeOf3
  v25 := Tryz.zeroValue3
  t32 := Tryz.underlying53
  a32 := Tryz.isAgg53
  z32 := Tryz.sizeOf53
  v32 := Tryz.zeroValue53
  t35 := Tryz.underlying181
  a35 := Tryz.isAgg181
  z35 := Tryz.sizeOf181
  v35 := Tryz.zeroValue181
  t36 := Tryz.underlying182
  a36 := Tryz.isAgg182
  z36 := Tryz.sizeOf182
  v36 := Tryz.zeroValue182
  t41 := Tryz.underlying138
  a41 := Tryz.isAgg138
  z41 := Tryz.sizeOf138
  v41 := Tryz.zeroValue138
  t44 := Tryz.underlying189
  a44 := Tryz.isAgg189
  z44 := Tryz.sizeOf189
  v44 := Tryz.zeroValue189
  t46 := Tryz.underlying191
  a46 := Tryz.isAgg191
  z46 := Tryz.sizeOf191
  v46 := Tryz.zeroValue191
  t53 := Tryz.underlying221
  a53 := Tryz.isAgg221
  z53 := Tryz.sizeOf221
  v53 := Tryz.zeroValue221
  t57 := Tryz.underlying225
  a57 := Tryz.isAgg225
  z57 := Tryz.sizeOf225
  v57 := Tryz.zeroValue225
  t63 := Tryz.underlying241
  a63 := Tryz.isAgg241
  z63 := Tryz.sizeOf241
  v63 := Tryz.zeroValue241
  t64 := Tryz.underlying215
  a64 := Tryz.isAgg215
  z64 := Tryz.sizeOf215
  v64 := Tryz.zeroValue215 }
end Go.Proofs
end
section
namespace Go.Proofs.YtgmkbcoahilkhaaGreat.Disk
open Go.RowKit Go.Maps Go.Sort Go.Shelf Go.Proofs.YtgmkbcoahilkhaaGreatW.PrintWords Go.Proofs.YtgmkbcoahilkhaaGreat.MapFn
set_option linter.unusedVariables false
set_option maxHeartbeats 4000000
set_option maxRecDepth 100000
def looseL (D : DiskSt) : List Int := ((List.range D.blocks.toNat).map fun (i : Nat) => (i : Int)).filter fun j => (D.loose j).isSome
theorem looseL_mem {D : DiskSt} (hd : ∀ k, (D.loose k).isSome = true → 0 ≤ k ∧ k < D.blocks) (x : Int) : x ∈ looseL D ↔ (D.loose x).isSome = true := by
  unfold looseL
  rw [List.mem_filter, List.mem_map]
  constructor
  · exact fun h => h.2
  · intro h
    have := hd x h
    exact ⟨⟨x.toNat, List.mem_range.2 (by omega), by omega⟩, h⟩
theorem looseL_lt (D : DiskSt) : (looseL D).Pairwise (· < ·) := by
  unfold looseL
  refine List.Pairwise.filter _ ?_
  rw [List.pairwise_map]
  exact List.pairwise_lt_range.imp fun h => by omega
theorem looseL_sorted (D : DiskSt) : (looseL D).mergeSort leI = looseL D := by
  refine List.mergeSort_of_pairwise ((looseL_lt D).imp fun h => ?_)
  simp only [leI, decide_eq_true_eq]
  omega
theorem keys_perm {w : World} {b : Nat} {D : DiskSt} {D0 : DataW Unit} (h : MapIs Tryz.prog 3 blk w b D.loose D0) (hd : ∀ k, (D.loose k).isSome = true → 0 ≤ k ∧ k < D.blocks) : (looseL D).Perm (intKeys D0) := by
  have hk : Tryz.prog.underlying 3 = some (.int .i64) := Tryz.underlying3
  obtain ⟨es, rfl, hp, hl⟩ := h.owns.entries (int_keyed hk)
  have hkeys : ∀ p ∈ es, ∃ j : Int, p.1 = .int .i64 j ∧ wf j := by
    obtain ⟨es', clock, hb, F, hs, hD⟩ := h.owns
    intro p hpm
    have e1 : es = (es'.toList.map (Go.WideElems.rg Tryz.prog 3 blk.R)).foldr DataW.insert [] := by injection hD
    rw [e1] at hpm
    obtain ⟨v, hv⟩ := fit_keys F p (mem_sorted.1 hpm)
    cases v <;> simp [keyOf, mapKey, hk] at hv
    obtain ⟨⟨rfl, hw⟩, he⟩ := hv
    exact ⟨_, he.symm, hw⟩
  refine perm_intKeys hp (fun p hpm => by obtain ⟨j, e, _⟩ := hkeys p hpm; exact ⟨j, e⟩) ((looseL_lt D).imp fun h => Int.ne_of_lt h) fun x => ?_
  rw [looseL_mem hd]
  constructor
  · intro hx
    rw [h.has x (h.dom x hx), hx]
  · intro hx
    have hx' := hx
    rw [Maps.has_eq, List.any_eq_true] at hx'
    obtain ⟨p, hpm, hs⟩ := hx'
    obtain ⟨j, e, hw⟩ := hkeys p hpm
    rw [e] at hs
    have : j = x := by simpa [Lit.sameKey] using hs
    subst this
    rw [← h.has j hw]
    exact hx
theorem sortsA (m : Nat) : AnyZI.SortsIn Tryz.prog Tryz.sortedA_ren Fence.wide m :=
  ⟨fun blk off cap ss W hH hblk hsz => callsIn_wide.2 (AnyM.slices_Sort_int Tryz.sortA blk off cap ss W hH hblk hsz),
   fun p cap W => callsIn_wide.2 (AnyM.slices_Sort_int_none Tryz.sortA p cap W)⟩
theorem keys_plain (mb : Option Nat) (W : World) : Calls Tryz.prog 113 #[.map mb] W fun e w' => e = .returned (.func (.func 166) #[] #[.pointer (some ⟨W.heap.size, 0, none⟩)]) ∧ w' = W.alloc (.cells #[.map mb] 75) :=
  callsIn_wide.1 (AnyZI.keys_in Tryz.keysA Fence.wide 5 trivial rfl mb W)
theorem sorted_plain (b nn : Nat) (D0 : DataW Unit) (w : World) (hown : w.ownsMap Tryz.prog 3 blk.R b nn D0) (hmax : Maps.size D0 ≤ maxLen) (hbytes : Maps.size D0 * 8 ≤ 140737488355328) :
    Calls Tryz.prog 112 #[.func (.func 166) #[] #[.pointer (some ⟨w.heap.size, 0, none⟩)]] (w.alloc (.cells #[.map (some b)] 75)) fun e w' => ∃ (v : Value) (ss : List Int), e = .returned v ∧ ss.Perm (intKeys D0) ∧
      w'.ownsRow (w.alloc (.cells #[.map (some b)] 75)).heap.size 3 1 v ss.length ((ss.mergeSort (fun x y => decide (x ≤ y))).map encZ) ∧ (v = .slice none 0 0 ↔ ss = []) ∧ Below (w.alloc (.cells #[.map (some b)] 75)).heap.size (w.alloc (.cells #[.map (some b)] 75)) w' := by
  have hbl := hown.lt
  have hseq : SeqGives Fence.wide 2 Tryz.prog 166 #[.pointer (some ⟨w.heap.size, 0, none⟩)] encZ (fun ss => ss.Perm (intKeys D0)) (Maps.size D0) (w.alloc (.cells #[.map (some b)] 75)) :=
    AnyZI.keys_gives (ρ := Tryz.keysA_ren) { Tryz.keysA with } Fence.wide _ trivial rfl (by omega) w.heap.size b nn D0 _ (by simp) (by simp) (by
      obtain ⟨es, clock, hb, Ft, hs, hD⟩ := hown
      exact ⟨es, clock, (Below.heap_alloc _ _ b hbl).trans hb, Ft, hs, hD⟩)
  have cS := AnyZI.sorted_in Tryz.sortedA Fence.wide 5 trivial trivial trivial trivial rfl (by omega) (sortsA _) (enters_of Tryz.func52 (by kernel_rfl) rfl) 166 #[.pointer (some ⟨w.heap.size, 0, none⟩)] trivial (enters_of Tryz.func166 (by kernel_rfl) rfl) _ _ hmax hbytes _ hseq
  exact callsIn_wide.1 cS
section
variable {p ms ml : Nat} {D : DiskSt} {w : World}
theorem Loose_any (h : DiskAt w p ms ml D) : Calls Tryz.prog 78 #[.pointer (some ⟨p, 0, none⟩)] w fun e w' => ∃ v, e = .returned v ∧ Kd.R (Kd.int .i64) 3 w' w.heap.size (fun _ => True) v (looseL D) ∧ Below w.heap.size w w' := by
  obtain ⟨D0, hM⟩ := h.loose
  have hd : ∀ k, (D.loose k).isSome = true → 0 ≤ k ∧ k < D.blocks := fun k hk => h.dom k (.inr hk)
  have hp := keys_perm hM hd
  have hz : Maps.size D0 ≤ 4096 := hM.size_le Tryz.underlying3 (N := 4096) (fun j hj => by have := hd j hj; have := h.most; omega)
  have c2 := h.cells.c2
  have HK := Hide.mk (fun W => keys_plain (some ml) W)
  have HS := Hide.mk (sorted_plain ml _ D0 w hM.owns (by unfold maxLen; omega) (by omega))
  have HP := Hide.mk hp
  clear h hM hd hp hz
  go_enter Tryz.func78, Tryz.ntmps78
  go_wp2_with (first
    | (go_at_call 113; refine (HK.out _).mono ?_; rintro e w1 ⟨rfl, rfl⟩)
    | (go_at_call 112; refine HS.out.mono ?_; rintro e w2 ⟨v, ss, rfl, hS, hrow, hnil, hb⟩))
  go_ret
  refine ⟨v, rfl, ?_, ((Below.refl _ w).alloc (Nat.le_refl _) _).trans (hb.mono (by simp))⟩
  have e1 : ss.mergeSort leI = looseL D := by rw [mergeSort_of_perm_i (hS.trans HP.out.symm), looseL_sorted]
  have e2 : ss.length = (looseL D).length := (hS.trans HP.out.symm).length_eq
  rw [show (fun x y : Int => decide (x ≤ y)) = leI from rfl, e1, e2] at hrow
  exact Kd.R_lower (Kd.R_of_own (enc := Value.int .i64) (h1 := fun _ => rfl) hrow (fun _ _ => trivial)) (by simp)
end
end Go.Proofs.YtgmkbcoahilkhaaGreat.Disk
end
section
namespace Go.Proofs.YtgmkbcoahilkhaaGreat.Disk
open Go.RowKit Go.Maps Go.Proofs.YtgmkbcoahilkhaaGreatW.PrintWords Go.Proofs.YtgmkbcoahilkhaaGreat.MapFn
set_option linter.unusedVariables false
set_option maxHeartbeats 4000000
set_option maxRecDepth 100000
def DiskSt.reset (D : DiskSt) : DiskSt := { D.settled with down := false, done := false, fails := -1 }
section
variable {p ms ml : Nat} {D : DiskSt} {w : World}
theorem DiskAt.set_reset (h : DiskAt w p ms ml D.settled) : DiskAt (((w.setCell ⟨p, 3, none⟩ (.bool false)).setCell ⟨p, 7, none⟩ (.bool false)).setCell ⟨p, 6, none⟩ (.int .i64 (-1))) p ms ml D.reset ∧ Moves [p] w (((w.setCell ⟨p, 3, none⟩ (.bool false)).setCell ⟨p, 7, none⟩ (.bool false)).setCell ⟨p, 6, none⟩ (.int .i64 (-1))) :=
  have hm : Moves [p] w (((w.setCell ⟨p, 3, none⟩ (.bool false)).setCell ⟨p, 7, none⟩ (.bool false)).setCell ⟨p, 6, none⟩ (.int .i64 (-1))) := ((set_moves (i := 3) _).trans (set_moves (i := 7) _)).trans (set_moves (i := 6) _)
  ⟨h.row_set hm (by have h1 := set_row (i := 6) (set_row (i := 7) (set_row (i := 3) h.row (.bool false)) (.bool false)) (.int .i64 (-1)); simp at h1; exact h1) rfl rfl rfl, hm⟩
theorem looseL_none (h : ∀ j, D.loose j = none) : looseL D = [] := by
  unfold looseL
  rw [List.filter_eq_nil_iff]
  intro j _
  rw [h j]
  simp
theorem crash0_any (A : Option Addr) (n c : Nat) (h : DiskAt w p ms ml D) (hl : ∀ j, D.loose j = none) :
    Calls Tryz.prog 32 #[.pointer (some ⟨p, 0, none⟩), .slice A n c] w fun e w' => e = .returned (.tuple #[]) ∧ ∃ ml', DiskAt w' p ms ml' D.reset ∧ (ml' = ml ∨ w.heap.size ≤ ml') ∧ Moves [p, ms] w w' := by
  obtain ⟨W, hW⟩ : ∃ W, w.alloc (.cells #[.slice A n c] 22) = W := ⟨_, rfl⟩
  have hb := (Below.refl w.heap.size w).alloc (Nat.le_refl _) (.cells #[.slice A n c] 22)
  rw [hW] at hb
  have HL0 := Loose_any (h.below hb)
  rw [looseL_none hl] at HL0
  have HL := Hide.mk HL0
  have HW := Hide.mk hW
  have HD := Hide.mk (h.below hb)
  have HB := Hide.mk hb
  clear h hl hb hW HL0
  go_enter Tryz.func32, Tryz.ntmps32
  go_wp2_with (go_at_call 78; rw [HW.out]; refine HL.out.mono ?_; rintro e w1 ⟨v1, rfl, ho, hb1⟩
               obtain ⟨A1, c1, rfl, _⟩ := Kd.R_reads ho
               have B1 := Hide.mk hb1
               rw [show ([] : List Int).length = 0 from rfl]
               have D1 := Hide.mk (HD.out.below hb1)
               have HS := Hide.mk (settle_any p ms ml D w1 D1.out)
               clear ho hb1)
  go_loopw [15] (fun v15 wr => v15 = .int .i64 0 ∧ wr = w1) (fun _ _ => 0)
  case atStart => exact ⟨by first | rfl | simp, rfl⟩
  case round =>
    obtain ⟨rfl, hw1⟩ := hrel
    subst hw1
    go_wp2_with (go_at_call 79; refine HS.out.mono ?_; rintro e w2 ⟨rfl, ml2, hd, hml, hm⟩
                 have D2 := Hide.mk hd
                 have M2 := Hide.mk hm
                 have ML2 := Hide.mk hml
                 have c3 := hd.cells.c3
                 have c7 := hd.cells.c7
                 have c6 := hd.cells.c6
                 have f3 := free_of (i := 3) hd.row
                 have f7 := free_of (i := 7) hd.row
                 have f6 := free_of (i := 6) hd.row
                 clear hd hm hml)
    go_end0
    have hr := D2.out.set_reset
    exact ⟨rfl, ml2, hr.1, .inr (Nat.le_trans (Nat.le_trans HB.out.size B1.out.size) ML2.out), ((Moves.of_below (HB.out.trans (B1.out.mono HB.out.size)) _).trans M2.out).trans (hr.2.more (by simp))⟩
end
end Go.Proofs.YtgmkbcoahilkhaaGreat.Disk
end
section
namespace Go.Proofs.YtgmkbcoahilkhaaGreat.Sh
open Go.RowKit Go.Proofs.YtgmkbcoahilkhaaGreatW.PrintWords Go.Proofs.YtgmkbcoahilkhaaGreatW.PrintLast Go.Proofs.YtgmkbcoahilkhaaGreatW.PrintMore Go.Proofs.YtgmkbcoahilkhaaGreat.MapFn Go.Proofs.YtgmkbcoahilkhaaGreat.Disk Go.Proofs.YtgmkbcoahilkhaaGreat.Bitset Go.Proofs.YtgmkbcoahilkhaaGreat.Page Go.Proofs.YtgmkbcoahilkhaaGreat.PShadowPlays Go.Proofs.YtgmkbcoahilkhaaGreat.Num
set_option linter.unusedVariables false
set_option linter.unusedSimpArgs false
set_option maxHeartbeats 16000000
set_option maxRecDepth 100000
theorem sync_loose {D : DiskSt} (h : D.sync.2 = 0) : ∀ j, D.sync.1.loose j = none := by
  unfold DiskSt.sync at h ⊢
  split at h
  · exact absurd h (by assumption)
  · rename_i hc
    rw [if_neg hc]
    unfold DiskSt.step at h ⊢
    split at h
    · rename_i h1
      rw [if_pos h1]
      intro j; rfl
    · rename_i h1
      rw [if_neg h1]
      split at h
      · cases h
      · rename_i h2
        rw [if_neg h2]
        intro j; rfl
theorem crown_loose {s : Sh} {r : Root} (h : (s.crown r).2 = 0) : ∀ j, (s.crown r).1.D.loose j = none := by
  unfold Sh.crown at h ⊢
  split at h
  · exact absurd h (by assumption)
  · rename_i h1
    rw [if_neg h1]
    split at h
    · exact absurd h (by assumption)
    · rename_i h2
      rw [if_neg h2]
      split at h
      · exact absurd h (by assumption)
      · rename_i h3
        rw [if_neg h3]
        exact sync_loose h
theorem commit_loose {s : Sh} (h : s.commit.2 = 0) (hd : s.dirty = true) : ∀ j, s.commit.1.D.loose j = none := by
  unfold Sh.commit at h ⊢
  split at h
  · exact absurd h (by assumption)
  · rename_i h1
    rw [if_neg h1, if_neg (by rw [hd]; simp)]
    rw [if_neg (by rw [hd]; simp)] at h
    simp only at h ⊢
    split at h
    · cases h
    · rename_i l hl
      split at h
      · cases h
      · rename_i h2
        rw [if_neg h2]
        split at h
        · exact absurd h (by assumption)
        · rename_i h3
          rw [if_neg h3]
          split at h
          · exact absurd h (by assumption)
          · rename_i h4
            rw [if_neg h4]
            split at h
            · exact absurd h (by assumption)
            · rename_i h5
              rw [if_neg h5]
              exact crown_loose (by simpa using h5)
theorem C_of_rowF {w : World} {g : Nat} {l : List Int} {t : TypeId} {fr : Nat × Nat} (h : w.heap[g]? = some (.cells (encB l) t fr)) (hl : l.length ≤ 9223372036854775807) : Kd.C (Kd.int .u8) w (some ⟨g, 0, none⟩) l.length l := by
  refine Kd.C_of_reads (enc := Value.int .u8) (d := (0 : Int)) (h1 := fun _ => rfl) ⟨rfl, hl, fun _ => ⟨_, rfl, fun j hj => ?_⟩⟩
  rw [Go.WideShapes.add_plain, Nat.zero_add, cell_of h]
  show (l.map (Value.int .u8)).toArray[j]? = _
  rw [List.getElem?_toArray, List.getElem?_map]
  simp [List.getD_eq_getElem?_getD, hj]
theorem _root_.Go.RowKit.Below.moves_low {B : Nat} {l : List Nat} {a b c : World} (h : Below B a b) (k : Moves l b c) (hl : ∀ x ∈ l, B ≤ x) (hB : B ≤ a.heap.size) : Below B a c :=
  ⟨k.os.trans h.os, k.tape.trans h.tape, k.output.trans h.output, Nat.le_trans h.size k.size, fun j hj => (k.block j (Nat.lt_of_lt_of_le (Nat.lt_of_lt_of_le hj hB) h.size) (fun hm => by have := hl j hm; omega)).trans (h.block j hj)⟩
theorem DB.reset {D : DiskSt} (h : DB D) : DB D.reset := h.settled.of rfl rfl
theorem aw_facts : ∃ sF sA sC sO sR, (Sh.format (DiskSt.new 20) = (sF, 0) ∧ sF.D.ops = 5 ∧ Ok sF ∧ True) ∧
    (sF.alloc 5 [120] = (sA, 1, 0) ∧ Ok sA ∧ ((sA.usedN : Nat) : Int) = 4 ∧ sA.dirty = true ∧ 1 ≤ mapsOf sA.root.blocks ∧ ∀ l, sA.lowest ((splitL 246 (wordsL (sA.table.drop 1))).length + mapsOf sA.root.blocks) = some l → sA.root.epoch < 1099511627776 → (sA.next (splitL 246 (wordsL (sA.table.drop 1))).length l).check = 0) ∧
    (sA.commit = (sC, 0) ∧ Ok sC ∧ ((sC.usedN : Nat) : Int) = 5 ∧ sC.root.epoch = 1 ∧ (∀ j, sC.D.loose j = none) ∧ ∀ n, Bytes (sC.D.reset.get n)) ∧
    (Sh.open_ sC.D.reset = (sO, 0) ∧ Ok sO ∧ ∀ n, Bytes (sO.D.get n)) ∧ (sO.read 1 = (sR, 5, [120], 0) ∧ Ok sR ∧ sR.ids.length = 1 ∧ sR.D.reads = 5) := by
  have h1 := aw_format
  have h2 := aw_alloc
  have h3 := aw_commit
  have h4 := aw_open
  have h5 := aw_read
  have h6 := aw_ok
  have h7 := aw_ok2
  simp only [Bool.and_eq_true, decide_eq_true_eq] at h1 h2 h3 h4 h5 h6 h7
  have d1 : DB awF.1.D := (DB.new 20).format
  have d2 : DB awA.1.D := d1.alloc 5 (bytesB_ok (by decide))
  have d3 : DB awC.1.D := d2.commit
  have nx := nxB_ok h6.1.1.2
  refine ⟨awF.1, awA.1, awC.1, awO.1, awR.1, ⟨?_, h1.2, okB_ok h6.1.1.1.1, trivial⟩, ⟨?_, okB_ok h6.1.1.1.2, by rw [h2.1.2]; rfl, h2.2, nx⟩, ⟨?_, okB_ok h6.1.2, by rw [h3.1.2]; rfl, h3.2, commit_loose h3.1.1 h2.2, d3.reset.get⟩, ⟨?_, okB_ok h6.2, ?_⟩, ?_, okB_ok h7.1, h7.2, h5.2⟩
  · show awF = (awF.1, 0); rw [← h1.1]
  · show awA = (awA.1, 1, 0); rw [← h2.1.1]
  · show awC = (awC.1, 0); rw [← h3.1.1]
  · show awO = (awO.1, 0); rw [← h4.1]
  · exact (DB.open_ d3.reset).get
  · show awR = (awR.1, 5, [120], 0); rw [← h5.1]
theorem awake_any (w : World) : Calls Tryz.prog 18 #[] w fun e w' => e = .returned (.bool true) ∧ Below w.heap.size w w' := by
  obtain ⟨sF, sA, sC, sO, sR, fF, fA, fC, fO, fR⟩ := aw_facts
  have FF := Hide.mk fF
  have FA := Hide.mk fA
  have FC := Hide.mk fC
  have FO := Hide.mk fO
  have FR := Hide.mk fR
  clear fF fA fC fO fR
  have hcv := fun (w : World) (C : Array Value) (n c : Nat) => Lib.run_convert_bytes_const (P := Tryz.prog) w 22 5 C n c Tryz.underlying22 Tryz.underlying5
  go_enter Tryz.func18, Tryz.ntmps18
  go_wp2_with (first
    | (go_at_call 10
       refine (new_any 20 _).mono ?_
       rintro e w1 ⟨pd, ms, ml, rfl, hd, hb, hp1, hp2, hp3⟩
       have HFM0 := format_any pd ms ml _ w1 hd ⟨by decide, by decide⟩
       rw [FF.out.1] at HFM0
       simp only [ptrOf_ok] at HFM0
       have HFM := Hide.mk HFM0
       have B1 := Hide.mk hb
       have P1 := Hide.mk (And.intro hp1 (And.intro hp2 hp3))
       clear hd hb hp1 hp2 hp3 HFM0)
    | (go_at_call 9
       with_reducible refine HFM.out.mono ?_
       rintro e w2 ⟨F2, rfl, hs, hbn⟩
       have S2 := Hide.mk hs
       have N2 := Hide.mk hbn
       have HOP0 := Ops_any hs.disk
       rw [hbn.epd, FF.out.2.1] at HOP0
       have HOP := Hide.mk HOP0
       clear hs hbn HOP0)
    | (go_at_call 55
       with_reducible refine HOP.out.mono ?_
       rintro e w3 ⟨rfl, hw3⟩
       have hw4 := hw3.symm
       subst hw4)
    | (go_at_call 19
       obtain ⟨W3, hW3⟩ : ∃ W, w2.alloc (.cells #[.int .u8 120] 5 (1, 2)) = W := ⟨_, rfl⟩
       rw [hW3]
       have hal := (Below.refl w2.heap.size w2).alloc (Nat.le_refl _) (.cells #[.int .u8 120] 5 (1, 2))
       have row3 := heap_last w2 (.cells #[.int .u8 120] 5 (1, 2))
       rw [hW3] at hal row3
       have hin : In .u8 W3 (some ⟨w2.heap.size, 0, none⟩) [120] 1 := ⟨C_of_rowF (l := [120]) row3 (by decide), Nat.le_refl _, fun a ha => by cases ha; exact lt_of_row row3⟩
       have HAL := alloc_any 5 (some ⟨w2.heap.size, 0, none⟩) 1 [120] W3 F2 sF (S2.out.below hal) FF.out.2.2.1 hin (bytesB_ok (by decide))
       rw [FA.out.1] at HAL
       refine HAL.mono ?_
       rintro e w5 ⟨rfl, F5, hs, hg⟩
       have S5 := Hide.mk hs
       have G5 := Hide.mk ((Goes.below hal).trans hg)
       have HUS0 := used_any w5 F5 sA hs FA.out.2.1
       rw [FA.out.2.2.1, hg.p] at HUS0
       have HUS := Hide.mk HUS0
       clear hal row3 hin HAL hs hg hW3 HUS0)
    | (go_at_call 24
       with_reducible refine HUS.out.mono ?_
       rintro e w6 ⟨rfl, hb⟩
       have S6 := Hide.mk (S5.out.below hb)
       have B6 := Hide.mk hb
       have HDI0 := dirty_any w6 F5 sA S6.out
       rw [FA.out.2.2.2.1, G5.out.p] at HDI0
       have HDI := Hide.mk HDI0
       clear hb HDI0)
    | (go_at_call 22
       with_reducible refine HDI.out.mono ?_
       rintro e w7 ⟨rfl, hw7⟩
       have hw8 := hw7.symm
       subst hw8
       have HCM0 := commit_any w6 F5 sA S6.out FA.out.2.1 FA.out.2.2.2.2.1 FA.out.2.2.2.2.2
       rw [FC.out.1, G5.out.p] at HCM0
       have HCM := Hide.mk HCM0
       clear HCM0)
    | (go_at_call 20
       with_reducible refine HCM.out.mono ?_
       rintro e w9 ⟨rfl, F9, hs, hg⟩
       have S9 := Hide.mk hs
       have G9 := Hide.mk ((G5.out.trans (Goes.below B6.out)).trans hg)
       have HUS20 := used_any w9 F9 sC hs FC.out.2.1
       rw [FC.out.2.2.1, ((G5.out.trans (Goes.below B6.out)).trans hg).p] at HUS20
       have HUS2 := Hide.mk HUS20
       clear hs hg HUS20)
    | (go_at_call 24
       with_reducible refine HUS2.out.mono ?_
       rintro e w10 ⟨rfl, hb⟩
       have S10 := Hide.mk (S9.out.below hb)
       have B10 := Hide.mk hb
       have HEP0 := epoch_any w10 F9 sC S10.out
       rw [FC.out.2.2.2.1, G9.out.p] at HEP0
       have HEP := Hide.mk HEP0
       clear hb HEP0)
    | (go_at_call 56
       with_reducible refine HEP.out.mono ?_
       rintro e w11 ⟨rfl, hw11⟩
       have hw12 := hw11.symm
       subst hw12
       have HCR0 := crash0_any none 0 0 S10.out.disk FC.out.2.2.2.2.1
       rw [G9.out.pd, N2.out.epd] at HCR0
       have HCR := Hide.mk HCR0
       clear HCR0)
    | (go_at_call 32
       with_reducible refine HCR.out.mono ?_
       rintro e w13 ⟨rfl, ml13, hd, hml, hm⟩
       have D13 := Hide.mk hd
       have HML := Hide.mk hml
       have M13 := Hide.mk hm
       have HSO0 := shopen_any _ _ _ _ w13 hd FC.out.2.2.2.2.2
       rw [FO.out.1] at HSO0
       simp only [ptrOf_ok] at HSO0
       have HSO := Hide.mk HSO0
       clear hd hml hm HSO0)
    | (go_at_call 30
       with_reducible refine HSO.out.mono ?_
       rintro e w14 ⟨F14, rfl, _, hs, hbn⟩
       have S14 := Hide.mk (hs trivial)
       have N14 := Hide.mk hbn
       have HRD0 := shread_any 1 w14 F14 sO (hs trivial) FO.out.2.1 FO.out.2.2
       rw [FR.out.1] at HRD0
       have HRD := Hide.mk HRD0
       clear hs hbn HRD0)
    | (go_at_call 57
       with_reducible refine HRD.out.mono ?_
       rintro e w15 ⟨v15, rfl, ho, F15, hs, hg⟩
       obtain ⟨A15, c15, hv15, hi15, _⟩ := In.of_own ho
       rw [show ([120] : List Int).length = 1 from rfl] at hv15
       subst hv15
       have hcv : (convert 22 9 (.slice A15 1 c15)).run Tryz.prog w15 = .ok (.string (strOfNums [120])) w15 := Kd.C_string Tryz.underlying22 Tryz.underlying5 Tryz.underlying9 hi15.reads
       have hse : (strOfNums [120]).toList = [120] := by simp [strOfNums]
       have S15 := Hide.mk hs
       have G15 := Hide.mk hg
       have HID0 := ids_any w15 F15 sR hs (by have := FR.out.2.1.table.2.1; omega)
       rw [hg.p] at HID0
       have HID := Hide.mk HID0
       clear ho hs hg hi15 HID0)
    | (go_at_call 21
       with_reducible refine HID.out.mono ?_
       rintro e w16 ⟨v16, rfl, ho, hb⟩
       obtain ⟨A16, c16, hv16, _⟩ := Kd.R_reads ho
       rw [FR.out.2.2.1] at hv16
       subst hv16
       have B16 := Hide.mk hb
       have HRS0 := Reads_any (S15.out.below hb).disk
       rw [G15.out.pd, N14.out.epd, FR.out.2.2.2] at HRS0
       have HRS := Hide.mk HRS0
       clear ho hb HRS0)
    | (go_at_call 58
       with_reducible refine HRS.out.mono ?_
       rintro e w17 ⟨rfl, hw17⟩
       have hw18 := hw17.symm
       subst hw18))
  go_ret
  have gF : Goes F2 F9 w2 w10 := G9.out.trans (Goes.below B10.out)
  have m1 : Moves [pd, ms, ml] w1 w2 := N2.out.moves
  have m2 : Moves F2.own w2 w10 := gF.moves
  have hpd := N2.out.epd
  have hms := N2.out.ems
  have own10 : ∀ x ∈ F9.own, w.heap.size ≤ x := fun x hx => by
    rcases gF.own x hx with q | q
    · rcases N2.out.own x q with q | q
      · have := P1.out; simp only [List.mem_cons, List.not_mem_nil, or_false] at q; omega
      · exact Nat.le_trans B1.out.size q
    · exact Nat.le_trans (Nat.le_trans B1.out.size m1.size) q
  have hml9 : w.heap.size ≤ F9.ml := own10 _ (by simp [Foot.own])
  have hms9 : w.heap.size ≤ F9.ms := own10 _ (by simp [Foot.own])
  have hpd9 : w.heap.size ≤ pd := P1.out.1
  have own2 : ∀ x ∈ F2.own, w.heap.size ≤ x := fun x hx => by
    rcases N2.out.own x hx with q | q
    · have := P1.out; simp only [List.mem_cons, List.not_mem_nil, or_false] at q; omega
    · exact Nat.le_trans B1.out.size q
  have b2 : Below w.heap.size w w2 := B1.out.moves_low m1 (fun x hx => by have := P1.out; simp only [List.mem_cons, List.not_mem_nil, or_false] at hx; omega) (Nat.le_refl _)
  have b10 : Below w.heap.size w w10 := b2.moves_low m2 own2 (Nat.le_refl _)
  have b13 : Below w.heap.size w w13 := (b10.moves_low M13.out (fun x hx => by simp only [List.mem_cons, List.not_mem_nil, or_false] at hx; omega) (Nat.le_refl _))
  have hml13 : w.heap.size ≤ ml13 := by
    rcases HML.out with e | e
    · rw [e]; exact hml9
    · exact Nat.le_trans b10.size e
  have b14 : Below w.heap.size w w14 := (b13.moves_low N14.out.moves (fun x hx => by simp only [List.mem_cons, List.not_mem_nil, or_false] at hx; omega) (Nat.le_refl _))
  have own14 : ∀ x ∈ F14.own, w.heap.size ≤ x := fun x hx => by
    rcases N14.out.own x hx with q | q
    · simp only [List.mem_cons, List.not_mem_nil, or_false] at q; omega
    · exact Nat.le_trans b13.size q
  have b15 : Below w.heap.size w w15 := (b14.moves_low G15.out.moves own14 (Nat.le_refl _))
  exact ⟨rfl, b15.trans (B16.out.mono b15.size)⟩
end Go.Proofs.YtgmkbcoahilkhaaGreat.Sh
end
section
namespace Go.Proofs.YtgmkbcoahilkhaaGreat.Sh
open Go.RowKit Go.Proofs.YtgmkbcoahilkhaaGreatW.PrintWords Go.Proofs.YtgmkbcoahilkhaaGreatW.PrintLast Go.Proofs.YtgmkbcoahilkhaaGreatW.PrintMore Go.Proofs.YtgmkbcoahilkhaaGreat.MapFn Go.Proofs.YtgmkbcoahilkhaaGreat.Disk Go.Proofs.YtgmkbcoahilkhaaGreat.Bitset Go.Proofs.YtgmkbcoahilkhaaGreat.Page Go.Proofs.YtgmkbcoahilkhaaGreat.Num
set_option linter.unusedVariables false
set_option maxHeartbeats 4000000
structure On (w wr : World) (p pd : Nat) (s : Sh) : Prop where
  ex : ∃ F : Foot, ShAt wr F s ∧ F.p = p ∧ F.pd = pd ∧ ∀ x ∈ F.own, w.heap.size ≤ x
  below : Below w.heap.size w wr
section
variable {w wr w' : World} {p pd : Nat} {s : Sh}
theorem On.goes {F F' : Foot} {s' : Sh} (hb : Below w.heap.size w wr) (ho : ∀ x ∈ F.own, w.heap.size ≤ x) (hp : F.p = p) (hpd : F.pd = pd) (hs : ShAt w' F' s') (hg : Goes F F' wr w') : On w w' p pd s' :=
  ⟨⟨F', hs, hg.p.trans hp, hg.pd.trans hpd, fun x hx => by
    rcases hg.own x hx with q | q
    · exact ho x q
    · exact Nat.le_trans hb.size q⟩, hb.moves_low hg.moves ho (Nat.le_refl _)⟩
theorem On.later (h : On w wr p pd s) (hb : Below wr.heap.size wr w') : On w w' p pd s := by
  obtain ⟨⟨F, hs, hp, hpd, ho⟩, hbl⟩ := h
  exact ⟨⟨F, hs.below hb, hp, hpd, ho⟩, hbl.trans (hb.mono hbl.size)⟩
theorem On.in_ {k : IntKind} {A : Option Addr} {l : List Int} {c : Nat} (h : On w wr p pd s) (hi : In k w A l c) : In k wr A l c := hi.below h.below
theorem alloc_on (h : On w wr p pd s) (hk : Ok s) (kind : Int) {A : Option Addr} {c : Nat} {body : List Int} (hr : In .u8 wr A body c) (hb : Bytes body) :
    Calls Tryz.prog 19 #[.pointer (some ⟨p, 0, none⟩), .int .i64 kind, .slice A body.length c] wr fun en w' => en = .returned (.tuple #[.int .i64 (s.alloc kind body).2.1, .int .i64 (s.alloc kind body).2.2]) ∧ On w w' p pd (s.alloc kind body).1 := by
  obtain ⟨⟨F, hs, rfl, rfl, ho⟩, hbl⟩ := h
  refine (alloc_any kind A c body wr F s hs hk hr hb).mono ?_
  rintro e w2 ⟨rfl, F2, h2, hg⟩
  exact ⟨rfl, On.goes hbl ho rfl rfl h2 hg⟩
theorem free_on (h : On w wr p pd s) (hk : Ok s) (id : Int) :
    Calls Tryz.prog 23 #[.pointer (some ⟨p, 0, none⟩), .int .i64 id] wr fun en w' => en = .returned (.int .i64 (s.free id).2) ∧ On w w' p pd (s.free id).1 := by
  obtain ⟨⟨F, hs, rfl, rfl, ho⟩, hbl⟩ := h
  refine (free_any id wr F s hs hk).mono ?_
  rintro e w2 ⟨rfl, F2, h2, hg⟩
  exact ⟨rfl, On.goes hbl ho rfl rfl h2 hg⟩
theorem abort_on (h : On w wr p pd s) (hk : Ok s) :
    Calls Tryz.prog 25 #[.pointer (some ⟨p, 0, none⟩)] wr fun en w' => en = .returned (.int .i64 s.abort.2) ∧ On w w' p pd s.abort.1 := by
  obtain ⟨⟨F, hs, rfl, rfl, ho⟩, hbl⟩ := h
  refine (abort_any wr F s hs hk).mono ?_
  rintro e w2 ⟨rfl, F2, h2, hg⟩
  exact ⟨rfl, On.goes hbl ho rfl rfl h2 hg⟩
theorem commit_on (h : On w wr p pd s) (hk : Ok s) (hmp : 1 ≤ mapsOf s.root.blocks)
    (hnx : ∀ l, s.lowest ((splitL 246 (wordsL (s.table.drop 1))).length + mapsOf s.root.blocks) = some l → s.root.epoch < 1099511627776 → (s.next (splitL 246 (wordsL (s.table.drop 1))).length l).check = 0) :
    Calls Tryz.prog 20 #[.pointer (some ⟨p, 0, none⟩)] wr fun en w' => en = .returned (.int .i64 s.commit.2) ∧ On w w' p pd s.commit.1 := by
  obtain ⟨⟨F, hs, rfl, rfl, ho⟩, hbl⟩ := h
  refine (commit_any wr F s hs hk hmp hnx).mono ?_
  rintro e w2 ⟨rfl, F2, h2, hg⟩
  exact ⟨rfl, On.goes hbl ho rfl rfl h2 hg⟩
theorem ids_on (h : On w wr p pd s) (hl : s.table.length ≤ 10000) :
    Calls Tryz.prog 21 #[.pointer (some ⟨p, 0, none⟩)] wr fun en w' => ∃ A c, en = .returned (.slice A s.ids.length c) ∧ In .i64 w' A s.ids c ∧ (∀ a, A = some a → wr.heap.size ≤ a.block) ∧ On w w' p pd s := by
  obtain ⟨⟨F, hs, rfl, rfl, ho⟩, hbl⟩ := h
  refine (ids_any wr F s hs hl).mono ?_
  rintro e w2 ⟨v, rfl, hv, hb⟩
  obtain ⟨A, c, rfl, hi, hge⟩ := In.of_own hv
  exact ⟨A, c, rfl, hi, hge, On.later ⟨⟨F, hs, rfl, rfl, ho⟩, hbl⟩ hb⟩
theorem dirty_on (h : On w wr p pd s) : Calls Tryz.prog 22 #[.pointer (some ⟨p, 0, none⟩)] wr fun en w' => en = .returned (.bool s.dirty) ∧ On w w' p pd s := by
  obtain ⟨⟨F, hs, rfl, rfl, ho⟩, hbl⟩ := h
  refine (dirty_any wr F s hs).mono ?_
  rintro e w2 ⟨rfl, rfl⟩
  exact ⟨rfl, ⟨F, hs, rfl, rfl, ho⟩, hbl⟩
theorem used_on (h : On w wr p pd s) (hk : Ok s) : Calls Tryz.prog 24 #[.pointer (some ⟨p, 0, none⟩)] wr fun en w' => en = .returned (.int .i64 ((s.usedN : Nat) : Int)) ∧ On w w' p pd s := by
  obtain ⟨⟨F, hs, rfl, rfl, ho⟩, hbl⟩ := h
  refine (used_any wr F s hs hk).mono ?_
  rintro e w2 ⟨rfl, hb⟩
  exact ⟨rfl, On.later ⟨⟨F, hs, rfl, rfl, ho⟩, hbl⟩ hb⟩
structure DOn (w wr : World) (pd : Nat) (D : DiskSt) : Prop where
  ex : ∃ ms ml, DiskAt wr pd ms ml D ∧ w.heap.size ≤ pd ∧ w.heap.size ≤ ms ∧ w.heap.size ≤ ml
  below : Below w.heap.size w wr
theorem On.disk (h : On w wr p pd s) : DOn w wr pd s.D := by
  obtain ⟨⟨F, hs, rfl, rfl, ho⟩, hbl⟩ := h
  exact ⟨⟨F.ms, F.ml, hs.disk, ho _ (by simp [Foot.own]), ho _ (by simp [Foot.own]), ho _ (by simp [Foot.own])⟩, hbl⟩
theorem new_on (n : Int) (w : World) : Calls Tryz.prog 10 #[.int .i64 n] w fun en w' => ∃ pd, en = .returned (.pointer (some ⟨pd, 0, none⟩)) ∧ DOn w w' pd (DiskSt.new n) := by
  refine (new_any n w).mono ?_
  rintro e w1 ⟨p, ms, ml, rfl, hd, hb, h1, h2, h3⟩
  exact ⟨p, rfl, ⟨ms, ml, hd, h1, h2, h3⟩, hb⟩
theorem format_on {D : DiskSt} (h : DOn w wr pd D) (hN : 0 ≤ D.blocks ∧ D.blocks ≤ 4096) :
    Calls Tryz.prog 9 #[.pointer (some ⟨pd, 0, none⟩)] wr fun en w' => ∃ p, en = .returned (.tuple #[ptrOf (Sh.format D).2 p, .int .i64 (Sh.format D).2]) ∧ On w w' p pd (Sh.format D).1 := by
  obtain ⟨⟨ms, ml, hd, h1, h2, h3⟩, hb⟩ := h
  refine (format_any pd ms ml D wr hd hN).mono ?_
  rintro e w1 ⟨F, rfl, hs, hbn⟩
  refine ⟨F.p, rfl, ⟨F, hs, rfl, hbn.epd, fun x hx => ?_⟩, ?_⟩
  · rcases hbn.own x hx with q | q
    · simp only [List.mem_cons, List.not_mem_nil, or_false] at q
      omega
    · exact Nat.le_trans hb.size q
  · exact hb.moves_low hbn.moves (fun x hx => by simp only [List.mem_cons, List.not_mem_nil, or_false] at hx; omega) (Nat.le_refl _)
end
end Go.Proofs.YtgmkbcoahilkhaaGreat.Sh
end
