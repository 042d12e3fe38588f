/- The words, and the contracts of the functions that are reached, one behind the other. -/
import Derived.Shelf.SlIterI.Nil
import Derived.Shelf.SortM.Plain
import Derived.Shelf.SortM.SortNone
import Derived.Ground.GgzProg
import Derived.Ground.SlgmProg
import Derived.Test.YtplkndmkchpcdaaGreatProg
import Derived.Lib.SlBytesConst
import Derived.Shelf.SlicesE.Delete
import Derived.Ground.SlgnProg
import Derived.Lib.OwnBridge
import Derived.Shelf.SlSortCmp.NoneTotal
import Derived.Ground.SlsfProg
import Derived.Deep.Slices
import Derived.Sort.OwnSortedInts
import Derived.Test.YtplkndmkchpcdaaGreatPSC
set_option linter.unusedVariables false
set_option linter.unusedSimpArgs false
section
namespace Go.Proofs.YtplkndmkchpcdaaGreat.Sh
open Go.RowKit YtplkndmkchpcdaaGreatW.PrintWords YtplkndmkchpcdaaGreatW.PrintLast YtplkndmkchpcdaaGreatW.PrintMore MapFn Disk Bitset Page PShadowPlays Num
set_option maxHeartbeats 8000000
set_option maxRecDepth 100000
def boolE : Enc Bool where
  E := Value.bool
  D x := .lit (.bool x)
  R v := match v with
    | .bool x => some (.lit (.bool x), [])
    | _ => none
  ok _ := True
  put x _ := rfl
  inv v d ps h := by
    split at h
    · rename_i x
      cases h
      exact ⟨x, trivial, rfl, rfl⟩
    · cases h
  inj x y h := by injection h with h1; injection h1
abbrev MapT (w : World) (b : Nat) (m : Int → Option Bool) : Prop := MapFn.MapFn Tryz.prog 3 boolE w b m
section
variable {w : World} {ops : Array Oper} {rest : List Oper} {o : Oper} {a : Act} {Q : Exit → Act → World → Prop}
end
structure Seen (w : World) (b : Nat) (f : Int → Bool) : Prop where
  ex : ∃ m, MapT w b m ∧ (∀ j, (m j).getD false = f j) ∧ ∀ j, (m j).isSome = true → 0 ≤ j ∧ j < (4096 : Nat)
theorem Seen.kept {w w' : World} {b : Nat} {f : Int → Bool} {row : Option Nat} (h : Seen w b f) (hg : w.grownBy w' row) (hne : some b ≠ row) : Seen w' b f := by
  obtain ⟨m, h1, h2, h3⟩ := h.ex
  exact ⟨m, h1.kept hg hne, h2, h3⟩
theorem Seen.below {w w' : World} {b : Nat} {f : Int → Bool} (h : Seen w b f) (hb : Below w.heap.size w w') : Seen w' b f := h.kept (row := none) ((Moves.of_below hb []).grown _) (by simp)
theorem Seen.put {w : World} {b : Nat} {f : Int → Bool} (h : Seen w b f) {j : Int} (h0 : 0 ≤ j) (h1 : j < 4096) :
    ∃ w', (Instr.mapUpdate 134 (.map (some b)) (.int .i64 j) (.bool true)).run Tryz.prog w = .ok () w' ∧ Seen w' b (fun i => decide (i = j) || f i) ∧ w.grownBy w' (some b) := by
  obtain ⟨m, hm, h2, h3⟩ := h.ex
  obtain ⟨w', hr, hm', hg⟩ := hm.store (C := boolE) (t := 134) Tryz.underlying3 Tryz.underlying134 (wf_small h0 h1) (x := true) trivial h3 (by unfold maxLen; omega)
  refine ⟨w', hr, ⟨_, hm', fun i => ?_, fun i hi => ?_⟩, hg⟩
  · unfold upd
    by_cases c : i = j
    · rw [if_pos c]; simp [c]
    · rw [if_neg c, h2 i]; simp [c]
  · unfold upd at hi
    by_cases c : i = j
    · rw [c]; exact ⟨h0, h1⟩
    · rw [if_neg c] at hi; exact h3 i hi
theorem seenF_cons (r : Root) (k : Nat) (n : Int) (ns : List Int) (i : Nat) (seen : Int → Bool) : seenF r k (n :: ns) i seen = if n = 0 ∧ k ≤ i then seenF r k ns (i + 1) seen else if r.blocks ≤ n ∨ seen n = true then false else seenF r k ns (i + 1) (fun j => decide (j = n) || seen j) := by
  rw [seenF]
end Go.Proofs.YtplkndmkchpcdaaGreat.Sh
end
section
namespace Go.Proofs.YtplkndmkchpcdaaGreat.Sh
open Go.RowKit YtplkndmkchpcdaaGreatW.PrintWords YtplkndmkchpcdaaGreatW.PrintLast YtplkndmkchpcdaaGreatW.PrintMore MapFn Disk Bitset Page PShadowPlays Num
set_option maxHeartbeats 16000000
set_option maxRecDepth 100000
def T31_15 : Bool × List (List Nat × List Nat) := (true, [([], []), ([0], [0]), ([1], [1]), ([2], [2]), ([2], [2]), ([4, 2], [2, 4]), ([5, 2], [2, 5]), ([6, 2], [2, 6]), ([7, 2], [2, 7]), ([2], [2]), ([3, 8, 9, 2, 2], [2, 3, 8, 9]), ([10, 2], [2, 10]), ([2, 11], [2, 11])])
def B31_15 : List Nat := [0, 1, 3, 7, 7, 23, 55, 119, 247, 7, 1023, 2047, 4095]
structure Same (D E : DiskSt) : Prop where
  get : E.get = D.get
  blocks : E.blocks = D.blocks
theorem Same.refl (D : DiskSt) : Same D D := ⟨rfl, rfl⟩
theorem Same.read {D E : DiskSt} (h : Same D E) : Same D E.read := ⟨h.get, h.blocks⟩
end Go.Proofs.YtplkndmkchpcdaaGreat.Sh
end
section
namespace Go.Proofs.YtplkndmkchpcdaaGreat.Sh
open Go.RowKit Disk Page Num Bitset
def Root.same (a b : Root) : Bool := decide (a.epoch = b.epoch) && decide (a.blocks = b.blocks) && decide (a.next = b.next) && decide (a.start = b.start) && decide (a.tables = b.tables) && decide (a.maps = b.maps)
def Sh.same (a b : Sh) : Bool := a.root.same b.root && decide (a.was = b.was) && decide (a.used = b.used) && decide (a.table = b.table) && decide (a.start = b.start) && decide (a.fresh = b.fresh) && (a.dirty == b.dirty) && (a.bad == b.bad)
def bitsByte (k j : Nat) : Int := ((List.range 8).map fun t => if 3 ≤ 8 * j + t ∧ 8 * j + t < k + 3 then (2 : Int) ^ (7 - t) else 0).sum
def filled (n k : Nat) : Sh :=
  { D := DiskSt.new n, root := firstRoot n, was := [0], used := 224 :: List.replicate ((n + 7) / 8 - 1) 0, table := 0 :: (List.range k).map fun i => ((3 + i : Nat) : Int), start := 0,
    fresh := (List.range ((n + 7) / 8)).map (bitsByte k), dirty := decide (0 < k), bad := false }
def allocTo (s : Sh) (t : Sh) (id : Int) (e : Int) : Bool :=
  match s.qalloc 5 0 with
  | some (s', i, e') => s'.same t && decide (i = id) && decide (e' = e)
  | none => false
def fillsAt (n : Nat) : Bool := (List.range (n - 3)).all fun k => allocTo (filled n k) (filled n (k + 1)) ((k + 1 : Nat) : Int) 0
def formatsAt (n : Nat) : Bool :=
  match Sh.qformat n with
  | some (s, e) => s.same (filled n 0) && decide (e = 0)
  | none => false
def afterAt (n : Nat) : Bool :=
  let s := filled n (n - 3)
  allocTo s s 0 10 && (match s.qcommit with | some (s', e) => s'.same s && decide (e = 10) | none => false) && decide (s.ids.length = n - 3) && s.dirty &&
  (let a := s.free 1
   let b := a.1.free 2
   decide (a.2 = 0) && decide (b.2 = 0) &&
   (match b.1.qcommit with
    | some (c, e) => decide (e = 0) && decide (c.usedN = n - 1) &&
      (match c.qalloc 5 0 with
       | some (d, _, e) => decide (e = 0) && allocTo d d 0 10 && decide (d.abort.2 = 0) && decide (d.abort.1.ids.length = n - 5)
       | none => false)
    | none => false))
end Go.Proofs.YtplkndmkchpcdaaGreat.Sh
end
section
namespace Go.Proofs.YtplkndmkchpcdaaGreat.Sh
open Go.RowKit Disk Page Num Bitset
def DiskSt.crash0 (D : DiskSt) : DiskSt := { D.settled with down := false, done := false, fails := -1 }
def awF : Sh × Int := Sh.format (DiskSt.new 20)
def awA : Sh × Int × Int := awF.1.alloc 5 [120]
def awC : Sh × Int := awA.1.commit
def awO : Sh × Int := Sh.open_ (DiskSt.crash0 awC.1.D)
def awR : Sh × Int × List Int × Int := awO.1.read 1
theorem aw_format : decide (awF.2 = 0) && decide (awF.1.D.ops = 5) = true := by decide +kernel
end Go.Proofs.YtplkndmkchpcdaaGreat.Sh
end
section
namespace Go.Proofs.YtplkndmkchpcdaaGreat.Sh
open Go.RowKit Disk Page Num Bitset MapFn
structure DB (D : DiskSt) : Prop where
  safe : ∀ j l, D.safe j = some l → Bytes l
  loose : ∀ j l, D.loose j = some l → Bytes l
theorem zeros_bytes : Bytes zeros := by
  intro x hx
  simp only [zeros, List.mem_replicate] at hx
  rw [hx.2]
  exact ⟨by decide, by decide⟩
theorem DB.get {D : DiskSt} (h : DB D) (n : Int) : Bytes (D.get n) := by
  unfold DiskSt.get
  cases h1 : D.loose n with
  | some l => exact h.loose n l h1
  | none =>
    cases h2 : D.safe n with
    | some l => exact h.safe n l h2
    | none => exact zeros_bytes
theorem DB.new (n : Int) : DB (DiskSt.new n) := ⟨(fun j l h => by cases h), (fun j l h => by cases h)⟩
theorem DB.of {D E : DiskSt} (h : DB D) (h1 : E.safe = D.safe) (h2 : E.loose = D.loose) : DB E := ⟨by rw [h1]; exact h.safe, by rw [h2]; exact h.loose⟩
theorem DB.read {D : DiskSt} (h : DB D) : DB D.read := h.of rfl rfl
theorem merge_bytes {ms ml : Int → Option (List Int)} (h1 : ∀ j l, ms j = some l → Bytes l) (h2 : ∀ j l, ml j = some l → Bytes l) : ∀ j l, mergeM ms ml j = some l → Bytes l := by
  intro j l h
  unfold mergeM at h
  cases hm : ml j with
  | some y => rw [hm] at h; cases h; exact h2 j _ hm
  | none => rw [hm] at h; exact h1 j l h
theorem DB.settled {D : DiskSt} (h : DB D) : DB D.settled := ⟨merge_bytes h.safe h.loose, (fun j l h => by cases h)⟩
theorem DB.step {D : DiskSt} (h : DB D) {act : DiskSt → DiskSt} (ha : ∀ E, DB E → DB (act E)) : DB (D.step act).1 := by
  have ho : DB D.op := h.of rfl rfl
  have hf : ∀ E, DB E → DB E.fail1 := fun E h => h.of rfl rfl
  have hd : ∀ E, DB E → DB E.dead := fun E h => h.of rfl rfl
  unfold DiskSt.step
  repeat' split
  all_goals first | exact ho | exact hf _ ho | exact ha _ ho | exact ha _ (hf _ ho) | exact hd _ (ha _ ho) | exact hd _ (ha _ (hf _ ho)) | exact hd _ ho | exact hd _ (hf _ ho)
theorem DB.sync {D : DiskSt} (h : DB D) : DB D.sync.1 := by
  unfold DiskSt.sync
  split
  · exact h
  · exact h.step fun E he => he.settled
theorem DB.write {D : DiskSt} (h : DB D) (n : Int) {l : List Int} (hb : Bytes l) : DB (D.write n l).1 := by
  unfold DiskSt.write
  split
  · exact h
  · split
    · exact h
    · exact h.step fun E he => ⟨he.safe, fun j x hx => by
        simp only [DiskSt.wrote, upd] at hx
        by_cases c : j = n
        · rw [if_pos c] at hx; cases hx; exact hb
        · rw [if_neg c] at hx; exact he.loose j x hx⟩
theorem DB.wr {s : Sh} (h : DB s.D) (n : Int) {b : List Int} (hb : Bytes b) : DB (s.wr n b).1.D := h.write n hb
theorem DB.shsync {s : Sh} (h : DB s.D) : DB s.sync.1.D := h.sync
theorem DB.layF (kind : Int) (bl : List Int) : ∀ (ps : List (List Int)) (i : Nat) (s : Sh), DB s.D → (∀ p ∈ ps, Bytes p) → DB (Sh.layF kind bl ps i s).1.D
  | [], _, s, h, _ => h
  | p :: ps, i, s, h, hb => by
    rw [layF_cons]
    split
    · exact h
    · rename_i hs
      have hp : Bytes (sealL kind i p) := seal_bytes (hb p (by simp)) (by simpa using hs)
      split
      · exact h.wr _ hp
      · exact DB.layF kind bl ps (i + 1) _ (h.wr _ hp) (fun q hq => hb q (by simp [hq]))
theorem DB.crown {s : Sh} (h : DB s.D) (r : Root) : DB (s.crown r).1.D := by
  unfold Sh.crown
  split
  · exact h.shsync
  · split
    · exact h.shsync
    · rename_i hk
      have hb : Bytes r.bytes := bytes_bytes (by simpa using hk)
      split
      · exact h.shsync.wr _ hb
      · exact (h.shsync.wr _ hb).shsync
theorem DB.place {s : Sh} (h : DB s.D) (id n : Int) {b : List Int} (hb : Bytes b) : DB (s.place id n b).1.D := by
  unfold Sh.place
  split
  · exact h.wr _ hb
  · exact h.wr _ hb
theorem DB.alloc {s : Sh} (h : DB s.D) (kind : Int) {b : List Int} (hb : Bytes b) : DB (s.alloc kind b).1.D := by
  unfold Sh.alloc
  split
  · exact h
  · split
    · exact h
    · split
      · exact h
      · rename_i hs
        split
        · exact h
        · simp only
          split
          · exact h.place _ _ (seal_bytes hb (by simpa using hs))
          · exact h.place _ _ (seal_bytes hb (by simpa using hs))
theorem DB.shwrite {s : Sh} (h : DB s.D) (id kind : Int) {b : List Int} (hb : Bytes b) : DB (s.write id kind b).1.D := by
  unfold Sh.write
  split
  · exact h
  · split
    · exact h
    · rename_i hs
      split
      · exact h.place _ _ (seal_bytes hb (by simpa using hs))
      · split
        · exact h
        · exact h.place _ _ (seal_bytes hb (by simpa using hs))
theorem DB.commit {s : Sh} (h : DB s.D) : DB s.commit.1.D := by
  unfold Sh.commit
  split
  · exact h
  · split
    · exact h
    · simp only
      split
      · exact h
      · split
        · exact h
        · rename_i l _ _
          have h1 := DB.layF 1 (s.next (splitL 246 (wordsL (s.table.drop 1))).length l).tables (splitL 246 (wordsL (s.table.drop 1))) 0 s h (splitL_bytes (wordsL_bytes _))
          split
          · exact h1
          · have h2 := DB.layF 2 (s.next (splitL 246 (wordsL (s.table.drop 1))).length l).maps (splitL 246 (usedL (s.next (splitL 246 (wordsL (s.table.drop 1))).length l) s.table)) 0 _ h1 (splitL_bytes (usedL_bytes _ _))
            split
            · exact h2
            · split
              · exact h2.crown _
              · exact h2.crown _
theorem DB.format {D : DiskSt} (h : DB D) : DB (Sh.format D).1.D := by
  have key : ∀ (U : List (List Int)) (m : List Int) (s0 : Sh) (r : Root), DB s0.D → (∀ p ∈ U, Bytes p) → DB (if (s0.lay 2 U m).2 ≠ 0 then s0.lay 2 U m else if ((s0.lay 2 U m).1.crown r).2 ≠ 0 then (s0.lay 2 U m).1.crown r else (((s0.lay 2 U m).1.crown r).1.settle r, 0)).1.D := by
    intro U m s0 r h0 hU
    have h1 : DB (s0.lay 2 U m).1.D := DB.layF 2 m U 0 s0 h0 hU
    split
    · exact h1
    · split
      · exact h1.crown _
      · exact h1.crown _
  have hU := splitL_bytes (n := 246) (usedL_bytes (firstRoot D.blocks) [0])
  unfold Sh.format
  split
  · exact h
  · split
    · exact h.write 1 zeros_bytes
    · refine key _ _ _ _ (h.write 1 zeros_bytes) hU
theorem DB.same {D E : DiskSt} (h : DB D) (hs : ∀ j, E.safe j = D.safe j) (hl : ∀ j, E.loose j = D.loose j) : DB E := ⟨(fun j l e => h.safe j l (by rw [← hs]; exact e)), (fun j l e => h.loose j l (by rw [← hl]; exact e))⟩
def bytesB (l : List Int) : Bool := l.all fun x => decide (0 ≤ x) && decide (x < 256)
theorem bytesB_ok {l : List Int} (h : bytesB l = true) : Bytes l := by
  intro x hx
  simp only [bytesB, List.all_eq_true, Bool.and_eq_true, decide_eq_true_eq] at h
  exact h x hx
def tabB (l : List Int) : Bool := decide (0 < l.length) && decide (l.length ≤ 3001) && l.all fun n => decide (0 ≤ n) && decide (n < 4096)
theorem tabB_ok {l : List Int} (h : tabB l = true) : 0 < l.length ∧ l.length ≤ 3001 ∧ ∀ n ∈ l, 0 ≤ n ∧ n < 4096 := by
  simp only [tabB, List.all_eq_true, Bool.and_eq_true, decide_eq_true_eq] at h
  exact ⟨h.1.1, h.1.2, h.2⟩
def okB (s : Sh) : Bool := decide (s.used.length ≤ 512) && bytesB s.used && decide (s.fresh.length ≤ 512) && bytesB s.fresh && tabB s.table && tabB s.was && decide (0 ≤ s.root.blocks) && decide (s.root.blocks ≤ 4096) &&
  decide (0 ≤ s.root.epoch) && decide (s.root.epoch ≤ 1099511627776) && decide (s.root.tables.length ≤ 1000) && decide (s.root.maps.length ≤ 1000)
theorem okB_ok {s : Sh} (h : okB s = true) : Ok s := by
  simp only [okB, Bool.and_eq_true, decide_eq_true_eq] at h
  obtain ⟨⟨⟨⟨⟨⟨⟨⟨⟨⟨⟨h1, h2⟩, h3⟩, h4⟩, h5⟩, h6⟩, h7⟩, h8⟩, h9⟩, h10⟩, h11⟩, h12⟩ := h
  exact ⟨⟨h1, bytesB_ok h2⟩, ⟨h3, bytesB_ok h4⟩, tabB_ok h5, tabB_ok h6, ⟨h7, h8⟩, ⟨h9, h10⟩, ⟨h11, h12⟩⟩
def nxB (s : Sh) : Bool := decide (1 ≤ mapsOf s.root.blocks) &&
  match s.lowest ((splitL 246 (wordsL (s.table.drop 1))).length + mapsOf s.root.blocks) with
  | none => true
  | some l => decide ((s.next (splitL 246 (wordsL (s.table.drop 1))).length l).check = 0)
theorem Ok.on {s : Sh} (h : Ok s) (D : DiskSt) : Ok (s.on D) := ⟨h.used, h.fresh, h.table, h.was, h.blocks, h.epoch, h.tabs⟩
end Go.Proofs.YtplkndmkchpcdaaGreat.Sh
end
section
namespace Go.Proofs
open Go.Shelf
def Tryz.keysA_ren : Go.Shelf.Ren := ⟨fun | 7 => 109 | 10 => 137 | n => n, fun | 23 => 78 | 26 => 3 | 3 => 112 | 28 => 138 | 0 => 0 | 27 => 137 | 33 => 62 | 4 => 4 | n => n, fun | n => n⟩
def Tryz.sortedA_ren : Go.Shelf.Ren := ⟨fun | 6 => 108 | 8 => 136 | 9 => 56 | 11 => 159 | 13 => 96 | 12 => 95 | 23 => 128 | 24 => 129 | 14 => 119 | 15 => 120 | 16 => 121 | 17 => 122 | 18 => 123 | 19 => 124 | 20 => 125 | 21 => 126 | 22 => 127 | 25 => 148 | 26 => 149 | 27 => 150 | 28 => 151 | 29 => 152 | 30 => 153 | 31 => 163 | n => n, fun | 26 => 3 | 28 => 138 | 24 => 38 | 0 => 0 | 3 => 3 | 37 => 53 | 48 => 156 | 50 => 158 | 4 => 4 | 40 => 149 | 39 => 148 | 45 => 127 | 5 => 5 | 9 => 9 | 51 => 171 | 55 => 175 | 57 => 187 | 58 => 188 | 33 => 62 | n => n, fun | n => n⟩
def Tryz.sortA_ren : Go.Shelf.Ren := ⟨fun | 5 => 56 | 8 => 96 | 7 => 95 | 19 => 128 | 20 => 129 | 10 => 119 | 11 => 120 | 12 => 121 | 13 => 122 | 14 => 123 | 15 => 124 | 16 => 125 | 17 => 126 | 18 => 127 | 30 => 148 | 31 => 149 | 32 => 150 | 33 => 151 | 34 => 152 | 35 => 153 | 40 => 163 | n => n, fun | 23 => 38 | 25 => 3 | 3 => 3 | 32 => 53 | 22 => 38 | 0 => 0 | 44 => 156 | 46 => 158 | 4 => 4 | 36 => 149 | 35 => 148 | 41 => 127 | 5 => 5 | 9 => 9 | 53 => 171 | 57 => 175 | 63 => 187 | 64 => 188 | n => n, fun | n => n⟩
theorem Tryz.sortA : Go.Proofs.SlLaysM.n5 Tryz.prog Tryz.sortA_ren := {
  mixed := by kernel_rfl
  f5 := ⟨Tryz.f56.name, by decide, Tryz.func56.trans (congrArg some (by kernel_rfl))⟩
  f7 := ⟨Tryz.f95.name, by decide, Tryz.func95.trans (congrArg some (by kernel_rfl))⟩
  f8 := Tryz.func96.trans (congrArg some (by kernel_rfl))
  f10 := ⟨Tryz.f119.name, by decide, Tryz.func119.trans (congrArg some (by kernel_rfl))⟩
  f11 := ⟨Tryz.f120.name, by decide, Tryz.func120.trans (congrArg some (by kernel_rfl))⟩
  f12 := ⟨Tryz.f121.name, by decide, Tryz.func121.trans (congrArg some (by kernel_rfl))⟩
  f13 := ⟨Tryz.f122.name, by decide, Tryz.func122.trans (congrArg some (by kernel_rfl))⟩
  f14 := ⟨Tryz.f123.name, by decide, Tryz.func123.trans (congrArg some (by kernel_rfl))⟩
  f15 := ⟨Tryz.f124.name, by decide, Tryz.func124.trans (congrArg some (by kernel_rfl))⟩
  f16 := ⟨Tryz.f125.name, by decide, Tryz.func125.trans (congrArg some (by kernel_rfl))⟩
  f17 := ⟨Tryz.f126.name, by decide, Tryz.func126.trans (congrArg some (by kernel_rfl))⟩
  f18 := ⟨Tryz.f127.name, by decide, Tryz.func127.trans (congrArg some (by kernel_rfl))⟩
  f19 := Tryz.func128.trans (congrArg some (by kernel_rfl))
  f20 := Tryz.func129.trans (congrArg some (by kernel_rfl))
  f30 := ⟨Tryz.f148.name, by decide, Tryz.func148.trans (congrArg some (by kernel_rfl))⟩
  f31 := Tryz.func149.trans (congrArg some (by kernel_rfl))
  f32 := Tryz.func150.trans (congrArg some (by kernel_rfl))
  f33 := ⟨Tryz.f151.name, by decide, Tryz.func151.trans (congrArg some (by kernel_rfl))⟩
  f34 := ⟨Tryz.f152.name, by decide, Tryz.func152.trans (congrArg some (by kernel_rfl))⟩
  f35 := ⟨Tryz.f153.name, by decide, Tryz.func153.trans (congrArg some (by kernel_rfl))⟩
  f40 := ⟨Tryz.f163.name, by decide, Tryz.func163.trans (congrArg some (by kernel_rfl))⟩
  t0 := Tryz.underlying0
  a0 := Tryz.isAgg0
  z0 := Tryz.sizeOf0
  v0 := Tryz.zeroValue0
  t3 := Tryz.underlying3
  a3 := Tryz.isAgg3
  z3 := Tryz.sizeOf3
  v3 := Tryz.zeroValue3
  t4 := Tryz.underlying4
  a4 := Tryz.isAgg4
  z4 := Tryz.sizeOf4
  v4 := Tryz.zeroValue4
  t5 := Tryz.underlying5
  a5 := Tryz.isAgg5
  z5 := Tryz.sizeOf5
  v5 := Tryz.zeroValue5
  t9 := Tryz.underlying9
  a9 := Tryz.isAgg9
  z9 := Tryz.sizeOf9
  v9 := Tryz.zeroValue9
  t22 := Tryz.underlying38
  a22 := Tryz.isAgg38
  z22 := Tryz.sizeOf38
  v22 := Tryz.zeroValue38
  t23 := Tryz.underlying38
  a23 := Tryz.isAgg38
  z23 := Tryz.sizeOf38
  v23 := Tryz.zeroValue38
  t25 := Tryz.underlying3
  a25 := Tryz.isAgg3
  z25 := Tryz.sizeOf3
  v25 := Tryz.zeroValue3
  t32 := Tryz.underlying53
  a32 := Tryz.isAgg53
  z32 := Tryz.sizeOf53
  v32 := Tryz.zeroValue53
  t35 := Tryz.underlying148
  a35 := Tryz.isAgg148
  z35 := Tryz.sizeOf148
  v35 := Tryz.zeroValue148
  t36 := Tryz.underlying149
  a36 := Tryz.isAgg149
  z36 := Tryz.sizeOf149
  v36 := Tryz.zeroValue149
  t41 := Tryz.underlying127
  a41 := Tryz.isAgg127
  z41 := Tryz.sizeOf127
  v41 := Tryz.zeroValue127
  t44 := Tryz.underlying156
  a44 := Tryz.isAgg156
  z44 := Tryz.sizeOf156
  v44 := Tryz.zeroValue156
  t46 := Tryz.underlying158
  a46 := Tryz.isAgg158
  z46 := Tryz.sizeOf158
  v46 := Tryz.zeroValue158
  t53 := Tryz.underlying171
  a53 := Tryz.isAgg171
  z53 := Tryz.sizeOf171
  v53 := Tryz.zeroValue171
  t57 := Tryz.underlying175
  a57 := Tryz.isAgg175
  z57 := Tryz.sizeOf175
  v57 := Tryz.zeroValue175
  t63 := Tryz.underlying187
  a63 := Tryz.isAgg187
  z63 := Tryz.sizeOf187
  v63 := Tryz.zeroValue187
  t64 := Tryz.underlying188
  a64 := Tryz.isAgg188
  z64 := Tryz.sizeOf188
  v64 := Tryz.zeroValue188 }
end Go.Proofs
end
section
namespace Go.Proofs.YtplkndmkchpcdaaGreat.Disk
open Go.RowKit Go.Maps Go.Sort Go.Shelf YtplkndmkchpcdaaGreatW.PrintWords MapFn
set_option maxHeartbeats 4000000
set_option maxRecDepth 100000
def looseL (D : DiskSt) : List Int := ((List.range D.blocks.toNat).map fun (i : Nat) => (i : Int)).filter fun j => (D.loose j).isSome
section
variable {p ms ml : Nat} {D : DiskSt} {w : World}
end
end Go.Proofs.YtplkndmkchpcdaaGreat.Disk
end
section
namespace Go.Proofs.YtplkndmkchpcdaaGreat.Disk
open Go.RowKit Go.Maps YtplkndmkchpcdaaGreatW.PrintWords MapFn
set_option maxHeartbeats 4000000
set_option maxRecDepth 100000
def DiskSt.reset (D : DiskSt) : DiskSt := { D.settled with down := false, done := false, fails := -1 }
section
variable {p ms ml : Nat} {D : DiskSt} {w : World}
end
end Go.Proofs.YtplkndmkchpcdaaGreat.Disk
end
section
namespace Go.Proofs.YtplkndmkchpcdaaGreat.Sh
open Go.RowKit YtplkndmkchpcdaaGreatW.PrintWords YtplkndmkchpcdaaGreatW.PrintLast YtplkndmkchpcdaaGreatW.PrintMore MapFn Disk Bitset Page PShadowPlays Num
set_option maxHeartbeats 16000000
set_option maxRecDepth 100000
theorem C_of_rowF {w : World} {g : Nat} {l : List Int} {t : TypeId} {fr : Nat × Nat} (h : w.heap[g]? = some (.cells (encB l) t fr)) (hl : l.length ≤ 9223372036854775807) : Kd.C (Kd.int .u8) w (some ⟨g, 0, none⟩) l.length l := by
  refine Kd.C_of_reads (enc := Value.int .u8) (d := (0 : Int)) (h1 := fun _ => rfl) ⟨rfl, hl, fun _ => ⟨_, rfl, fun j hj => ?_⟩⟩
  rw [Go.WideShapes.add_plain, Nat.zero_add, cell_of h]
  show (l.map (Value.int .u8)).toArray[j]? = _
  rw [List.getElem?_toArray, List.getElem?_map]
  simp [List.getD_eq_getElem?_getD, hj]
theorem _root_.Go.RowKit.Below.moves_low {B : Nat} {l : List Nat} {a b c : World} (h : Below B a b) (k : Moves l b c) (hl : ∀ x ∈ l, B ≤ x) (hB : B ≤ a.heap.size) : Below B a c :=
  ⟨k.os.trans h.os, k.tape.trans h.tape, k.output.trans h.output, Nat.le_trans h.size k.size, fun j hj => (k.block j (Nat.lt_of_lt_of_le (Nat.lt_of_lt_of_le hj hB) h.size) (fun hm => by have := hl j hm; omega)).trans (h.block j hj)⟩
end Go.Proofs.YtplkndmkchpcdaaGreat.Sh
end
section
namespace Go.Proofs.YtplkndmkchpcdaaGreat.Sh
open Go.RowKit YtplkndmkchpcdaaGreatW.PrintWords YtplkndmkchpcdaaGreatW.PrintLast YtplkndmkchpcdaaGreatW.PrintMore MapFn Disk Bitset Page Num
set_option maxHeartbeats 4000000
structure On (w wr : World) (p pd : Nat) (s : Sh) : Prop where
  ex : ∃ F : Foot, ShAt wr F s ∧ F.p = p ∧ F.pd = pd ∧ ∀ x ∈ F.own, w.heap.size ≤ x
  below : Below w.heap.size w wr
section
variable {w wr w' : World} {p pd : Nat} {s : Sh}
structure DOn (w wr : World) (pd : Nat) (D : DiskSt) : Prop where
  ex : ∃ ms ml, DiskAt wr pd ms ml D ∧ w.heap.size ≤ pd ∧ w.heap.size ≤ ms ∧ w.heap.size ≤ ml
  below : Below w.heap.size w wr
theorem new_on (n : Int) (w : World) : Calls Tryz.prog 11 #[.int .i64 n] w fun en w' => ∃ pd, en = .returned (.pointer (some ⟨pd, 0, none⟩)) ∧ DOn w w' pd (DiskSt.new n) := by
  refine (new_any n w).mono ?_
  rintro e w1 ⟨p, ms, ml, rfl, hd, hb, h1, h2, h3⟩
  exact ⟨p, rfl, ⟨ms, ml, hd, h1, h2, h3⟩, hb⟩
theorem format_on {D : DiskSt} (h : DOn w wr pd D) (hN : 0 ≤ D.blocks ∧ D.blocks ≤ 4096) :
    Calls Tryz.prog 10 #[.pointer (some ⟨pd, 0, none⟩)] wr fun en w' => ∃ p, en = .returned (.tuple #[ptrOf (Sh.format D).2 p, .int .i64 (Sh.format D).2]) ∧ On w w' p pd (Sh.format D).1 := by
  obtain ⟨⟨ms, ml, hd, h1, h2, h3⟩, hb⟩ := h
  refine (format_any pd ms ml D wr hd hN).mono ?_
  rintro e w1 ⟨F, rfl, hs, hbn⟩
  refine ⟨F.p, rfl, ⟨F, hs, rfl, hbn.epd, fun x hx => ?_⟩, ?_⟩
  · rcases hbn.own x hx with q | q
    · simp only [List.mem_cons, List.not_mem_nil, or_false] at q
      omega
    · exact Nat.le_trans hb.size q
  · exact hb.moves_low hbn.moves (fun x hx => by simp only [List.mem_cons, List.not_mem_nil, or_false] at hx; omega) (Nat.le_refl _)
end
end Go.Proofs.YtplkndmkchpcdaaGreat.Sh
end
section
namespace Go.Proofs.YtplkndmkchpcdaaGreat.Sh
open Go.RowKit YtplkndmkchpcdaaGreatW.PrintWords YtplkndmkchpcdaaGreatW.PrintLast YtplkndmkchpcdaaGreatW.PrintMore MapFn Disk Bitset Page
set_option maxHeartbeats 8000000
set_option maxRecDepth 100000
theorem block_facts {s : Sh} (hk : Ok s) {id : Int} (h : (s.block id).2 = 0) : 1 ≤ id ∧ id < (s.table.length : Int) ∧ 0 ≤ (s.block id).1 ∧ (s.block id).1 < 4096 ∧ (s.block id).1 = s.table.getD id.toNat 0 ∧ (s.block id).1 ≠ 0 := by
  unfold Sh.block at h ⊢
  split at h
  · exact absurd h (by assumption)
  · rename_i h1
    rw [if_neg h1]
    split at h
    · cases h
    · rename_i h2
      rw [if_neg h2]
      have hlt : id.toNat < s.table.length := by omega
      have := hk.table.2.2 (s.table.getD id.toNat 0) (by rw [List.getD_eq_getElem?_getD, List.getElem?_eq_getElem hlt]; exact List.getElem_mem hlt)
      exact ⟨by omega, by omega, this.1, this.2, rfl, fun e => h2 (.inr (.inr e))⟩
theorem shwrite_any (id kind : Int) (A : Option Addr) (c : Nat) (body : List Int) (w : World) (F : Foot) (s : Sh) (h : ShAt w F s) (hk : Ok s) (hr : InW .u8 w A body c) (hb : Bytes body) :
    Calls Tryz.prog 30 #[.pointer (some ⟨F.p, 0, none⟩), .int .i64 id, .int .i64 kind, .slice A body.length c] w fun en w' => en = .returned (.int .i64 (s.write id kind body).2) ∧ ∃ F', ShAt w' F' (s.write id kind body).1 ∧ Goes F F' w w' := by
  have HBL := Hide.mk (block_any id h)
  have HS := Hide.mk h
  have HK := Hide.mk hk
  have HR := Hide.mk hr
  have HB := Hide.mk hb
  have HFR : Hide (Small s.fresh ∧ Bytes s.fresh) := ⟨⟨by have := hk.fresh.1; unfold Small; omega, hk.fresh.2⟩⟩
  obtain ⟨R, hR⟩ : ∃ R, s.write id kind body = R := ⟨_, rfl⟩
  rw [hR]
  unfold Sh.write at hR
  have hbf := fun e => block_facts hk (id := id) e
  obtain ⟨x, e0, hx⟩ : ∃ x e, s.block id = (x, e) := ⟨_, _, rfl⟩
  rw [hx] at HBL hR hbf
  simp only at HBL hR hbf
  clear h hk hr hb hx
  by_cases h0 : e0 = 0
  · subst h0
    rw [if_neg (by simp)] at hR
    obtain ⟨q1, q2, q3, q4, q5, q6⟩ := hbf rfl
    obtain ⟨k, hk0⟩ : ∃ k : Nat, id = (k : Int) := ⟨id.toNat, by omega⟩
    subst hk0
    have HID5 : Hide (k ≤ 5000) := ⟨by have := HK.out.table.2.1; omega⟩
    have HX := Hide.mk (wf_small q3 q4)
    clear hbf q1 q2 q3 q4 q5 q6
    by_cases h1 : sealE kind (k : Int) body.length = 0
    · rw [if_neg (by simpa using h1)] at hR
      have HSE := Hide.mk (seal_ok kind (k : Int) A c body w HR.out.reads HB.out h1)
      obtain ⟨fx, hfx⟩ : ∃ b, hasL s.fresh x = b := ⟨_, rfl⟩
      have HXE := Hide.mk hfx
      rw [hfx] at hR
      cases fx
      · rw [if_neg (by simp)] at hR
        cases hl : s.lowest 1 with
        | none =>
          rw [hl] at hR
          simp only at hR
          have HL := Hide.mk hl
          have HRR := Hide.mk hR.symm
          clear hR hl h1 hfx
          go_enter Tryz.func30, Tryz.ntmps30
          go_wp2_with (first
            | (go_at_call 68
               with_reducible refine HBL.out.mono ?_
               rintro e w0 ⟨rfl, hw0⟩
               have hw1 := hw0.symm
               subst hw1)
            | (go_at_call 64
               with_reducible refine HSE.out.mono ?_
               rintro e w4 ⟨v4, rfl, ho, hb4⟩
               obtain ⟨A4, c4, hv, hi4, hge4⟩ := In.of_own ho
               obtain ⟨n4, hn4⟩ : ∃ n, (sealL kind (k : Int) body).length = n := ⟨_, rfl⟩
               rw [hn4] at hv
               subst hv
               have S4 := Hide.mk (HS.out.below hb4)
               have B4 := Hide.mk hb4
               have I4 := Hide.mk hi4
               have HN4 := Hide.mk hn4
               have c12 := S4.out.cells.c12
               have HHS0 := has_any S4.out.fresh.inB HFR.out.1 HFR.out.2 x
               rw [HXE.out] at HHS0
               have HHS := Hide.mk HHS0
               clear ho hb4 hi4 hge4 hn4 HHS0)
            | (go_at_call 75
               with_reducible refine HHS.out.mono ?_
               rintro e w5 ⟨rfl, hd⟩
               have S5 := Hide.mk (S4.out.below hd.below)
               have B5 := Hide.mk (B4.out.trans (hd.below.mono B4.out.size))
               have I5 := Hide.mk (I4.out.below hd.below)
               have HLO := Hide.mk (lowest_any 1 (by omega) F s w5 S5.out HK.out)
               clear hd)
            | (go_at_call 65
               refine HLO.out.mono ?_
               rintro e w6 ⟨v6, rfl, ho, hb6⟩
               rw [HL.out] at ho ⊢
               have B6 := Hide.mk (B5.out.trans (hb6.mono B5.out.size))
               have S6 := Hide.mk (S5.out.below hb6)
               clear ho hb6))
          go_ret
          rw [HRR.out]
          exact ⟨rfl, F, S6.out, Goes.below B6.out⟩
        | some l =>
          rw [hl] at hR
          have hlf := lowest_facts HK.out hl
          obtain ⟨x0, rfl⟩ : ∃ x0, l = [x0] := List.length_eq_one_iff.1 hlf.1
          have hx0b := hlf.2 x0 (by simp)
          simp only [List.getD_cons_zero] at hR
          obtain ⟨sp, ep, hPL⟩ : ∃ sp ep, s.place k x0 (sealL kind (k : Int) body) = (sp, ep) := ⟨_, _, rfl⟩
          rw [hPL] at hR
          have HPLE := Hide.mk hPL
          have HWX := Hide.mk (wf_small hx0b.1 hx0b.2)
          have HL := Hide.mk hl
          have HRR := Hide.mk hR.symm
          clear hR hl h1 hlf hx0b hPL hfx
          go_enter Tryz.func30, Tryz.ntmps30
          go_wp2_with (first
            | (go_at_call 68
               with_reducible refine HBL.out.mono ?_
               rintro e w0 ⟨rfl, hw0⟩
               have hw1 := hw0.symm
               subst hw1)
            | (go_at_call 64
               with_reducible refine HSE.out.mono ?_
               rintro e w4 ⟨v4, rfl, ho, hb4⟩
               obtain ⟨A4, c4, hv, hi4, hge4⟩ := In.of_own ho
               obtain ⟨n4, hn4⟩ : ∃ n, (sealL kind (k : Int) body).length = n := ⟨_, rfl⟩
               rw [hn4] at hv
               subst hv
               have S4 := Hide.mk (HS.out.below hb4)
               have B4 := Hide.mk hb4
               have I4 := Hide.mk hi4
               have HN4 := Hide.mk hn4
               have c12 := S4.out.cells.c12
               have HHS0 := has_any S4.out.fresh.inB HFR.out.1 HFR.out.2 x
               rw [HXE.out] at HHS0
               have HHS := Hide.mk HHS0
               clear ho hb4 hi4 hge4 hn4 HHS0)
            | (go_at_call 75
               with_reducible refine HHS.out.mono ?_
               rintro e w5 ⟨rfl, hd⟩
               have S5 := Hide.mk (S4.out.below hd.below)
               have B5 := Hide.mk (B4.out.trans (hd.below.mono B4.out.size))
               have I5 := Hide.mk (I4.out.below hd.below)
               have HLO := Hide.mk (lowest_any 1 (by omega) F s w5 S5.out HK.out)
               clear hd)
            | (go_at_call 65
               refine HLO.out.mono ?_
               rintro e w6 ⟨v6, rfl, ho, hb6⟩
               rw [HL.out] at ho ⊢
               obtain ⟨A6, c6, hv6, hi6, hge6⟩ := In.of_own ho
               have hv6' : v6 = .slice A6 1 c6 := hv6
               subst hv6'
               obtain ⟨g6, off6, hA6, hc6⟩ := at_one hi6.reads
               subst hA6
               have B6 := Hide.mk (B5.out.trans (hb6.mono B5.out.size))
               have S6 := Hide.mk (S5.out.below hb6)
               have I6 := Hide.mk (I5.out.below hb6)
               have HPL0 := place_any k x0 A4 c4 (sealL kind (k : Int) body) w6 F s S6.out HK.out HWX.out I6.out.reads HID5.out
               rw [HPLE.out, HN4.out] at HPL0
               have HPL := Hide.mk HPL0
               clear HPL0
               clear ho hb6 hi6 hge6 hv6)
            | (go_at_call 66
               with_reducible refine HPL.out.mono ?_
               rintro e w7 ⟨rfl, F7, hs7, hg7⟩
               have S7 := Hide.mk hs7
               have G7 := Hide.mk hg7
               clear hs7 hg7))
          go_ret
          rw [HRR.out]
          exact ⟨rfl, F7, S7.out, (Goes.below B6.out).trans G7.out⟩
      · rw [if_pos rfl] at hR
        obtain ⟨sp, ep, hPL⟩ : ∃ sp ep, s.place k x (sealL kind (k : Int) body) = (sp, ep) := ⟨_, _, rfl⟩
        rw [hPL] at hR
        have HPLE := Hide.mk hPL
        have HWX := HX
        have HRR := Hide.mk hR.symm
        clear hR h1 hPL hfx
        go_enter Tryz.func30, Tryz.ntmps30
        go_wp2_with (first
          | (go_at_call 68
             with_reducible refine HBL.out.mono ?_
             rintro e w0 ⟨rfl, hw0⟩
             have hw1 := hw0.symm
             subst hw1)
          | (go_at_call 64
             with_reducible refine HSE.out.mono ?_
             rintro e w4 ⟨v4, rfl, ho, hb4⟩
             obtain ⟨A4, c4, hv, hi4, hge4⟩ := In.of_own ho
             obtain ⟨n4, hn4⟩ : ∃ n, (sealL kind (k : Int) body).length = n := ⟨_, rfl⟩
             rw [hn4] at hv
             subst hv
             have S4 := Hide.mk (HS.out.below hb4)
             have B4 := Hide.mk hb4
             have I4 := Hide.mk hi4
             have HN4 := Hide.mk hn4
             have c12 := S4.out.cells.c12
             have HHS0 := has_any S4.out.fresh.inB HFR.out.1 HFR.out.2 x
             rw [HXE.out] at HHS0
             have HHS := Hide.mk HHS0
             clear ho hb4 hi4 hge4 hn4 HHS0)
          | (go_at_call 75
             with_reducible refine HHS.out.mono ?_
             rintro e w5 ⟨rfl, hd⟩
             have S5 := Hide.mk (S4.out.below hd.below)
             have B5 := Hide.mk (B4.out.trans (hd.below.mono B4.out.size))
             have I5 := Hide.mk (I4.out.below hd.below)
             have HPL0 := place_any k x A4 c4 (sealL kind (k : Int) body) w5 F s S5.out HK.out HWX.out I5.out.reads HID5.out
             rw [HPLE.out, HN4.out] at HPL0
             have HPL := Hide.mk HPL0
             clear HPL0
             clear hd)
          | (go_at_call 66
             with_reducible refine HPL.out.mono ?_
             rintro e w7 ⟨rfl, F7, hs7, hg7⟩
             have S7 := Hide.mk hs7
             have G7 := Hide.mk hg7
             clear hs7 hg7))
        go_ret
        rw [HRR.out]
        exact ⟨rfl, F7, S7.out, (Goes.below B5.out).trans G7.out⟩
    · rw [if_pos h1] at hR
      have HSE := Hide.mk (seal_bad kind (k : Int) A c body.length w h1)
      obtain ⟨E, hE⟩ : ∃ E, sealE kind (k : Int) body.length = E := ⟨_, rfl⟩
      rw [hE] at HSE hR h1
      have q2 : (E != 0) = true := by simp [h1]
      have HRR := Hide.mk hR.symm
      clear hR h1 hE
      go_enter Tryz.func30, Tryz.ntmps30
      go_wp2_with (first
        | (go_at_call 68
           with_reducible refine HBL.out.mono ?_
           rintro e w0 ⟨rfl, hw0⟩
           have hw1 := hw0.symm
           subst hw1)
        | (go_at_call 64
           with_reducible refine HSE.out.mono ?_
           rintro e w4 ⟨rfl, hb4⟩
           have B4 := Hide.mk hb4
           clear hb4))
      go_ret
      rw [HRR.out]
      exact ⟨rfl, F, HS.out.below B4.out, Goes.below B4.out⟩
  · rw [if_pos h0] at hR
    have q : (e0 != 0) = true := by simp [h0]
    have HRR := Hide.mk hR.symm
    clear h0 hR hbf
    go_enter Tryz.func30, Tryz.ntmps30
    go_wp2_with (first
      | (go_at_call 68
         with_reducible refine HBL.out.mono ?_
         rintro e w0 ⟨rfl, hw0⟩
         have hw1 := hw0.symm
         subst hw1))
    go_ret
    rw [HRR.out]
    exact ⟨rfl, F, HS.out, Goes.refl _ _⟩
section
variable {w wr w' : World} {p pd : Nat} {s : Sh}
end
end Go.Proofs.YtplkndmkchpcdaaGreat.Sh
end
section
namespace Go.Proofs.YtplkndmkchpcdaaGreat.Pool
open Go.RowKit YtplkndmkchpcdaaGreatW.PrintWords MapFn Disk Page Num Bitset Sh
set_option maxHeartbeats 4000000
set_option maxRecDepth 100000
structure Fr where
  id : Int
  kind : Int
  body : List Int
  pins : Int
  dirty : Bool
structure Pl where
  S : Sh
  most : Int
  frames : List Fr
  hits : Int
  misses : Int
def idxF (q : Fr → Bool) : List Fr → Nat → Int
  | [], _ => -1
  | f :: r, i => if q f = true then (i : Int) else idxF q r (i + 1)
def Pl.place (p : Pl) (id : Int) : Int := idxF (fun f => decide (f.id = id)) p.frames 0
def Fr.none : Fr := ⟨0, 0, [], 0, false⟩
def Pl.flush (p : Pl) (k : Nat) : Pl × Int :=
  let f := p.frames.getD k Fr.none
  if f.dirty = false then (p, 0)
  else if (p.S.write f.id f.kind f.body).2 ≠ 0 then ({ p with S := (p.S.write f.id f.kind f.body).1 }, (p.S.write f.id f.kind f.body).2)
  else ({ p with S := (p.S.write f.id f.kind f.body).1, frames := p.frames.set k { f with dirty := false } }, 0)
def Pl.free_ (p : Pl) : Int := idxF (fun f => decide (f.pins = 0)) p.frames 0
def Pl.room (p : Pl) : Pl × Int :=
  if (p.frames.length : Int) < p.most then (p, 0)
  else if p.free_ < 0 then (p, 14)
  else if (p.flush p.free_.toNat).2 ≠ 0 then p.flush p.free_.toNat
  else ({ (p.flush p.free_.toNat).1 with frames := (p.flush p.free_.toNat).1.frames.eraseIdx p.free_.toNat }, 0)
def Pl.hold (p : Pl) (f : Fr) : Pl := { p with frames := p.frames ++ [f] }
def Pl.fetch (p : Pl) (id : Int) : Pl × Int :=
  if 0 ≤ p.place id then (({ p with hits := wrap64 (p.hits + 1), frames := p.frames.eraseIdx (p.place id).toNat } : Pl).hold (p.frames.getD (p.place id).toNat Fr.none), 0)
  else
    let a := ({ p with misses := wrap64 (p.misses + 1) } : Pl).room
    if a.2 ≠ 0 then a
    else if (a.1.S.read id).2.2.2 ≠ 0 then ({ a.1 with S := (a.1.S.read id).1 }, (a.1.S.read id).2.2.2)
    else (({ a.1 with S := (a.1.S.read id).1 } : Pl).hold ⟨id, (a.1.S.read id).2.1, (a.1.S.read id).2.2.1, 0, false⟩, 0)
def Pl.last (p : Pl) : Fr := p.frames.getD (p.frames.length - 1) Fr.none
def Pl.setLast (p : Pl) (f : Fr) : Pl := { p with frames := p.frames.set (p.frames.length - 1) f }
def Pl.get (p : Pl) (id : Int) : Pl × Int × List Int × Int :=
  if (p.fetch id).2 ≠ 0 then ((p.fetch id).1, 0, [], (p.fetch id).2)
  else ((p.fetch id).1, (p.fetch id).1.last.kind, (p.fetch id).1.last.body, 0)
def Pl.set (p : Pl) (id kind : Int) (body : List Int) : Pl × Int :=
  if (p.fetch id).2 ≠ 0 then p.fetch id
  else if sealE kind 1 body.length ≠ 0 then ((p.fetch id).1, sealE kind 1 body.length)
  else ((p.fetch id).1.setLast { (p.fetch id).1.last with kind := kind, body := body, dirty := true }, 0)
def Pl.alloc (p : Pl) (kind : Int) (body : List Int) : Pl × Int × Int :=
  if p.room.2 ≠ 0 then (p.room.1, 0, p.room.2)
  else
    let a := p.room.1.S.alloc kind body
    if a.2.2 ≠ 0 then ({ p.room.1 with S := a.1 }, 0, a.2.2)
    else (({ p.room.1 with S := a.1 } : Pl).hold ⟨a.2.1, kind, body, 0, false⟩, a.2.1, 0)
def Pl.free (p : Pl) (id : Int) : Pl × Int :=
  if 0 ≤ p.place id ∧ 0 < (p.frames.getD (p.place id).toNat Fr.none).pins then (p, 14)
  else if (p.S.free id).2 ≠ 0 then ({ p with S := (p.S.free id).1 }, (p.S.free id).2)
  else ({ p with S := (p.S.free id).1, frames := if 0 ≤ p.place id then p.frames.eraseIdx (p.place id).toNat else p.frames }, 0)
def Pl.pin (p : Pl) (id : Int) : Pl × Int :=
  if (p.fetch id).2 ≠ 0 then p.fetch id
  else ((p.fetch id).1.setLast { (p.fetch id).1.last with pins := wrap64 ((p.fetch id).1.last.pins + 1) }, 0)
def Pl.unpin (p : Pl) (id : Int) : Pl × Int :=
  if p.place id < 0 then (p, 8)
  else if (p.frames.getD (p.place id).toNat Fr.none).pins = 0 then (p, 15)
  else ({ p with frames := p.frames.set (p.place id).toNat { p.frames.getD (p.place id).toNat Fr.none with pins := wrap64 ((p.frames.getD (p.place id).toNat Fr.none).pins - 1) } }, 0)
def Pl.held (p : Pl) : List Int := (p.frames.map (·.id)).mergeSort fun x y => decide (x ≤ y)
def Pl.new (S : Sh) (most : Int) : Pl := ⟨S, most, [], 0, 0⟩
def encP (o : Option Nat) : Value := .pointer (o.map fun n => ⟨n, 0, Option.none⟩)
theorem encP_one (o : Option Nat) : (encP o).oneCell' = true := rfl
def kdP : Kd (Option Nat) := Kd.scalar encP encP_one
structure FrAt (w : World) (base : Nat) (x : Nat) (f : Fr) : Prop where
  ex : ∃ v, w.heap[x]? = some (.cells #[.int .i64 f.id, .int .i64 f.kind, v, .int .i64 f.pins, .bool f.dirty] 88 (0, 0)) ∧ Kd.R (Kd.int .u8) 5 w base (fun _ => True) v f.body
  ge : base ≤ x
  bytes : Bytes f.body
  short : f.body.length ≤ 1000
structure Zip {α β : Type} (R : α → β → Prop) (l : List α) (m : List β) : Prop where
  len : l.length = m.length
  at_ : ∀ (i : Nat) (a : α) (b : β), l[i]? = some a → m[i]? = some b → R a b
section
variable {α β : Type} {R S : α → β → Prop} {l : List α} {m : List β}
theorem Zip.nil (R : α → β → Prop) : Zip R [] [] := ⟨rfl, fun i a b h => by simp at h⟩
theorem Zip.imp (h : Zip R l m) (f : ∀ a, a ∈ l → ∀ b, R a b → S a b) : Zip S l m := ⟨h.len, fun i a b h1 h2 => f a (List.mem_of_getElem? h1) b (h.at_ i a b h1 h2)⟩
theorem Zip.snoc (h : Zip R l m) {a : α} {b : β} (hr : R a b) : Zip R (l ++ [a]) (m ++ [b]) := by
  refine ⟨by simp [h.len], fun i x y h1 h2 => ?_⟩
  have hl := h.len
  rcases Nat.lt_or_ge i l.length with q | q
  · rw [List.getElem?_append_left q] at h1
    rw [List.getElem?_append_left (by omega)] at h2
    exact h.at_ i x y h1 h2
  · rw [List.getElem?_append_right q] at h1
    rw [List.getElem?_append_right (by omega)] at h2
    rcases Nat.eq_zero_or_pos (i - l.length) with e | e
    · rw [e] at h1
      rw [show i - m.length = 0 by omega] at h2
      simp at h1 h2
      rw [← h1, ← h2]
      exact hr
    · rw [List.getElem?_eq_none (by simp; omega)] at h1
      cases h1
theorem Zip.erase (h : Zip R l m) (i : Nat) : Zip R (l.eraseIdx i) (m.eraseIdx i) := by
  refine ⟨by rw [List.length_eraseIdx, List.length_eraseIdx, h.len], fun j x y h1 h2 => ?_⟩
  rw [List.getElem?_eraseIdx] at h1 h2
  split at h1
  · rename_i q
    rw [if_pos q] at h2
    exact h.at_ _ x y h1 h2
  · rename_i q
    rw [if_neg q] at h2
    exact h.at_ _ x y h1 h2
theorem Zip.mem (h : Zip R l m) {a : α} (ha : a ∈ l) : ∃ b, R a b := by
  obtain ⟨i, hi, rfl⟩ := List.mem_iff_getElem.1 ha
  have hm : i < m.length := by have := h.len; omega
  exact ⟨m[i], h.at_ i _ _ (List.getElem?_eq_getElem hi) (List.getElem?_eq_getElem hm)⟩
end
structure PIn (w wr : World) (b ps pd : Nat) (F : Foot) (v : Value) (bs : List Nat) (p : Pl) : Prop where
  sh : ShAt wr F p.S
  ep : F.p = ps
  epd : F.pd = pd
  row : wr.heap[b]? = some (.cells #[.pointer (some ⟨ps, 0, none⟩), .int .i64 p.most, v, .int .i64 p.hits, .int .i64 p.misses] 83 (0, 0))
  arr : Kd.R kdP 84 wr w.heap.size (fun _ => True) v (bs.map some)
  nodup : bs.Nodup
  frs : Zip (FrAt wr w.heap.size) bs p.frames
  own : ∀ x ∈ F.own, w.heap.size ≤ x
  bge : w.heap.size ≤ b
  off : ∀ A ∈ F.slices, ∀ a, A = some a → a.block ≠ b ∧ ¬ a.block ∈ bs ∧ v.ownBlock ≠ some a.block
  below : Below w.heap.size w wr
def PAt (w wr : World) (b ps pd : Nat) (p : Pl) : Prop := ∃ F v bs, PIn w wr b ps pd F v bs p
section
variable {w wr w' : World} {b ps pd : Nat} {F : Foot} {v : Value} {bs : List Nat} {p : Pl}
theorem R_moves {k : IntKind} {e : TypeId} {base : Nat} {ok : Nat → Prop} {v : Value} {l : List Int} {s : List Nat} (h : Kd.R (Kd.int k) e wr base ok v l) (hm : Moves s wr w') (ho : ∀ g, v.ownBlock = some g → ¬ g ∈ s) : Kd.R (Kd.int k) e w' base ok v l := by
  have h1 : Kd.R (Kd.int k) e wr base (fun g => v.ownBlock = some g) v l := Kd.R_of_own (enc := Value.int k) (h1 := fun _ => rfl) (Kd.own_of_R (enc := Value.int k) (h1 := fun _ => rfl) h) (fun _ h => h)
  exact Kd.R_mono (Kd.R_step h1 (fun g hg hlt => hm.block g hlt (ho g hg))) (fun g hg => h.1 g hg)
theorem RP_moves {e : TypeId} {base : Nat} {ok : Nat → Prop} {v : Value} {l : List (Option Nat)} {s : List Nat} (h : Kd.R kdP e wr base ok v l) (hm : Moves s wr w') (ho : ∀ g, v.ownBlock = some g → ¬ g ∈ s) : Kd.R kdP e w' base ok v l := by
  have h1 : Kd.R kdP e wr base (fun g => v.ownBlock = some g) v l := Kd.R_of_own (enc := encP) (h1 := encP_one) (Kd.own_of_R (enc := encP) (h1 := encP_one) h) (fun _ h => h)
  exact Kd.R_mono (Kd.R_step h1 (fun g hg hlt => hm.block g hlt (ho g hg))) (fun g hg => h.1 g hg)
theorem typed {α : Type} {d : Kd α} {e : TypeId} {base : Nat} {ok : Nat → Prop} {v : Value} {l : List α} (h : Kd.R d e wr base ok v l) (g : Nat) (hg : v.ownBlock = some g) : ∃ cells, wr.heap[g]? = some (.cells cells e (0, 0)) := by
  obtain ⟨inner, ho⟩ := Kd.R_own h
  exact own_typed ho g hg
theorem ne_of_types {x y : Nat} {c c' : Array Value} {t t' : TypeId} {f f' : Nat × Nat} (h : wr.heap[x]? = some (.cells c t f)) (h' : wr.heap[y]? = some (.cells c' t' f')) (hne : t ≠ t') : x ≠ y := by
  rintro rfl
  rw [h] at h'
  injection h' with h1
  injection h1 with _ h2 _
  exact hne h2
theorem own_types {s : Sh} (h : ShAt wr F s) {y : Nat} {c : Array Value} {t : TypeId} {f : Nat × Nat} (hy : wr.heap[y]? = some (.cells c t f)) (h1 : t ≠ 73) (h2 : t ≠ 80) (h3 : t ≠ 3) : ¬ y ∈ F.own := by
  intro hm
  simp only [Foot.own, List.mem_cons, List.not_mem_nil, or_false] at hm
  rcases hm with e | e | e | e | e
  · exact ne_of_types hy h.row h1 e
  · exact ne_of_types hy h.disk.row h2 e
  · exact row_ne_map hy h.disk.safe e
  · exact row_ne_map hy h.disk.loose e
  · obtain ⟨cells, hc⟩ := typed h.table F.g rfl
    exact ne_of_types hy hc h3 e
theorem FrAt.moves {base x : Nat} {f : Fr} {s : List Nat} (h : FrAt wr base x f) (hm : Moves s wr w') (hx : ¬ x ∈ s) (ho : ∀ y ∈ s, ∀ c f, wr.heap[y]? ≠ some (.cells c 5 f)) : FrAt w' base x f := by
  obtain ⟨v, hr, hb⟩ := h.ex
  refine ⟨⟨v, (hm.block x (lt_of_row hr) hx).trans hr, R_moves hb hm fun g hg hgs => ?_⟩, h.ge, h.bytes, h.short⟩
  obtain ⟨cells, hc⟩ := typed hb g hg
  exact ho g hgs _ _ hc
theorem FrAt.below {base x : Nat} {f : Fr} (h : FrAt wr base x f) (hb : Below wr.heap.size wr w') : FrAt w' base x f := h.moves (Moves.of_below hb []) (by simp) (by simp)
theorem FrAt.lt {base x : Nat} {f : Fr} (h : FrAt wr base x f) : x < wr.heap.size := by obtain ⟨_, hr, _⟩ := h.ex; exact lt_of_row hr
theorem fr_off {s : Sh} (hs : ShAt wr F s) {base x : Nat} {f : Fr} (h : FrAt wr base x f) : ¬ x ∈ F.own := by
  obtain ⟨_, hr, _⟩ := h.ex
  exact own_types hs hr (by decide) (by decide) (by decide)
theorem PIn.fr_ne (h : PIn w wr b ps pd F v bs p) {base x : Nat} {f : Fr} (hf : FrAt wr base x f) : x ≠ b ∧ v.ownBlock ≠ some x := by
  obtain ⟨_, hr, _⟩ := hf.ex
  refine ⟨ne_of_types hr h.row (by decide), fun e => ?_⟩
  obtain ⟨cells, hc⟩ := typed h.arr x e
  exact ne_of_types hr hc (by decide) rfl
theorem PIn.b_off (h : PIn w wr b ps pd F v bs p) : ¬ b ∈ F.own ∧ v.ownBlock ≠ some b := by
  refine ⟨own_types h.sh h.row (by decide) (by decide) (by decide), fun e => ?_⟩
  obtain ⟨cells, hc⟩ := typed h.arr b e
  exact ne_of_types h.row hc (by decide) rfl
theorem PIn.arr_off (h : PIn w wr b ps pd F v bs p) (g : Nat) (hg : v.ownBlock = some g) : ¬ g ∈ F.own := by
  obtain ⟨cells, hc⟩ := typed h.arr g hg
  exact own_types h.sh hc (by decide) (by decide) (by decide)
def Quiet (t : TypeId) : Prop := (t ≠ 73 ∧ t ≠ 80 ∧ t ≠ 3) ∧ t ≠ 83 ∧ t ≠ 84 ∧ t ≠ 88
theorem quiet8 : Quiet 5 := by unfold Quiet; decide
theorem quietS : Quiet 9 := by unfold Quiet; decide
theorem own_quiet {s : Sh} (h : ShAt wr F s) : ∀ y ∈ F.own, ∀ c t f, Quiet t → wr.heap[y]? ≠ some (.cells c t f) := fun y hy c t f hq hc => own_types h hc hq.1.1 hq.1.2.1 hq.1.2.2 hy
theorem own_no8 {s : Sh} (h : ShAt wr F s) : ∀ y ∈ F.own, ∀ c f, wr.heap[y]? ≠ some (.cells c 5 f) := fun y hy c f => own_quiet h y hy c _ f quiet8
def Ours (b : Nat) (v : Value) (bs : List Nat) (n x : Nat) : Prop := x = b ∨ v.ownBlock = some x ∨ x ∈ bs ∨ n ≤ x
theorem PIn.ours_quiet (h : PIn w wr b ps pd F v bs p) {x : Nat} (hx : Ours b v bs wr.heap.size x) : ∀ c t f, Quiet t → wr.heap[x]? ≠ some (.cells c t f) := by
  intro c t f hq hc
  obtain ⟨_, n1, n2, n3⟩ := hq
  rcases hx with rfl | e | e | e
  · exact ne_of_types hc h.row n1 rfl
  · obtain ⟨cells, hr⟩ := typed h.arr x e
    exact ne_of_types hc hr n2 rfl
  · obtain ⟨f, hf⟩ := h.frs.mem e
    obtain ⟨_, hr, _⟩ := hf.ex
    exact ne_of_types hc hr n3 rfl
  · have := lt_of_row hc
    omega
theorem PIn.ours_no8 (h : PIn w wr b ps pd F v bs p) {x : Nat} (hx : Ours b v bs wr.heap.size x) : ∀ c f, wr.heap[x]? ≠ some (.cells c 5 f) := fun c f => h.ours_quiet hx c _ f quiet8
theorem PIn.ours_off (h : PIn w wr b ps pd F v bs p) {x : Nat} (hx : Ours b v bs wr.heap.size x) : ¬ x ∈ F.own := by
  rcases hx with rfl | e | e | e
  · exact h.b_off.1
  · exact h.arr_off x e
  · obtain ⟨f, hf⟩ := h.frs.mem e
    exact fr_off h.sh hf
  · intro hm
    have := h.sh.lts x hm
    omega
theorem PIn.ours_ge (h : PIn w wr b ps pd F v bs p) {x : Nat} (hx : Ours b v bs wr.heap.size x) : w.heap.size ≤ x := by
  rcases hx with rfl | e | e | e
  · exact h.bge
  · exact Kd.R_base h.arr x e
  · obtain ⟨f, hf⟩ := h.frs.mem e
    exact hf.ge
  · exact Nat.le_trans h.below.size e
theorem PIn.ours_slice (h : PIn w wr b ps pd F v bs p) {x : Nat} (hx : Ours b v bs wr.heap.size x) {A : Option Addr} (hA : A ∈ F.slices) {a : Addr} (ha : A = some a) : a.block ≠ x := by
  obtain ⟨h1, h2, h3⟩ := h.off A hA a ha
  rintro rfl
  rcases hx with e | e | e | e
  · exact h1 e
  · exact h3 e
  · exact h2 e
  · have := h.sh.slice_lt A hA a ha
    omega
theorem PIn.later (h : PIn w wr b ps pd F v bs p) (hb : Below wr.heap.size wr w') : PIn w w' b ps pd F v bs p :=
  ⟨h.sh.below hb, h.ep, h.epd, (hb.block b (lt_of_row h.row)).trans h.row, Kd.R_below h.arr hb, h.nodup, h.frs.imp fun x _ f hf => hf.below hb, h.own, h.bge, h.off, h.below.trans (hb.mono h.below.size)⟩
theorem PIn.shadow {F' : Foot} {s' : Sh} (h : PIn w wr b ps pd F v bs p) (hs : ShAt w' F' s') (hg : Goes F F' wr w') : PIn w w' b ps pd F' v bs { p with S := s' } :=
  ⟨hs, hg.p.trans h.ep, hg.pd.trans h.epd, (hg.moves.block b (lt_of_row h.row) h.b_off.1).trans h.row, RP_moves h.arr hg.moves h.arr_off, h.nodup,
   h.frs.imp fun x hx f hf => hf.moves hg.moves (fr_off h.sh hf) (own_no8 h.sh), fun x hx => by
    rcases hg.own x hx with q | q
    · exact h.own x q
    · exact Nat.le_trans h.below.size q, h.bge, fun A hA a ha => by
    rcases hg.sl A hA with q | q
    · exact h.off A q a ha
    · have hge := q a ha
      refine ⟨fun e => ?_, fun e => ?_, fun e => ?_⟩
      · have := lt_of_row h.row
        omega
      · obtain ⟨f, hf⟩ := h.frs.mem e
        have := hf.lt
        omega
      · have := Kd.R_lt h.arr _ e
        omega, h.below.moves_low hg.moves h.own (Nat.le_refl _)⟩
theorem PIn.turn {p' : Pl} {v' : Value} {bs' : List Nat} {s : List Nat} (h : PIn w wr b ps pd F v bs p) (hm : Moves s wr w') (hs : ∀ x ∈ s, Ours b v bs wr.heap.size x)
    (hr : w'.heap[b]? = some (.cells #[.pointer (some ⟨ps, 0, none⟩), .int .i64 p'.most, v', .int .i64 p'.hits, .int .i64 p'.misses] 83 (0, 0)))
    (ha : Kd.R kdP 84 w' w.heap.size (fun _ => True) v' (bs'.map some)) (hn : bs'.Nodup) (hf : Zip (FrAt w' w.heap.size) bs' p'.frames) (hS : p'.S = p.S)
    (hv : ∀ g, v'.ownBlock = some g → v.ownBlock = some g ∨ wr.heap.size ≤ g) (hb : ∀ x ∈ bs', x ∈ bs ∨ wr.heap.size ≤ x ∨ ∀ A ∈ F.slices, ∀ a, A = some a → a.block ≠ x) : PIn w w' b ps pd F v' bs' p' := by
  refine ⟨?_, h.ep, h.epd, hr, ha, hn, hf, h.own, h.bge, fun A hA a hAa => ⟨(h.off A hA a hAa).1, fun e => ?_, fun e => ?_⟩, h.below.moves_low hm (fun x hx => h.ours_ge (hs x hx)) (Nat.le_refl _)⟩
  · rw [hS]
    exact h.sh.beside hm (fun x hx hxs => h.ours_off (hs x hxs) hx) (fun A hA a ha hxs => h.ours_slice (hs _ hxs) hA ha rfl)
  · rcases hb _ e with q | q | q
    · exact (h.off A hA a hAa).2.1 q
    · have := h.sh.slice_lt A hA a hAa
      omega
    · exact q A hA a hAa rfl
  · rcases hv _ e with q | q
    · exact (h.off A hA a hAa).2.2 q
    · have := h.sh.slice_lt A hA a hAa
      omega
theorem PIn.fr_keep (h : PIn w wr b ps pd F v bs p) {s : List Nat} (hm : Moves s wr w') (hs : ∀ x ∈ s, Ours b v bs wr.heap.size x) {base x : Nat} {f : Fr} (hf : FrAt wr base x f) (hx : ¬ x ∈ s) : FrAt w' base x f := hf.moves hm hx (fun y hy => h.ours_no8 (hs y hy))
structure K8 (w wr w' : World) : Prop where
  size : wr.heap.size ≤ w'.heap.size
  block : ∀ x, x < wr.heap.size → (x < w.heap.size ∨ ∃ cs t fr, Quiet t ∧ wr.heap[x]? = some (.cells cs t fr)) → w'.heap[x]? = wr.heap[x]?
theorem K8.refl (w wr : World) : K8 w wr wr := ⟨Nat.le_refl _, fun _ _ _ => rfl⟩
theorem K8.trans {w'' : World} (h : K8 w wr w') (k : K8 w w' w'') : K8 w wr w'' := ⟨Nat.le_trans h.size k.size, fun x hx ht => by
  rw [← h.block x hx ht]
  refine k.block x (Nat.lt_of_lt_of_le hx h.size) ?_
  rcases ht with q | ⟨cs, t, fr, hq, q⟩
  · exact .inl q
  · exact .inr ⟨cs, t, fr, hq, (h.block x hx (.inr ⟨cs, t, fr, hq, q⟩)).trans q⟩⟩
theorem K8.of_below (hb : Below wr.heap.size wr w') : K8 w wr w' := ⟨hb.size, fun x hx _ => hb.block x hx⟩
theorem K8.of_moves {s : List Nat} (hm : Moves s wr w') (hs : ∀ x ∈ s, w.heap.size ≤ x ∧ ∀ c t f, Quiet t → wr.heap[x]? ≠ some (.cells c t f)) : K8 w wr w' := ⟨hm.size, fun x hx ht => hm.block x hx fun hm => by
  obtain ⟨h1, h2⟩ := hs x hm
  rcases ht with q | ⟨cs, t, fr, hq, q⟩
  · omega
  · exact h2 _ _ _ hq q⟩
theorem PIn.k8_goes {F' : Foot} (h : PIn w wr b ps pd F v bs p) (hg : Goes F F' wr w') : K8 w wr w' := K8.of_moves hg.moves fun x hx => ⟨h.own x hx, own_quiet h.sh x hx⟩
theorem PIn.k8_ours {s : List Nat} (h : PIn w wr b ps pd F v bs p) (hm : Moves s wr w') (hs : ∀ x ∈ s, Ours b v bs wr.heap.size x) : K8 w wr w' := K8.of_moves hm fun x hx => ⟨h.ours_ge (hs x hx), h.ours_quiet (hs x hx)⟩
theorem K8.row (k : K8 w wr w') {x : Nat} {cs : Array Value} {t : TypeId} {fr : Nat × Nat} (hq : Quiet t) (h : wr.heap[x]? = some (.cells cs t fr)) : w'.heap[x]? = some (.cells cs t fr) := (k.block x (lt_of_row h) (.inr ⟨cs, t, fr, hq, h⟩)).trans h
structure In8 (w wr : World) (A : Option Addr) (l : List Int) (c : Nat) : Prop where
  in_ : InW .u8 wr A l c
  at_ : ∀ a, A = some a → l ≠ [] → a.block < w.heap.size ∨ ∃ cs fr, wr.heap[a.block]? = some (.cells cs 5 fr)
theorem In8.keep {A : Option Addr} {l : List Int} {c : Nat} (h : In8 w wr A l c) (k : K8 w wr w') : In8 w w' A l c := by
  refine ⟨⟨?_, h.in_.room, fun a ha hne => Nat.lt_of_lt_of_le (h.in_.lt a ha hne) k.size⟩, fun a ha hne => ?_⟩
  · cases A with
    | none =>
      cases l with
      | nil => exact Kd.C_nil _ _
      | cons x r =>
        obtain ⟨ad, e, _⟩ := Kd.at_int h.in_.reads 0 (by omega) (by simp only [List.length_cons]; omega)
        cases e
    | some ad =>
      refine Kd.C_of_reads (enc := Value.int .u8) (d := (0 : Int)) (h1 := fun _ => rfl) ⟨rfl, h.in_.reads.2.1, fun _ => ⟨_, rfl, fun j hj => ?_⟩⟩
      obtain ⟨ad', e, hc⟩ := Kd.at_int h.in_.reads (j : Int) (by omega) (by omega)
      cases e
      have hne : l ≠ [] := fun e => by rw [e] at hj; exact absurd hj (by simp)
      rw [Int.toNat_natCast] at hc
      rw [World.cell?_of_block (k.block _ (by rw [Sh.add_block]; exact h.in_.lt ad rfl hne) (by rw [Sh.add_block]; exact (h.at_ ad rfl hne).imp id fun ⟨cs, fr, q⟩ => ⟨cs, _, fr, quiet8, q⟩)), hc]
      simp [rd, List.getD_eq_getElem?_getD]
  · rcases h.at_ a ha hne with q | ⟨cs, fr, q⟩
    · exact .inl q
    · exact .inr ⟨cs, fr, (k.block _ (h.in_.lt a ha hne) (.inr ⟨cs, _, fr, quiet8, q⟩)).trans q⟩
end
end Go.Proofs.YtplkndmkchpcdaaGreat.Pool
end
section
namespace Go.Proofs
open Go.Shelf
def Tryz.deleteF_ren : Go.Shelf.Ren := ⟨fun | 45 => 58 | n => n, fun | 22 => 81 | 23 => 84 | 3 => 3 | 4 => 4 | 0 => 0 | n => n, fun | n => n⟩
theorem Tryz.deleteF : Go.Proofs.SlLaysE.n45 Tryz.prog Tryz.deleteF_ren := {
  mixed := by kernel_rfl
  f45 := ⟨Tryz.f58.name, by decide, Tryz.func58.trans (congrArg some (by kernel_rfl))⟩
  t0 := Tryz.underlying0
  a0 := Tryz.isAgg0
  z0 := Tryz.sizeOf0
  v0 := Tryz.zeroValue0
  t3 := Tryz.underlying3
  a3 := Tryz.isAgg3
  z3 := Tryz.sizeOf3
  v3 := Tryz.zeroValue3
  t4 := Tryz.underlying4
  a4 := Tryz.isAgg4
  z4 := Tryz.sizeOf4
  v4 := Tryz.zeroValue4
  t22 := Tryz.underlying81
  a22 := Tryz.isAgg81
  z22 := Tryz.sizeOf81
  v22 := Tryz.zeroValue81
  a23 := Tryz.isAgg84
  z23 := Tryz.sizeOf84 }
end Go.Proofs
end
section
namespace Go.Proofs.YtplkndmkchpcdaaGreat.Pool
open Go.RowKit Go.Sort Go.Shelf Go.Lib YtplkndmkchpcdaaGreatW.PrintWords YtplkndmkchpcdaaGreatW.PrintLast YtplkndmkchpcdaaGreatW.PrintMore MapFn Disk Page Num Bitset Sh
set_option maxHeartbeats 8000000
set_option maxRecDepth 100000
def T97_1 : Bool × List (List Nat × List Nat) := (true, [([], []), ([0], [0]), ([1], [1]), ([2], [2]), ([], []), ([3, 4], [3, 4]), ([5, 0, 1, 2, 3, 4, 5], [5])])
def B97_1 : List Nat := [0, 1, 3, 7, 0, 31, 63]
theorem tab97_1 : rtab .any (opsOf Tryz.f97 1) = T97_1 := by kernel_rfl
theorem bits97_1 : waitsOk T97_1.2 B97_1 = true := by kernel_rfl
theorem at_ptr {w : World} {A : Option Addr} {n : Nat} {xs : List (Option Nat)} (h : kdP.C w A n xs) (i : Int) (h0 : 0 ≤ i) (h1 : i < n) : ∃ ad, A = some ad ∧ w.cell? (ad.add i.toNat) = some (encP (rdOf none xs i)) :=
  ReadsOf.at_ (Kd.reads_of_C (enc := encP) (d := (none : Option Nat)) (h1 := encP_one) h) i h0 h1
theorem place1_any {w : World} {base x bid : Nat} {f : Fr} {id : Int} (hf : FrAt w base x f) (hid : w.cell? ⟨bid, 0, none⟩ = some (.int .i64 id)) :
    Calls Tryz.prog 97 #[.pointer (some ⟨x, 0, none⟩), .pointer (some ⟨bid, 0, none⟩)] w fun e w' => e = .returned (.bool (decide (f.id = id))) ∧ Below w.heap.size w w' := by
  obtain ⟨v, hr, _⟩ := hf.ex
  have KC : w.drew.cell? ⟨x, 0, none⟩ = some (.int .i64 f.id) ∧ w.drew.cell? ⟨bid, 0, none⟩ = some (.int .i64 id) := ⟨cell_of hr, hid⟩
  clear hf hid hr
  go_enter Tryz.func97, Tryz.ntmps97
  go_wp2
  refine s_ 7 (fun w' => w'.cell? ⟨x, 0, none⟩ = some (.int .i64 f.id) ∧ w'.cell? ⟨bid, 0, none⟩ = some (.int .i64 id)) tab97_1 bits97_1 KC (fun hHeld HT_ HW_ => ?_)
  refine p_ 0 4 ?_
  refine p_ 1 5 ?_
  refine p_ 2 6 ?_
  refine t_ 3 7 hHeld ?_ (hy := by
      intro w' hS'
      have s1 := hS'.1
      go_simp
      rfl)
  refine t_ 4 8 hHeld ?_ (hy := by
      intro w' hS'
      have s1 := hS'.2
      go_simp
      rfl)
  refine p_ 5 9 ?_
  refine p_ 6 3 ?_
  refine d_ ?_
  clear KC hHeld
  go_wp2
  go_ret
  exact ⟨by congr 2, below_drew (Below.refl _ _)⟩
theorem room1_any {w : World} {base x : Nat} {f : Fr} (hf : FrAt w base x f) :
    Calls Tryz.prog 94 #[.pointer (some ⟨x, 0, none⟩)] w fun e w' => e = .returned (.bool (decide (f.pins = 0))) ∧ Below w.heap.size w w' := by
  obtain ⟨v, hr, _⟩ := hf.ex
  have c3 : w.cell? ⟨x, 3, none⟩ = some (.int .i64 f.pins) := cell_of hr
  clear hf hr
  go_enter Tryz.func94, Tryz.ntmps94
  go_wp2
  go_ret
  exact ⟨by congr 2, Below.refl _ _⟩
theorem index_place {base : Nat} (bs : List Nat) (fs : List Fr) (A : Option Addr) (c : Nat) (w : World) (hC : kdP.C w A bs.length (bs.map some)) (hz : Zip (FrAt w base) bs fs) (hn : bs.length ≤ 100000) (bid : Nat) (id : Int) (hid : w.cell? ⟨bid, 0, none⟩ = some (.int .i64 id)) :
    Calls Tryz.prog 93 #[.slice A bs.length c, .func (.func 97) #[] #[.pointer (some ⟨bid, 0, none⟩)]] w fun e w' => e = .returned (.int .i64 (idxF (fun f => decide (f.id = id)) fs 0)) ∧ Below w.heap.size w w' := by
  obtain ⟨R, hR⟩ : ∃ R, idxF (fun f => decide (f.id = id)) fs 0 = R := ⟨_, rfl⟩
  rw [hR]
  have HR := Hide.mk hR
  have HC := Hide.mk hC
  have HZ := Hide.mk hz
  clear hR hC hz
  go_enter Tryz.func93, Tryz.ntmps93
  go_wp2
  go_loopw [8] (fun v8 wr => ∃ i : Nat, v8 = .int .i64 (i : Int) ∧ Hide (i ≤ bs.length) ∧ Hide (R = idxF (fun f => decide (f.id = id)) (fs.drop i) i) ∧ Hide (Below w.heap.size w wr)) (fun v8 _ => bs.length - (intOf v8).toNat)
  case atStart => exact ⟨0, by first | rfl | simp, ⟨Nat.zero_le _⟩, ⟨by rw [List.drop_zero]; exact HR.out.symm⟩, ⟨Below.refl _ _⟩⟩
  case round =>
    obtain ⟨i, rfl, hi, hRR, hB⟩ := hrel
    have hn0 := hn
    by_cases hlt0 : i < bs.length
    · have hlt : (i : Int) < (bs.length : Int) := by omega
      obtain ⟨ad, rfl, hcell⟩ := at_ptr (Kd.C_below HC.out hB.out) (i : Int) (by omega) hlt
      rw [Int.toNat_natCast] at hcell
      have hfl : i < fs.length := by have := HZ.out.len; omega
      have hfr := (HZ.out.at_ i _ _ (List.getElem?_eq_getElem hlt0) (List.getElem?_eq_getElem hfl))
      have HF := Hide.mk (fun (W : World) (h : Below w.heap.size w W) => hfr.below h)
      have E1 : Hide (fs.drop i = fs[i] :: fs.drop (i + 1)) := ⟨List.drop_eq_getElem_cons hfl⟩
      have hrd : rdOf none (bs.map some) (i : Int) = some bs[i] := by simp [rdOf, List.getD_eq_getElem?_getD, hlt0]
      rw [hrd] at hcell
      generalize bs[i] = x at *
      generalize fs[i] = f at *
      have hcell2 : wr.cell? (ad.add i) = some (.pointer (some ⟨x, 0, none⟩)) := hcell
      have LT := Hide.mk hlt0
      have hR1 := hRR.out
      rw [E1.out, idxF] at hR1
      have HP := Hide.mk (place1_any (HF.out wr hB.out) (pw_cell_below hB.out (show w.cell? ⟨bid, 0, none⟩ = some (.int .i64 id) from hid)))
      clear hcell hfr hrd hlt0 hfl
      by_cases hq : (fun f => decide (f.id = id)) f = true
      · rw [if_pos hq] at hR1
        have hq2 : decide (f.id = id) = true := by simpa using hq
        have HR1 := Hide.mk hR1
        clear hR1 hRR hq
        go_wp2_with (go_at_call 97; refine HP.out.mono ?_; rintro e w3 ⟨rfl, hb3⟩; have B3 := Hide.mk hb3; clear hb3; rw [hq2])
        go_ret
        exact ⟨by rw [HR1.out]; rfl, hB.out.trans (B3.out.mono hB.out.size)⟩
      · rw [if_neg hq] at hR1
        have hq2 : decide (f.id = id) = false := by simpa using hq
        have HR1 := Hide.mk hR1
        clear hR1 hRR hq
        go_wp2_with (go_at_call 97; refine HP.out.mono ?_; rintro e w3 ⟨rfl, hb3⟩; have B3 := Hide.mk hb3; clear hb3; rw [hq2])
        go_roundw
        case rel => exact ⟨i + 1, by go_num, ⟨by have := LT.out; omega⟩, HR1, ⟨hB.out.trans (B3.out.mono hB.out.size)⟩⟩
        case measure => have := LT.out; simp [intOf]; omega
    · have hlt : ¬ (i : Int) < (bs.length : Int) := by omega
      have E := Hide.mk (show i = bs.length by have := hi.out; omega)
      clear hlt0
      go_wp2
      go_ret
      exact ⟨by rw [hRR.out, E.out, HZ.out.len, List.drop_length]; rfl, hB.out⟩
theorem index_room {base : Nat} (bs : List Nat) (fs : List Fr) (A : Option Addr) (c : Nat) (w : World) (hC : kdP.C w A bs.length (bs.map some)) (hz : Zip (FrAt w base) bs fs) (hn : bs.length ≤ 100000) :
    Calls Tryz.prog 93 #[.slice A bs.length c, .func (.func 94) #[] #[]] w fun e w' => e = .returned (.int .i64 (idxF (fun f => decide (f.pins = 0)) fs 0)) ∧ Below w.heap.size w w' := by
  obtain ⟨R, hR⟩ : ∃ R, idxF (fun f => decide (f.pins = 0)) fs 0 = R := ⟨_, rfl⟩
  rw [hR]
  have HR := Hide.mk hR
  have HC := Hide.mk hC
  have HZ := Hide.mk hz
  clear hR hC hz
  go_enter Tryz.func93, Tryz.ntmps93
  go_wp2
  go_loopw [8] (fun v8 wr => ∃ i : Nat, v8 = .int .i64 (i : Int) ∧ Hide (i ≤ bs.length) ∧ Hide (R = idxF (fun f => decide (f.pins = 0)) (fs.drop i) i) ∧ Hide (Below w.heap.size w wr)) (fun v8 _ => bs.length - (intOf v8).toNat)
  case atStart => exact ⟨0, by first | rfl | simp, ⟨Nat.zero_le _⟩, ⟨by rw [List.drop_zero]; exact HR.out.symm⟩, ⟨Below.refl _ _⟩⟩
  case round =>
    obtain ⟨i, rfl, hi, hRR, hB⟩ := hrel
    have hn0 := hn
    by_cases hlt0 : i < bs.length
    · have hlt : (i : Int) < (bs.length : Int) := by omega
      obtain ⟨ad, rfl, hcell⟩ := at_ptr (Kd.C_below HC.out hB.out) (i : Int) (by omega) hlt
      rw [Int.toNat_natCast] at hcell
      have hfl : i < fs.length := by have := HZ.out.len; omega
      have hfr := (HZ.out.at_ i _ _ (List.getElem?_eq_getElem hlt0) (List.getElem?_eq_getElem hfl))
      have HF := Hide.mk (fun (W : World) (h : Below w.heap.size w W) => hfr.below h)
      have E1 : Hide (fs.drop i = fs[i] :: fs.drop (i + 1)) := ⟨List.drop_eq_getElem_cons hfl⟩
      have hrd : rdOf none (bs.map some) (i : Int) = some bs[i] := by simp [rdOf, List.getD_eq_getElem?_getD, hlt0]
      rw [hrd] at hcell
      generalize bs[i] = x at *
      generalize fs[i] = f at *
      have hcell2 : wr.cell? (ad.add i) = some (.pointer (some ⟨x, 0, none⟩)) := hcell
      have LT := Hide.mk hlt0
      have hR1 := hRR.out
      rw [E1.out, idxF] at hR1
      have HP := Hide.mk (room1_any (HF.out wr hB.out))
      clear hcell hfr hrd hlt0 hfl
      by_cases hq : (fun f => decide (f.pins = 0)) f = true
      · rw [if_pos hq] at hR1
        have hq2 : decide (f.pins = 0) = true := by simpa using hq
        have HR1 := Hide.mk hR1
        clear hR1 hRR hq
        go_wp2_with (go_at_call 94; refine HP.out.mono ?_; rintro e w3 ⟨rfl, hb3⟩; have B3 := Hide.mk hb3; clear hb3; rw [hq2])
        go_ret
        exact ⟨by rw [HR1.out]; rfl, hB.out.trans (B3.out.mono hB.out.size)⟩
      · rw [if_neg hq] at hR1
        have hq2 : decide (f.pins = 0) = false := by simpa using hq
        have HR1 := Hide.mk hR1
        clear hR1 hRR hq
        go_wp2_with (go_at_call 94; refine HP.out.mono ?_; rintro e w3 ⟨rfl, hb3⟩; have B3 := Hide.mk hb3; clear hb3; rw [hq2])
        go_roundw
        case rel => exact ⟨i + 1, by go_num, ⟨by have := LT.out; omega⟩, HR1, ⟨hB.out.trans (B3.out.mono hB.out.size)⟩⟩
        case measure => have := LT.out; simp [intOf]; omega
    · have hlt : ¬ (i : Int) < (bs.length : Int) := by omega
      have E := Hide.mk (show i = bs.length by have := hi.out; omega)
      clear hlt0
      go_wp2
      go_ret
      exact ⟨by rw [hRR.out, E.out, HZ.out.len, List.drop_length]; rfl, hB.out⟩
theorem info81 : (Tryz.prog.info? 84).map (·.size) = some 1 := by kernel_rfl
theorem delete_any {w : World} {base g cap : Nat} {ok : Nat → Prop} {bs : List Nat} (i : Nat) (h : Kd.R kdP 84 w base ok (.slice (some ⟨g, 0, none⟩) bs.length cap) (bs.map some)) (hi : i < bs.length) :
    Calls Tryz.prog 58 #[.slice (some ⟨g, 0, none⟩) bs.length cap, .int .i64 (i : Int), .int .i64 ((i + 1 : Nat) : Int)] w fun e w' => e = .returned (.slice (some ⟨g, 0, none⟩) (bs.length - 1) cap) ∧ Kd.R kdP 84 w' base ok (.slice (some ⟨g, 0, none⟩) (bs.length - 1) cap) ((bs.eraseIdx i).map some) ∧ w.grownBy w' (some g) := by
  have ho0 := Kd.own_of_R (enc := encP) (h1 := encP_one) h
  have ho : w.ownsRow base 84 1 (.slice (some ⟨g, 0, none⟩) bs.length cap) bs.length ((bs.map some).map encP) := by have := ho0; rw [List.length_map] at this; exact this
  obtain ⟨g', cap', e, hb, hlt, hn, hm, hl, hH⟩ := holds_of_ownsRow ho (by simp)
  cases e
  obtain ⟨i0, hi0, hz⟩ := Option.map_eq_some_iff.1 info81
  have hsz : (bs.map some).toArray.size = bs.length := by simp
  have hD := AnyE.slices_Delete Tryz.deleteF encP encP_one (none : Option Nat) (fun w => Tryz.zeroValue84 w) i0 hi0 hz g 0 cap i (i + 1) (bs.map some).toArray w hH (by rw [hsz]; exact hn) (by unfold maxLen at hm; omega) (by omega) (by rw [hsz]; omega)
  rw [hsz] at hD
  refine hD.mono ?_
  rintro e w' ⟨rfl, q, rfl⟩
  have hy : ((bs.map some).take i ++ (bs.map some).drop (i + 1) ++ List.replicate (i + 1 - i) none).length = bs.length := by simp; omega
  have hr := ownsRow_putRow (q := q) (ys := (bs.map some).take i ++ (bs.map some).drop (i + 1) ++ List.replicate (i + 1 - i) none) (k := bs.length - 1) ho hy (by omega)
  have ht : ((bs.map some).take i ++ (bs.map some).drop (i + 1) ++ List.replicate (i + 1 - i) none).take (bs.length - 1) = (bs.eraseIdx i).map some := by
    rw [List.take_left' (by simp; omega), List.eraseIdx_eq_take_drop_succ, List.map_append, List.map_take, List.map_drop]
  rw [ht] at hr
  have hl2 : (bs.eraseIdx i).length = bs.length - 1 := by rw [List.length_eraseIdx, if_pos hi]
  refine ⟨by rw [show i + 1 - i = 1 by omega], ?_, ?_⟩
  · refine Kd.R_of_own (enc := encP) (h1 := encP_one) ?_ (fun k hk => h.1 k (by simpa [Value.ownBlock] using hk))
    rw [List.length_map, hl2]
    exact hr
  · exact ⟨rfl, rfl, rfl, by simp [putRow, mapBlock, Sort.ahead], fun k hk hne => by
      have hgk : g ≠ k := fun e => hne (by rw [e])
      simp [putRow, mapBlock, Sort.ahead, Array.getElem?_modify, hgk]⟩
end Go.Proofs.YtplkndmkchpcdaaGreat.Pool
end
section
namespace Go.Proofs.YtplkndmkchpcdaaGreat.Pool
open Go.RowKit YtplkndmkchpcdaaGreatW.PrintWords YtplkndmkchpcdaaGreatW.PrintLast YtplkndmkchpcdaaGreatW.PrintMore MapFn Disk Page Num Bitset Sh
set_option maxHeartbeats 8000000
set_option maxRecDepth 100000
theorem infoP : (Tryz.prog.info? 84).map (fun i => (i.zero, i.size, i.bytes)) = some (some (.pointer none), 1, 8) := by kernel_rfl
theorem poolnew_any {w wr : World} {ps pd : Nat} {S : Sh} {F : Foot} (n : Int) (hs : ShAt wr F S) (ep : F.p = ps) (epd : F.pd = pd) (ho : ∀ x ∈ F.own, w.heap.size ≤ x) (hb : Below w.heap.size w wr) (h1 : 1 ≤ n) (h2 : n ≤ 64) :
    Calls Tryz.prog 12 #[.pointer (some ⟨ps, 0, none⟩), .int .i64 n] wr fun e w' => ∃ b, e = .returned (.tuple #[.pointer (some ⟨b, 0, none⟩), .int .i64 0]) ∧ PIn w w' b ps pd F (.slice none 0 0) [] (Pl.new S n) := by
  have q1 : ¬ n < 1 := by omega
  have q2 : ¬ n > 64 := by omega
  have q3 : ¬ (64 : Int) < n := by omega
  have hal := (Below.refl wr.heap.size wr).alloc (Nat.le_refl _) (.cells #[.pointer (some ⟨ps, 0, none⟩), .int .i64 n, .slice none 0 0, .int .i64 0, .int .i64 0] 83)
  have row := heap_last wr (.cells #[.pointer (some ⟨ps, 0, none⟩), .int .i64 n, .slice none 0 0, .int .i64 0, .int .i64 0] 83)
  have FIN := Hide.mk (show PIn w (wr.alloc (.cells #[.pointer (some ⟨ps, 0, none⟩), .int .i64 n, .slice none 0 0, .int .i64 0, .int .i64 0] 83)) wr.heap.size ps pd F (.slice none 0 0) [] (Pl.new S n) from
    ⟨hs.below hal, ep, epd, row, Kd.R_nil _ _ _ _ _, List.nodup_nil, Zip.nil _, ho, hb.size, (fun A hA a ha => ⟨(by have := hs.slice_lt A hA a ha; omega), by simp, by simp [Value.ownBlock]⟩), hb.trans (hal.mono hb.size)⟩)
  clear hs hal row
  go_enter Tryz.func12, Tryz.ntmps12
  go_wp2
  go_ret2
  exact ⟨_, rfl, FIN.out⟩
section
variable {w wr : World} {b ps pd : Nat} {F : Foot} {v : Value} {bs : List Nat} {p : Pl}
theorem PIn.slice (h : PIn w wr b ps pd F v bs p) : ∃ A c, v = .slice A bs.length c ∧ kdP.C wr A bs.length (bs.map some) := by
  obtain ⟨A, c, hv, _, hc⟩ := Kd.R_reads h.arr
  rw [List.length_map] at hv hc
  exact ⟨A, c, hv, hc⟩
theorem place_any (h : PIn w wr b ps pd F v bs p) (id : Int) (hn : bs.length ≤ 100000) :
    Calls Tryz.prog 57 #[.pointer (some ⟨b, 0, none⟩), .int .i64 id] wr fun e w' => e = .returned (.int .i64 (p.place id)) ∧ Below wr.heap.size wr w' := by
  obtain ⟨A, c, rfl, hC⟩ := h.slice
  have hal := (Below.refl wr.heap.size wr).alloc (Nat.le_refl _) (.cells #[.int .i64 id] 3)
  have h2 := h.later hal
  have c2 : (wr.alloc (.cells #[.int .i64 id] 3)).cell? ⟨b, 2, none⟩ = some (.slice A bs.length c) := cell_of h2.row
  have hid : (wr.alloc (.cells #[.int .i64 id] 3)).cell? ⟨wr.heap.size, 0, none⟩ = some (.int .i64 id) := cell_of (heap_last _ _)
  have HI := Hide.mk (index_place bs p.frames A c (wr.alloc (.cells #[.int .i64 id] 3)) (Kd.C_below hC hal) h2.frs hn wr.heap.size id hid)
  have HB := Hide.mk hal
  clear h h2 hC hal hid
  go_enter Tryz.func57, Tryz.ntmps57
  go_wp2_with (go_at_call 93; refine HI.out.mono ?_; rintro e w2 ⟨rfl, hb⟩; have B2 := Hide.mk hb; clear hb)
  go_ret
  exact ⟨rfl, HB.out.trans (B2.out.mono HB.out.size)⟩
theorem hold_any (h : PIn w wr b ps pd F v bs p) {x : Nat} {f : Fr} (hx : FrAt wr w.heap.size x f) (hn : ¬ x ∈ bs) (hxo : ∀ A ∈ F.slices, ∀ a, A = some a → a.block ≠ x) (hl : bs.length ≤ 1000) :
    Calls Tryz.prog 53 #[.pointer (some ⟨b, 0, none⟩), .pointer (some ⟨x, 0, none⟩)] wr fun e w' => e = .returned (.pointer (some ⟨x, 0, none⟩)) ∧ K8 w wr w' ∧ ∃ v', PIn w w' b ps pd F v' (bs ++ [x]) (p.hold f) := by
  obtain ⟨A, c, hv, hC⟩ := h.slice
  have H := Hide.mk h
  have HX := Hide.mk hx
  have HN := Hide.mk hn
  have HXO := Hide.mk hxo
  have HV := Hide.mk hv
  subst hv
  have c2 : wr.cell? ⟨b, 2, none⟩ = some (.slice A bs.length c) := cell_of h.row
  have ARR := Hide.mk h.arr
  have HGE := Hide.mk h.below.size
  clear h hx hn hxo hC
  go_enter Tryz.func53, Tryz.ntmps53
  go_wp2_with ((with_reducible refine gate_builtin (b := .append) (xs := #[.tmp 9, .tmp 11]) rfl ?_); at_builtin
               refine Kd.R_append kdP (w0 := wr) w.heap.size rfl (.tmp 9) (.tmp 11) 81 84 (.pointer none) 8 rfl Tryz.underlying81 infoP rfl (by decide) (by omega) (.slice A bs.length c) (bs.map some) (some x) [.pointer (some ⟨x, 0, none⟩)] (fun _ => True) (fun _ => False) rfl rfl rfl (fun _ h => h.elim) (fun _ _ => trivial) ARR.out (Below.refl _ _) HGE.out (by rw [List.length_map]; omega) ?_
               intro v1 w1 ho hb hg hat
               obtain ⟨A1, c1, hv1⟩ := Kd.R_slice ho
               obtain ⟨n1, hn1⟩ : ∃ n, (bs.map some ++ [some x]).length = n := ⟨_, rfl⟩
               rw [hn1] at hv1
               subst hv1
               have hne : some b ≠ (Value.slice A bs.length c).ownBlock := fun e => H.out.b_off.2 e.symm
               have row1 := (hg.block b (lt_of_row H.out.row) hne).trans H.out.row
               have d2 : w1.cell? ⟨b, 2, none⟩ = some (.slice A bs.length c) := cell_of row1
               have f2 := free_of (i := 2) row1
               have HO := Hide.mk ho
               have HG := Hide.mk hg
               have HAT := Hide.mk hat
               have ROW1 := Hide.mk row1
               clear ho hb hg hat hn1 hne row1)
  go_ret
  have hs2 := set_row (i := 2) ROW1.out (.slice A1 n1 c1)
  have hg2 : w1.grownBy (w1.setCell ⟨b, 2, none⟩ (.slice A1 n1 c1)) (some b) := ⟨rfl, rfl, rfl, by simp, fun q _ hq => heap_setCell_other _ _ _ _ (fun e => hq (by rw [e]))⟩
  have hm : Moves (b :: (Value.slice A bs.length c).ownBlock.toList) wr (w1.setCell ⟨b, 2, none⟩ (.slice A1 n1 c1)) := by
    refine ⟨HG.out.os, HG.out.tape, HG.out.output, Nat.le_trans HG.out.size hg2.size, fun k hk hkn => ?_⟩
    simp only [List.mem_cons, not_or] at hkn
    rw [hg2.block k (Nat.lt_of_lt_of_le hk HG.out.size) (fun e => hkn.1 (Option.some.inj e)), HG.out.block k hk (fun e => hkn.2 (by rw [← e]; simp))]
  have hours : ∀ y ∈ b :: (Value.slice A bs.length c).ownBlock.toList, Ours b (.slice A bs.length c) bs wr.heap.size y := by
    intro y hy
    rcases List.mem_cons.1 hy with e | hy
    · exact .inl e
    · exact .inr (.inl (by simpa using hy))
  have hfar : ∀ y f, FrAt wr w.heap.size y f → ¬ y ∈ b :: (Value.slice A bs.length c).ownBlock.toList := by
    intro y f hf hy
    obtain ⟨n1, n2⟩ := H.out.fr_ne hf
    rcases List.mem_cons.1 hy with e | hy
    · exact n1 e
    · exact n2 (by simpa using hy)
  refine ⟨rfl, H.out.k8_ours hm hours, .slice A1 n1 c1, H.out.turn hm hours ?_ ?_ ?_ ?_ rfl ?_ ?_⟩
  · simpa [Pl.hold] using hs2
  · rw [List.map_append]
    refine RP_moves HO.out (Moves.of_grown hg2) fun g hgo hgs => ?_
    simp only [List.mem_singleton] at hgs
    subst hgs
    obtain ⟨cells, hc⟩ := typed HO.out g hgo
    exact ne_of_types hc ROW1.out (by decide) rfl
  · rw [List.nodup_append]
    refine ⟨H.out.nodup, by simp, fun y hy z hz => ?_⟩
    simp only [List.mem_singleton] at hz
    subst hz
    exact fun e => HN.out (e ▸ hy)
  · exact (H.out.frs.imp fun y _ f hf => H.out.fr_keep hm hours hf (hfar y f hf)).snoc (H.out.fr_keep hm hours HX.out (hfar x f HX.out))
  · intro g hgo
    rcases HAT.out with e | ⟨k, e, hk⟩
    · exact .inl (by rw [← e]; exact hgo)
    · rw [e] at hgo
      cases hgo
      exact .inr hk
  · intro y hy
    rcases List.mem_append.1 hy with q | q
    · exact .inl q
    · simp only [List.mem_singleton] at q
      subst q
      exact .inr (.inr HXO.out)
end
end Go.Proofs.YtplkndmkchpcdaaGreat.Pool
end
section
namespace Go.Proofs.YtplkndmkchpcdaaGreat.Pool
open Go.RowKit YtplkndmkchpcdaaGreatW.PrintWords YtplkndmkchpcdaaGreatW.PrintLast YtplkndmkchpcdaaGreatW.PrintMore MapFn Disk Page Num Bitset Sh
set_option maxHeartbeats 8000000
set_option maxRecDepth 100000
def T87_3 : Bool × List (List Nat × List Nat) := (true, [([], []), ([0], [0]), ([1], [1]), ([2], [2]), ([], []), ([4], [4]), ([5], [5]), ([6], [6]), ([], []), ([8], [8]), ([9], [9]), ([10], [10]), ([], []), ([12], [12]), ([13], [13]), ([14], [14]), ([3, 7, 11, 15], [3, 7, 11, 15]), ([16, 16, 0, 1, 2, 3, 4, 5, 6, 7, 8, 9, 10, 11, 12, 13, 14, 15, 16], [16])])
def B87_3 : List Nat := [0, 1, 3, 7, 0, 16, 48, 112, 0, 256, 768, 1792, 0, 4096, 12288, 28672, 65535, 131071]
theorem tab87_3 : rtab .any (opsOf Tryz.f87 3) = T87_3 := by kernel_rfl
theorem bits87_3 : waitsOk T87_3.2 B87_3 = true := by kernel_rfl
def T52_1 : Bool × List (List Nat × List Nat) := (true, [([], []), ([0], [0]), ([1], [1]), ([2], [2]), ([3], [3]), ([], []), ([5], [5]), ([6], [6]), ([7], [7]), ([4, 8], [4, 8])])
def B52_1 : List Nat := [0, 1, 3, 7, 15, 0, 32, 96, 224, 511]
theorem tab52_1 : rtab .any (opsOf Tryz.f52 1) = T52_1 := by kernel_rfl
theorem bits52_1 : waitsOk T52_1.2 B52_1 = true := by kernel_rfl
theorem idxF_at (q : Fr → Bool) : ∀ (l : List Fr) (i : Nat), idxF q l i = -1 ∨ ∃ k, k < l.length ∧ idxF q l i = ((i + k : Nat) : Int) ∧ q (l.getD k Fr.none) = true
  | [], i => .inl rfl
  | f :: r, i => by
    rw [idxF]
    by_cases h : q f = true
    · rw [if_pos h]
      exact .inr ⟨0, by simp, by simp, by simpa using h⟩
    · rw [if_neg h]
      rcases idxF_at q r (i + 1) with e | ⟨k, hk, e, hq⟩
      · exact .inl e
      · exact .inr ⟨k + 1, by simp; omega, by rw [e]; omega, by simpa using hq⟩
section
variable {w wr w1 w' : World} {b ps pd : Nat} {F : Foot} {v : Value} {bs : List Nat} {p : Pl}
theorem PIn.fr (h : PIn w wr b ps pd F v bs p) {k : Nat} (hk : k < bs.length) : FrAt wr w.heap.size bs[k] (p.frames.getD k Fr.none) := by
  have hf : k < p.frames.length := by have := h.frs.len; omega
  rw [List.getD_eq_getElem?_getD, List.getElem?_eq_getElem hf]
  exact h.frs.at_ k _ _ (List.getElem?_eq_getElem hk) (List.getElem?_eq_getElem hf)
theorem PIn.set_frame (h : PIn w wr b ps pd F v bs p) {k : Nat} (hkl : k < bs.length) {f' : Fr} (hm : Moves [bs[k]] wr w') (hf : FrAt w' w.heap.size bs[k] f') : PIn w w' b ps pd F v bs { p with frames := p.frames.set k f' } := by
  have hx := h.fr hkl
  obtain ⟨n1, n2⟩ := h.fr_ne hx
  have hours : ∀ y ∈ [bs[k]], Ours b v bs wr.heap.size y := fun y hy => by
    simp only [List.mem_singleton] at hy
    subst hy
    exact .inr (.inr (.inl (List.getElem_mem _)))
  refine h.turn hm hours ((hm.block b (lt_of_row h.row) (by simpa using Ne.symm n1)).trans h.row) (RP_moves h.arr hm fun g hg hgs => ?_) h.nodup ⟨by rw [List.length_set]; exact h.frs.len, fun i a c h1 h2 => ?_⟩ rfl (fun g hg => .inl hg) (fun x hx => .inl hx)
  · simp only [List.mem_singleton] at hgs
    subst hgs
    exact n2 hg
  · by_cases e : i = k
    · subst e
      rw [List.getElem?_set_self (by have := h.frs.len; omega)] at h2
      rw [List.getElem?_eq_getElem hkl] at h1
      cases h1
      cases h2
      exact hf
    · rw [List.getElem?_set_ne (Ne.symm e)] at h2
      refine h.fr_keep hm hours (h.frs.at_ i a c h1 h2) fun hy => ?_
      simp only [List.mem_singleton] at hy
      obtain ⟨hi, ha⟩ := List.getElem?_eq_some_iff.1 h1
      rcases Nat.lt_trichotomy i k with q | q | q
      · exact List.pairwise_iff_getElem.1 h.nodup i k hi hkl q (by rw [ha, hy])
      · exact e q
      · exact List.pairwise_iff_getElem.1 h.nodup k i hkl hi q (by rw [ha, hy])
theorem set_cell_grown {p i : Nat} (x : Value) : wr.grownBy (wr.setCell ⟨p, i, none⟩ x) (some p) := ⟨rfl, rfl, rfl, by simp, fun q _ hq => heap_setCell_other _ _ _ _ (fun e => hq (by rw [e]))⟩
theorem PIn.restored (h : PIn w wr b ps pd F v bs p) {v1 : Value} {bs' : List Nat} {fs' : List Fr} (hg : wr.grownBy w1 v.ownBlock) (ho : Kd.R kdP 84 w1 w.heap.size (fun _ => True) v1 (bs'.map some)) (hv : v1.ownBlock = v.ownBlock ∨ ∃ k, v1.ownBlock = some k ∧ wr.heap.size ≤ k)
    (hn : bs'.Nodup) (hz : Zip (FrAt wr w.heap.size) bs' fs') (hb : ∀ x ∈ bs', x ∈ bs ∨ wr.heap.size ≤ x ∨ ∀ A ∈ F.slices, ∀ a, A = some a → a.block ≠ x) :
    w1.cell? ⟨b, 2, none⟩ = some v ∧ w1.frozen? ⟨b, 2, none⟩ = false ∧ PIn w (w1.setCell ⟨b, 2, none⟩ v1) b ps pd F v1 bs' { p with frames := fs' } ∧ K8 w wr (w1.setCell ⟨b, 2, none⟩ v1) := by
  have hne : some b ≠ v.ownBlock := fun e => h.b_off.2 e.symm
  have row1 := (hg.block b (lt_of_row h.row) hne).trans h.row
  have hs2 := set_row (i := 2) row1 v1
  have hg2 := set_cell_grown (wr := w1) (p := b) (i := 2) v1
  have hm : Moves (b :: v.ownBlock.toList) wr (w1.setCell ⟨b, 2, none⟩ v1) := by
    refine ⟨hg.os, hg.tape, hg.output, Nat.le_trans hg.size hg2.size, fun k hk hkn => ?_⟩
    simp only [List.mem_cons, not_or] at hkn
    rw [hg2.block k (Nat.lt_of_lt_of_le hk hg.size) (fun e => hkn.1 (Option.some.inj e)), hg.block k hk (fun e => hkn.2 (by rw [← e]; simp))]
  have hours : ∀ y ∈ b :: v.ownBlock.toList, Ours b v bs wr.heap.size y := by
    intro y hy
    rcases List.mem_cons.1 hy with e | hy
    · exact .inl e
    · exact .inr (.inl (by simpa using hy))
  have hfar : ∀ y f, FrAt wr w.heap.size y f → ¬ y ∈ b :: v.ownBlock.toList := by
    intro y f hf hy
    obtain ⟨n1, n2⟩ := h.fr_ne hf
    rcases List.mem_cons.1 hy with e | hy
    · exact n1 e
    · exact n2 (by simpa using hy)
  refine ⟨cell_of row1, free_of row1, h.turn hm hours (by simpa using hs2) (RP_moves ho (Moves.of_grown hg2) fun g hgo hgs => ?_) hn (hz.imp fun y _ f hf => h.fr_keep hm hours hf (hfar y f hf)) rfl ?_ hb, h.k8_ours hm hours⟩
  · simp only [List.mem_singleton] at hgs
    subst hgs
    obtain ⟨cells, hc⟩ := typed ho g hgo
    exact ne_of_types hc row1 (by decide) rfl
  · intro g hgo
    rcases hv with e | ⟨k, e, hk⟩
    · exact .inl (by rw [← e]; exact hgo)
    · rw [e] at hgo
      cases hgo
      exact .inr hk
def KP (wr w' : World) : Prop := ∀ (x : Nat) (cs : Array Value) (fr : Nat × Nat), wr.heap[x]? = some (.cells cs 84 fr) → w'.heap[x]? = some (.cells cs 84 fr)
theorem PIn.kp_goes {F' : Foot} (h : PIn w wr b ps pd F v bs p) (hg : Goes F F' wr w') : KP wr w' := fun x cs fr hx => (hg.moves.block x (lt_of_row hx) (own_types h.sh hx (by decide) (by decide) (by decide))).trans hx
theorem KP.set {x : Nat} {cs : Array Value} {fr : Nat × Nat} {i : Nat} (hx : wr.heap[x]? = some (.cells cs 88 fr)) (y : Value) : KP wr (wr.setCell ⟨x, i, none⟩ y) := fun z cz fz hz => ((set_cell_grown (wr := wr) (p := x) (i := i) y).block z (lt_of_row hz) fun e => ne_of_types hx hz (by decide) (Option.some.inj e).symm).trans hz
theorem KP.trans {w2 : World} (h : KP wr w1) (k : KP w1 w2) : KP wr w2 := fun x cs fr hx => k x cs fr (h x cs fr hx)
theorem KP.of_below (hb : Below wr.heap.size wr w') : KP wr w' := fun x cs fr hx => (hb.block x (lt_of_row hx)).trans hx
theorem flush_more (h : PIn w wr b ps pd F v bs p) (hk : Ok p.S) {k : Nat} (hkl : k < bs.length) :
    Calls Tryz.prog 87 #[.pointer (some ⟨b, 0, none⟩), .pointer (some ⟨bs[k], 0, none⟩)] wr fun e w' => e = .returned (.int .i64 (p.flush k).2) ∧ K8 w wr w' ∧ KP wr w' ∧ ∃ F', PIn w w' b ps pd F' v bs (p.flush k).1 := by
  have hfx := h.fr hkl
  have H := Hide.mk h
  obtain ⟨R, hR⟩ : ∃ R, p.flush k = R := ⟨_, rfl⟩
  rw [hR]
  unfold Pl.flush at hR
  have HSET := Hide.mk (fun (W W' : World) (F' : Foot) (S' : Sh) (f' : Fr) (h : PIn w W b ps pd F' v bs { p with S := S' }) (hm : Moves [bs[k]] W W') (hf : FrAt W' w.heap.size bs[k] f') => h.set_frame hkl hm hf)
  obtain ⟨f, hf⟩ : ∃ f, p.frames.getD k Fr.none = f := ⟨_, rfl⟩
  rw [hf] at hfx hR
  obtain ⟨vb, hrow, hbody⟩ := hfx.ex
  obtain ⟨Ab, cb, hvb, hib, _⟩ := In.of_own hbody
  obtain ⟨nb, hnb⟩ : ∃ n, f.body.length = n := ⟨_, rfl⟩
  rw [hnb] at hvb
  subst hvb
  generalize bs[k] = x at *
  have c4 : wr.cell? ⟨x, 4, none⟩ = some (.bool f.dirty) := cell_of hrow
  have HFX0 := Hide.mk hfx
  simp only at hR
  by_cases hd : f.dirty = false
  · rw [if_pos hd] at hR
    rw [hd] at c4
    have HRR := Hide.mk hR.symm
    clear h hfx hR hrow hbody hib
    go_enter Tryz.func87, Tryz.ntmps87
    go_wp2
    go_ret
    rw [HRR.out]
    exact ⟨rfl, K8.refl _ _, fun x cs fr h => h, F, H.out⟩
  · rw [if_neg hd] at hR
    have hd2 : f.dirty = true := by simpa using hd
    rw [hd2] at c4
    obtain ⟨S', E, hW⟩ : ∃ S' E, p.S.write f.id f.kind f.body = (S', E) := ⟨_, _, rfl⟩
    rw [hW] at hR
    simp only at hR
    have hdr := below_drew (Below.refl wr.heap.size wr)
    have HKD := Hide.mk (K8.of_below (w := w) hdr)
    have HD := Hide.mk (h.later hdr)
    have HKPD := Hide.mk (KP.of_below hdr)
    have HFX := Hide.mk (hfx.below hdr)
    have HROWX := Hide.mk (show wr.drew.heap[x]? = _ from hrow)
    have HW0 := shwrite_any f.id f.kind Ab cb f.body wr.drew F p.S HD.out.sh hk (hib.below hdr).wide hfx.bytes
    rw [hW, hnb, h.ep] at HW0
    have HW := Hide.mk HW0
    have KC : wr.drew.cell? ⟨b, 0, none⟩ = some (.pointer (some ⟨ps, 0, none⟩)) ∧ wr.drew.cell? ⟨x, 0, none⟩ = some (.int .i64 f.id) ∧ wr.drew.cell? ⟨x, 1, none⟩ = some (.int .i64 f.kind) ∧ wr.drew.cell? ⟨x, 2, none⟩ = some (.slice Ab nb cb) := ⟨cell_of HD.out.row, cell_of HROWX.out, cell_of HROWX.out, cell_of HROWX.out⟩
    have HRR := Hide.mk hR.symm
    have HBODY := Hide.mk (show Bytes f.body ∧ w.heap.size ≤ x ∧ f.body.length ≤ 1000 from ⟨hfx.bytes, hfx.ge, hfx.short⟩)
    have HNB := Hide.mk hnb
    have HD2 := Hide.mk hd2
    clear h hfx hR hrow hbody hib HW0 hdr hk hW hf hnb hd hd2 HFX0 H
    go_enter Tryz.func87, Tryz.ntmps87
    go_wp2
    refine s_ 18 (fun w' => w'.cell? ⟨b, 0, none⟩ = some (.pointer (some ⟨ps, 0, none⟩)) ∧ w'.cell? ⟨x, 0, none⟩ = some (.int .i64 f.id) ∧ w'.cell? ⟨x, 1, none⟩ = some (.int .i64 f.kind) ∧ w'.cell? ⟨x, 2, none⟩ = some (.slice Ab nb cb)) tab87_3 bits87_3 KC (fun hHeld HT_ HW_ => ?_)
    refine p_ 0 11 ?_
    refine p_ 1 12 ?_
    refine p_ 2 13 ?_
    refine t_ 3 14 hHeld ?_ (hy := by
        intro w' hS'
        have s1 := hS'.1
        go_simp
        rfl)
    refine p_ 4 15 ?_
    refine p_ 5 16 ?_
    refine p_ 6 17 ?_
    refine t_ 7 18 hHeld ?_ (hy := by
        intro w' hS'
        have s1 := hS'.2.1
        go_simp
        rfl)
    refine p_ 8 19 ?_
    refine p_ 9 20 ?_
    refine p_ 10 21 ?_
    refine t_ 11 22 hHeld ?_ (hy := by
        intro w' hS'
        have s1 := hS'.2.2.1
        go_simp
        rfl)
    refine p_ 12 23 ?_
    refine p_ 13 24 ?_
    refine p_ 14 25 ?_
    refine t_ 15 26 hHeld ?_ (hy := by
        intro w' hS'
        have s1 := hS'.2.2.2
        go_simp
        rfl)
    refine n_ 16 (some 27) (fun K hK => ?_)
    refine g_ Tryz.func30 #[.pointer (some ⟨ps, 0, none⟩), .int .i64 f.id, .int .i64 f.kind, .slice Ab nb cb] ?_
    with_reducible refine HW.out.mono ?_
    rintro e w4 ⟨rfl, F4, hs, hg⟩
    have S4 := Hide.mk hs
    have G4 := Hide.mk hg
    have rb4 := (hg.moves.block b (lt_of_row HD.out.row) HD.out.b_off.1).trans HD.out.row
    have rx4 := (hg.moves.block x (lt_of_row HROWX.out) (fr_off HD.out.sh HFX.out)).trans HROWX.out
    have KC1 := And.intro (show w4.cell? ⟨b, 0, none⟩ = some (.pointer (some ⟨ps, 0, none⟩)) from cell_of rb4) (And.intro (show w4.cell? ⟨x, 0, none⟩ = some (.int .i64 f.id) from cell_of rx4) (And.intro (show w4.cell? ⟨x, 1, none⟩ = some (.int .i64 f.kind) from cell_of rx4) (show w4.cell? ⟨x, 2, none⟩ = some (.slice Ab nb cb) from cell_of rx4)))
    have RX4 := Hide.mk rx4
    refine ⟨_, rfl, ?_⟩
    clear hs hg rb4 rx4
    refine k_ hK KC1 (fun hHeld => ?_)
    clear hK K
    refine p_ 17 5 ?_
    refine d_ ?_
    clear KC KC1 hHeld
    have P4 := Hide.mk (HD.out.shadow S4.out G4.out)
    have HF4 := Hide.mk (HFX.out.moves G4.out.moves (fr_off HD.out.sh HFX.out) (own_no8 HD.out.sh))
    have d4 : w4.cell? ⟨x, 4, none⟩ = some (.bool f.dirty) := cell_of RX4.out
    have f4 := free_of (i := 4) RX4.out
    by_cases hE : E = 0
    · subst hE
      have hR := HRR.out
      rw [if_neg (by simp)] at hR
      have HR1 := Hide.mk hR
      clear hR
      go_wp2
      go_ret
      rw [HR1.out]
      have K4 := Hide.mk (HKD.out.trans ((HD.out.k8_goes G4.out).trans (K8.of_moves (w := w) (Moves.of_grown (set_cell_grown (wr := w4) (p := x) (i := 4) (.bool false))) (fun y hy => by simp only [List.mem_singleton] at hy; subst hy; exact ⟨HBODY.out.2.1, fun c t f hq hc => ne_of_types hc RX4.out hq.2.2.2 rfl⟩))))
      refine ⟨rfl, K4.out, HKPD.out.trans ((HD.out.kp_goes G4.out).trans (KP.set RX4.out _)), F4, ?_⟩
      refine HSET.out w4 _ F4 S' { f with dirty := false } P4.out (Moves.of_grown (set_cell_grown (.bool false))) ?_
      obtain ⟨v5, r5, b5⟩ := HF4.out.ex
      have hs5 := set_row (i := 4) r5 (.bool false)
      refine ⟨⟨v5, by simpa using hs5, R_moves b5 (Moves.of_grown (set_cell_grown (.bool false))) fun g hg hgs => ?_⟩, HBODY.out.2.1, HBODY.out.1, HBODY.out.2.2⟩
      simp only [List.mem_singleton] at hgs
      subst hgs
      obtain ⟨cells, hc⟩ := typed b5 g hg
      exact ne_of_types hc r5 (by decide) rfl
    · have q : (E != 0) = true := by simp [hE]
      have hR := HRR.out
      rw [if_pos hE] at hR
      have HR1 := Hide.mk hR
      clear hR hE
      go_wp2
      go_ret
      rw [HR1.out]
      exact ⟨rfl, HKD.out.trans (HD.out.k8_goes G4.out), HKPD.out.trans (HD.out.kp_goes G4.out), F4, P4.out⟩
theorem flush_any (h : PIn w wr b ps pd F v bs p) (hk : Ok p.S) {k : Nat} (hkl : k < bs.length) :
    Calls Tryz.prog 87 #[.pointer (some ⟨b, 0, none⟩), .pointer (some ⟨bs[k], 0, none⟩)] wr fun e w' => e = .returned (.int .i64 (p.flush k).2) ∧ K8 w wr w' ∧ ∃ F', PIn w w' b ps pd F' v bs (p.flush k).1 :=
  (flush_more h hk hkl).mono fun _ _ ⟨e, k, _, q⟩ => ⟨e, k, q⟩
theorem room_any (h : PIn w wr b ps pd F v bs p) (hk : Ok p.S) (hl : bs.length ≤ 1000) :
    Calls Tryz.prog 52 #[.pointer (some ⟨b, 0, none⟩)] wr fun e w' => e = .returned (.int .i64 p.room.2) ∧ ∃ F' v' bs', PIn w w' b ps pd F' v' bs' p.room.1 ∧ bs'.length ≤ bs.length ∧ (∀ x ∈ bs', x ∈ bs) ∧ K8 w wr w' := by
  obtain ⟨R, hR⟩ : ∃ R, p.room = R := ⟨_, rfl⟩
  rw [hR]
  unfold Pl.room at hR
  have hlen := h.frs.len
  rw [← hlen] at hR
  have hdr := below_drew (Below.refl wr.heap.size wr)
  have HKD := Hide.mk (K8.of_below (w := w) hdr)
  have HD := Hide.mk (h.later hdr)
  obtain ⟨A, c, hv, hC⟩ := h.slice
  have hCd := Kd.C_below hC hdr
  by_cases hlt : (bs.length : Int) < p.most
  · rw [if_pos hlt] at hR
    have HRR := Hide.mk hR.symm
    subst hv
    have KC : wr.drew.cell? ⟨b, 2, none⟩ = some (.slice A bs.length c) ∧ wr.drew.cell? ⟨b, 1, none⟩ = some (.int .i64 p.most) := ⟨cell_of HD.out.row, cell_of HD.out.row⟩
    clear h hR hdr hC hCd hk hlen
    go_enter Tryz.func52, Tryz.ntmps52
    go_wp2
    refine s_ 10 (fun w' => w'.cell? ⟨b, 2, none⟩ = some (.slice A bs.length c) ∧ w'.cell? ⟨b, 1, none⟩ = some (.int .i64 p.most)) tab52_1 bits52_1 KC (fun hHeld HT_ HW_ => ?_)
    refine p_ 0 5 ?_
    refine p_ 1 6 ?_
    refine p_ 2 7 ?_
    refine t_ 3 8 hHeld ?_ (hy := by
        intro w' hS'
        have s1 := hS'.1
        go_simp
        rfl)
    refine p_ 4 9 ?_
    refine p_ 5 10 ?_
    refine p_ 6 11 ?_
    refine p_ 7 12 ?_
    refine t_ 8 13 hHeld ?_ (hy := by
        intro w' hS'
        have s1 := hS'.2
        go_simp
        rfl)
    refine p_ 9 14 ?_
    refine d_ ?_
    clear hHeld
    clear KC
    go_wp2
    go_ret
    rw [HRR.out]
    exact ⟨rfl, F, _, bs, HD.out, Nat.le_refl _, (fun x hx => hx), HKD.out⟩
  · rw [if_neg hlt] at hR
    have HI0 := index_room bs p.frames A c wr.drew hCd HD.out.frs (by omega)
    rw [show idxF (fun f => decide (f.pins = 0)) p.frames 0 = p.free_ from rfl] at HI0
    rcases idxF_at (fun f => decide (f.pins = 0)) p.frames 0 with e | ⟨k, hkl, e, hq⟩
    · rw [show idxF (fun f => decide (f.pins = 0)) p.frames 0 = p.free_ from rfl] at e
      rw [e] at hR HI0
      rw [if_pos (by decide)] at hR
      have HRR := Hide.mk hR.symm
      have HI := Hide.mk HI0
      subst hv
      have KC : wr.drew.cell? ⟨b, 2, none⟩ = some (.slice A bs.length c) ∧ wr.drew.cell? ⟨b, 1, none⟩ = some (.int .i64 p.most) := ⟨cell_of HD.out.row, cell_of HD.out.row⟩
      clear h hR hdr hC hCd hk hlen e HI0
      go_enter Tryz.func52, Tryz.ntmps52
      go_wp2
      refine s_ 10 (fun w' => w'.cell? ⟨b, 2, none⟩ = some (.slice A bs.length c) ∧ w'.cell? ⟨b, 1, none⟩ = some (.int .i64 p.most)) tab52_1 bits52_1 KC (fun hHeld HT_ HW_ => ?_)
      refine p_ 0 5 ?_
      refine p_ 1 6 ?_
      refine p_ 2 7 ?_
      refine t_ 3 8 hHeld ?_ (hy := by
          intro w' hS'
          have s1 := hS'.1
          go_simp
          rfl)
      refine p_ 4 9 ?_
      refine p_ 5 10 ?_
      refine p_ 6 11 ?_
      refine p_ 7 12 ?_
      refine t_ 8 13 hHeld ?_ (hy := by
          intro w' hS'
          have s1 := hS'.2
          go_simp
          rfl)
      refine p_ 9 14 ?_
      refine d_ ?_
      clear hHeld
      have k2 := KC.1
      clear KC
      go_wp2_with (first
        | (go_at_call 93
           refine HI.out.mono ?_
           rintro e w2 ⟨rfl, hb⟩
           have B2 := Hide.mk hb
           have P2 := Hide.mk (HD.out.later hb)
           clear hb))
      go_ret
      rw [HRR.out]
      exact ⟨rfl, F, _, bs, P2.out, Nat.le_refl _, (fun x hx => hx), HKD.out.trans (K8.of_below B2.out)⟩
    · rw [show idxF (fun f => decide (f.pins = 0)) p.frames 0 = p.free_ from rfl, Nat.zero_add] at e
      rw [e] at hR HI0
      rw [if_neg (by omega), Int.toNat_natCast] at hR
      have hkb : k < bs.length := by omega
      have HI := Hide.mk HI0
      obtain ⟨g, c0, hvg, _, _, _⟩ := Kd.R_form h.arr (by rw [List.length_map]; omega)
      rw [List.length_map] at hvg
      rw [hvg] at hv
      cases hv
      subst hvg
      have KC : wr.drew.cell? ⟨b, 2, none⟩ = some (.slice (some ⟨g, 0, none⟩) bs.length c) ∧ wr.drew.cell? ⟨b, 1, none⟩ = some (.int .i64 p.most) := ⟨cell_of HD.out.row, cell_of HD.out.row⟩
      obtain ⟨p1, E, hF⟩ : ∃ p1 E, p.flush k = (p1, E) := ⟨_, _, rfl⟩
      rw [hF] at hR
      simp only at hR
      have HFE := Hide.mk hF
      have HOK := Hide.mk hk
      have HKL := Hide.mk hkb
      have HKE : Hide (((k + 1 : Nat) : Int) = (k : Int) + 1) := ⟨by omega⟩
      have HLL := Hide.mk hl
      have hkz : ¬ (k : Int) < 0 := by omega
      have hki : (k : Int) < (bs.length : Int) := by omega
      have hk1 : (k : Int) ≤ 1000 := by omega
      have HRR := Hide.mk hR.symm
      obtain ⟨ad, had, hcx⟩ := at_ptr hCd (k : Int) (by omega) hki
      cases had
      have hrd : rdOf none (bs.map some) (k : Int) = some bs[k] := by simp [rdOf, List.getD_eq_getElem?_getD, hkb]
      rw [hrd, Int.toNat_natCast, Go.WideShapes.add_plain, Nat.zero_add] at hcx
      have HX : Hide (∀ w2, Below wr.drew.heap.size wr.drew w2 → w2.cell? ⟨g, k, none⟩ = some (.pointer (some ⟨bs[k], 0, none⟩))) := ⟨fun w2 hb => pw_cell_below hb hcx⟩
      have HFLU := Hide.mk (fun w2 (hp : PIn w w2 b ps pd F (.slice (some ⟨g, 0, none⟩) bs.length c) bs p) => flush_any hp HOK.out HKL.out)
      generalize bs[k] = x at *
      clear h hR hdr hC hCd hk hlen e HI0 hkl hq hcx hrd hkb hF hl
      by_cases hE : E = 0
      · subst hE
        have hR := HRR.out
        rw [if_neg (by simp)] at hR
        have HR1 := Hide.mk hR
        clear hR
        go_enter Tryz.func52, Tryz.ntmps52
        go_wp2
        refine s_ 10 (fun w' => w'.cell? ⟨b, 2, none⟩ = some (.slice (some ⟨g, 0, none⟩) bs.length c) ∧ w'.cell? ⟨b, 1, none⟩ = some (.int .i64 p.most)) tab52_1 bits52_1 KC (fun hHeld HT_ HW_ => ?_)
        refine p_ 0 5 ?_
        refine p_ 1 6 ?_
        refine p_ 2 7 ?_
        refine t_ 3 8 hHeld ?_ (hy := by
            intro w' hS'
            have s1 := hS'.1
            go_simp
            rfl)
        refine p_ 4 9 ?_
        refine p_ 5 10 ?_
        refine p_ 6 11 ?_
        refine p_ 7 12 ?_
        refine t_ 8 13 hHeld ?_ (hy := by
            intro w' hS'
            have s1 := hS'.2
            go_simp
            rfl)
        refine p_ 9 14 ?_
        refine d_ ?_
        clear hHeld
        have k2 := KC.1
        clear KC
        go_wp2_with (first
          | (go_at_call 93
             refine HI.out.mono ?_
             rintro e w2 ⟨rfl, hb⟩
             have B2 := Hide.mk hb
             have P2 := Hide.mk (HD.out.later hb)
             have k2b := pw_cell_below hb k2
             have kx := HX.out w2 hb
             have HFL0 := HFLU.out w2 P2.out
             rw [HFE.out] at HFL0
             have HFL := Hide.mk HFL0
             clear hb HFL0)
          | (go_at_call 87
             with_reducible refine HFL.out.mono ?_
             rintro e w3 ⟨rfl, hk3, F3, hp3⟩
             have P3 := Hide.mk hp3
             have K3 := Hide.mk hk3
             clear hk3
             have c2c : w3.cell? ⟨b, 2, none⟩ = some (.slice (some ⟨g, 0, none⟩) bs.length c) := cell_of hp3.row
             have HDL0 := delete_any k hp3.arr HKL.out
             rw [HKE.out] at HDL0
             have HDL := Hide.mk HDL0
             clear HDL0
             clear hp3)
          | (go_at_call 58
             with_reducible refine HDL.out.mono ?_
             rintro e w4 ⟨rfl, ho4, hg4⟩
             have hz4 := P3.out.frs.erase k
             have nd4 := P3.out.nodup.sublist (List.eraseIdx_sublist bs k)
             obtain ⟨d2, f2, hp4, hk4⟩ := P3.out.restored (v1 := .slice (some ⟨g, 0, none⟩) (bs.length - 1) c) hg4 ho4 (.inl rfl) nd4 hz4 (fun x hx => .inl (List.mem_of_mem_eraseIdx hx))
             have P4 := Hide.mk hp4
             have K4 := Hide.mk hk4
             clear ho4 hg4 hz4 nd4 hp4 hk4))
        go_ret
        rw [HR1.out]
        exact ⟨rfl, F3, _, _, P4.out, by rw [List.length_eraseIdx]; split <;> omega, (fun x hx => List.mem_of_mem_eraseIdx hx), (HKD.out.trans (K8.of_below B2.out)).trans (K3.out.trans K4.out)⟩
      · have q : (E != 0) = true := by simp [hE]
        have hR := HRR.out
        rw [if_pos hE] at hR
        have HR1 := Hide.mk hR
        clear hR hE
        go_enter Tryz.func52, Tryz.ntmps52
        go_wp2
        refine s_ 10 (fun w' => w'.cell? ⟨b, 2, none⟩ = some (.slice (some ⟨g, 0, none⟩) bs.length c) ∧ w'.cell? ⟨b, 1, none⟩ = some (.int .i64 p.most)) tab52_1 bits52_1 KC (fun hHeld HT_ HW_ => ?_)
        refine p_ 0 5 ?_
        refine p_ 1 6 ?_
        refine p_ 2 7 ?_
        refine t_ 3 8 hHeld ?_ (hy := by
            intro w' hS'
            have s1 := hS'.1
            go_simp
            rfl)
        refine p_ 4 9 ?_
        refine p_ 5 10 ?_
        refine p_ 6 11 ?_
        refine p_ 7 12 ?_
        refine t_ 8 13 hHeld ?_ (hy := by
            intro w' hS'
            have s1 := hS'.2
            go_simp
            rfl)
        refine p_ 9 14 ?_
        refine d_ ?_
        clear hHeld
        have k2 := KC.1
        clear KC
        go_wp2_with (first
          | (go_at_call 93
             refine HI.out.mono ?_
             rintro e w2 ⟨rfl, hb⟩
             have B2 := Hide.mk hb
             have P2 := Hide.mk (HD.out.later hb)
             have k2b := pw_cell_below hb k2
             have kx := HX.out w2 hb
             have HFL0 := HFLU.out w2 P2.out
             rw [HFE.out] at HFL0
             have HFL := Hide.mk HFL0
             clear hb HFL0)
          | (go_at_call 87
             with_reducible refine HFL.out.mono ?_
             rintro e w3 ⟨rfl, hk3, F3, hp3⟩
             have P3 := Hide.mk hp3
             have K3 := Hide.mk hk3
             clear hk3
             clear hp3))
        go_ret
        rw [HR1.out]
        exact ⟨rfl, F3, _, bs, P3.out, Nat.le_refl _, (fun x hx => hx), (HKD.out.trans (K8.of_below B2.out)).trans K3.out⟩
end
end Go.Proofs.YtplkndmkchpcdaaGreat.Pool
end
section
namespace Go.Proofs.YtplkndmkchpcdaaGreat.Pool
open Go.RowKit YtplkndmkchpcdaaGreatW.PrintWords YtplkndmkchpcdaaGreatW.PrintLast YtplkndmkchpcdaaGreatW.PrintMore MapFn Disk Sh
theorem eql_nilP (w : World) (a : Option Addr) (n c n' c' : Nat) : (binOp .eql 81 (.slice a n c) (.slice none n' c')).run Tryz.prog w = .ok (.bool a.isNone) w :=
  Lib.run_eql_slice_nil w _ _ a n c n' c' Tryz.underlying81
set_option maxHeartbeats 2000000 in
set_option maxRecDepth 100000 in
theorem cloneP_any (A0 : Option Addr) (c0 : Nat) (l0 : List (Option Nat)) (w : World) (hr0 : Kd.C kdP w A0 l0.length l0) (hc0 : l0.length ≤ c0) (hl : l0.length < 17592186044416) :
    Calls Tryz.prog 84 #[.slice A0 l0.length c0] w fun e w' => ∃ v0_ : Value, e = .returned (v0_) ∧ Kd.R kdP 84 w' w.heap.size (fun _ => True) v0_ l0 ∧ Below w.heap.size w w' := by
  have HR0 := Aside0.mk hr0
  have HC0 := Aside0.mk hc0
  clear hr0 hc0
  have HB := Aside0.mk (Below.refl w.heap.size w)
  cases A0 with
  | none =>
    have q22 := eql_nilP
    have hz : l0 = [] := by
      cases l0 with
      | nil => rfl
      | cons x xs =>
        obtain ⟨ad, h, _⟩ := at_ptr HR0.out 0 (by omega) (by simp only [List.length_cons]; omega)
        cases h
    subst hz
    go_enter Tryz.func84, Tryz.ntmps84
    go_wp2
    go_ret
    exact ⟨_, rfl, Kd.R_nil _ _ _ _ _, Below.refl _ _⟩
  | some a =>
    have q22 := eql_nilP
    have LM := Aside0.mk hl
    clear hl
    obtain ⟨y114, hy114⟩ : ∃ y_ : List (Option Nat), y_ = (([] : List (Option Nat))) := ⟨_, rfl⟩
    have Ny114 := Aside0.mk hy114
    clear hy114
    have LM2 : Aside0 ((y114.length + l0.length) * 8 < 140737488355328) := ⟨by rw [Ny114.out]; have := LM.out; simp; omega⟩
    obtain ⟨y117, hy117⟩ : ∃ y_ : List (Option Nat), y_ = (y114 ++ l0) := ⟨_, rfl⟩
    have Ny117 := Aside0.mk hy117
    clear hy117
    go_enter Tryz.func84, Tryz.ntmps84
    go_wp2_with (first | ((with_reducible refine gate_dst (N := 5) rfl ?_); refine Kd.R_lit kdP _ 84 ?hg (N := 5) ?hd (xs := ([] : List (Option Nat))) (inner := []) (ok := fun _ => True) (okp := fun _ => True) ?hr ?hp (fun _ hk => hk) trivial (Below.refl _ _) (Nat.le_refl _) (by simp) ?_; (case hd => rfl); (case hg => rfl); (case hr => first | (go_simp; done) | (go_simp; rfl)); (case hp => exact (Reps.none _ _)); intro v115 w6 ho7 hb hg_ hnew_; clear hg_ hnew_; rw [← Ny114.out] at ho7; have HO116 := Aside0.mk ho7; clear HB; have HB := Aside0.mk hb; clear hb ho7) | ((with_reducible refine gate_builtin (b := .append) (xs := #[.tmp 5, .tmp 6]) rfl ?_); at_builtin; refine Kd.R_append_rows kdP (w0 := w) w.heap.size rfl (.tmp 5) (.tmp 6) 81 84 (.pointer none) 8 rfl Tryz.underlying81 infoP rfl (by decide) (by omega) v115 y114 l0 _ _ _ (fun _ => True) (fun _ => False) rfl rfl ?aO ?aR (fun _ _ h => h) (fun _ h => h.elim) ?aF ?aB ?aS ?aL ?_; (case aR => exact (Kd.C_below HR0.out HB.out)); (case aB => exact HB.out); (case aF => exact (fun _ _ => trivial)); (case aO => exact HO116.out); (case aS => exact (below_size HB.out)); (case aL => have := LM2.out; omega); intro v118 w8 ho hb hg hat; rw [← Ny117.out] at ho; clear HB; clear HO116; have HB := Aside0.mk hb; have HO119 := Aside0.mk ho; clear ho hb hg hat))
    go_ret
    refine ⟨_, rfl, ?_, HB.out⟩
    have e := Ny117.out
    rw [Ny114.out, List.nil_append] at e
    rw [← e]
    exact HO119.out
end Go.Proofs.YtplkndmkchpcdaaGreat.Pool
end
section
namespace Go.Proofs
open Go.Shelf
def Tryz.sortF_ren : Go.Shelf.Ren := ⟨fun | 6 => 85 | 15 => 96 | 14 => 111 | 28 => 128 | 29 => 129 | 20 => 138 | 21 => 139 | 22 => 140 | 23 => 141 | 24 => 142 | 25 => 143 | 26 => 144 | 27 => 145 | 46 => 160 | 47 => 149 | 48 => 150 | 49 => 161 | 50 => 162 | 57 => 166 | n => n, fun | 22 => 81 | 24 => 84 | 25 => 115 | 3 => 3 | 39 => 53 | 0 => 0 | 53 => 156 | 55 => 158 | 4 => 4 | 46 => 149 | 45 => 148 | 50 => 127 | 5 => 5 | 9 => 9 | 66 => 171 | 70 => 175 | 76 => 187 | 77 => 188 | n => n, fun | n => n⟩
theorem Tryz.sortF : Go.Proofs.SlLaysF.n6 Tryz.prog Tryz.sortF_ren := {
  mixed := by kernel_rfl
  f6 := ⟨Tryz.f85.name, by decide, Tryz.func85.trans (congrArg some (by kernel_rfl))⟩
  f14 := ⟨Tryz.f111.name, by decide, Tryz.func111.trans (congrArg some (by kernel_rfl))⟩
  f15 := Tryz.func96.trans (congrArg some (by kernel_rfl))
  f20 := ⟨Tryz.f138.name, by decide, Tryz.func138.trans (congrArg some (by kernel_rfl))⟩
  f21 := ⟨Tryz.f139.name, by decide, Tryz.func139.trans (congrArg some (by kernel_rfl))⟩
  f22 := ⟨Tryz.f140.name, by decide, Tryz.func140.trans (congrArg some (by kernel_rfl))⟩
  f23 := ⟨Tryz.f141.name, by decide, Tryz.func141.trans (congrArg some (by kernel_rfl))⟩
  f24 := ⟨Tryz.f142.name, by decide, Tryz.func142.trans (congrArg some (by kernel_rfl))⟩
  f25 := ⟨Tryz.f143.name, by decide, Tryz.func143.trans (congrArg some (by kernel_rfl))⟩
  f26 := ⟨Tryz.f144.name, by decide, Tryz.func144.trans (congrArg some (by kernel_rfl))⟩
  f27 := ⟨Tryz.f145.name, by decide, Tryz.func145.trans (congrArg some (by kernel_rfl))⟩
  f28 := Tryz.func128.trans (congrArg some (by kernel_rfl))
  f29 := Tryz.func129.trans (congrArg some (by kernel_rfl))
  f46 := ⟨Tryz.f160.name, by decide, Tryz.func160.trans (congrArg some (by kernel_rfl))⟩
  f47 := Tryz.func149.trans (congrArg some (by kernel_rfl))
  f48 := Tryz.func150.trans (congrArg some (by kernel_rfl))
  f49 := ⟨Tryz.f161.name, by decide, Tryz.func161.trans (congrArg some (by kernel_rfl))⟩
  f50 := ⟨Tryz.f162.name, by decide, Tryz.func162.trans (congrArg some (by kernel_rfl))⟩
  f57 := ⟨Tryz.f166.name, by decide, Tryz.func166.trans (congrArg some (by kernel_rfl))⟩
  t0 := Tryz.underlying0
  a0 := Tryz.isAgg0
  z0 := Tryz.sizeOf0
  v0 := Tryz.zeroValue0
  t3 := Tryz.underlying3
  a3 := Tryz.isAgg3
  z3 := Tryz.sizeOf3
  v3 := Tryz.zeroValue3
  t4 := Tryz.underlying4
  a4 := Tryz.isAgg4
  z4 := Tryz.sizeOf4
  v4 := Tryz.zeroValue4
  t5 := Tryz.underlying5
  a5 := Tryz.isAgg5
  z5 := Tryz.sizeOf5
  v5 := Tryz.zeroValue5
  t9 := Tryz.underlying9
  a9 := Tryz.isAgg9
  z9 := Tryz.sizeOf9
  v9 := Tryz.zeroValue9
  t22 := Tryz.underlying81
  a22 := Tryz.isAgg81
  z22 := Tryz.sizeOf81
  v22 := Tryz.zeroValue81
  a24 := Tryz.isAgg84
  z24 := Tryz.sizeOf84
  t25 := Tryz.underlying115
  a25 := Tryz.isAgg115
  z25 := Tryz.sizeOf115
  v25 := Tryz.zeroValue115
  t39 := Tryz.underlying53
  a39 := Tryz.isAgg53
  z39 := Tryz.sizeOf53
  v39 := Tryz.zeroValue53
  t45 := Tryz.underlying148
  a45 := Tryz.isAgg148
  z45 := Tryz.sizeOf148
  v45 := Tryz.zeroValue148
  t46 := Tryz.underlying149
  a46 := Tryz.isAgg149
  z46 := Tryz.sizeOf149
  v46 := Tryz.zeroValue149
  t50 := Tryz.underlying127
  a50 := Tryz.isAgg127
  z50 := Tryz.sizeOf127
  v50 := Tryz.zeroValue127
  t53 := Tryz.underlying156
  a53 := Tryz.isAgg156
  z53 := Tryz.sizeOf156
  v53 := Tryz.zeroValue156
  t55 := Tryz.underlying158
  a55 := Tryz.isAgg158
  z55 := Tryz.sizeOf158
  v55 := Tryz.zeroValue158
  t66 := Tryz.underlying171
  a66 := Tryz.isAgg171
  z66 := Tryz.sizeOf171
  v66 := Tryz.zeroValue171
  t70 := Tryz.underlying175
  a70 := Tryz.isAgg175
  z70 := Tryz.sizeOf175
  v70 := Tryz.zeroValue175
  t76 := Tryz.underlying187
  a76 := Tryz.isAgg187
  z76 := Tryz.sizeOf187
  v76 := Tryz.zeroValue187
  t77 := Tryz.underlying188
  a77 := Tryz.isAgg188
  z77 := Tryz.sizeOf188
  v77 := Tryz.zeroValue188 }
end Go.Proofs
end
section
namespace Go.Proofs.YtplkndmkchpcdaaGreat.Pool
open Go.Shelf Go.RowKit Go.Lib Go.Sort YtplkndmkchpcdaaGreatW.PrintWords YtplkndmkchpcdaaGreatW.PrintLast YtplkndmkchpcdaaGreatW.PrintMore MapFn Disk Sh Num
set_option maxHeartbeats 4000000
set_option maxRecDepth 100000
def T86_1 : Bool × List (List Nat × List Nat) := (true, [([], []), ([0], [0]), ([1], [1]), ([2], [2]), ([], []), ([4], [4]), ([5], [5]), ([6], [6]), ([3, 7], [3, 7]), ([8, 0, 1, 2, 3, 4, 5, 6, 7, 8], [8])])
def B86_1 : List Nat := [0, 1, 3, 7, 0, 16, 48, 112, 255, 511]
theorem tab86_1 : rtab .any (opsOf Tryz.f86 1) = T86_1 := by kernel_rfl
theorem bits86_1 : waitsOk T86_1.2 B86_1 = true := by kernel_rfl
theorem cmp_any (x y : Nat) (i j : Int) (hi : 0 ≤ i ∧ i ≤ 1000000) (hj : 0 ≤ j ∧ j ≤ 1000000) (W : World) (hx : W.cell? ⟨x, 0, none⟩ = some (.int .i64 i)) (hy : W.cell? ⟨y, 0, none⟩ = some (.int .i64 j)) :
    Calls Tryz.prog 86 #[.pointer (some ⟨x, 0, none⟩), .pointer (some ⟨y, 0, none⟩)] W fun e w' => e = .returned (.int .i64 (i - j)) ∧ ∃ q, w' = W.drewN q := by
  have KC : W.drew.cell? ⟨x, 0, none⟩ = some (.int .i64 i) ∧ W.drew.cell? ⟨y, 0, none⟩ = some (.int .i64 j) := ⟨hx, hy⟩
  clear hx hy
  go_enter Tryz.func86, Tryz.ntmps86
  go_wp2
  refine s_ 10 (fun w' => w'.cell? ⟨x, 0, none⟩ = some (.int .i64 i) ∧ w'.cell? ⟨y, 0, none⟩ = some (.int .i64 j)) tab86_1 bits86_1 KC (fun hHeld HT_ HW_ => ?_)
  refine p_ 0 5 ?_
  refine p_ 1 6 ?_
  refine p_ 2 7 ?_
  refine t_ 3 8 hHeld ?_ (hy := by
      intro w' hS'
      have s1 := hS'.1
      go_simp
      rfl)
  refine p_ 4 9 ?_
  refine p_ 5 10 ?_
  refine p_ 6 11 ?_
  refine t_ 7 12 hHeld ?_ (hy := by
      intro w' hS'
      have s2 := hS'.2
      go_simp
      rfl)
  refine p_ 8 13 ?_
  refine p_ 9 4 ?_
  refine d_ ?_
  go_wp2
  go_ret
  have hw : wrap64 (i - j) = i - j := wrap_ok (by omega) (by omega)
  exact ⟨(congrArg (fun v => Ending.returned (Value.int .i64 v)) hw : _), 1, rfl⟩
end Go.Proofs.YtplkndmkchpcdaaGreat.Pool
end
section
namespace Go.Proofs.YtplkndmkchpcdaaGreat.Pool
open Go.Shelf Go.RowKit Go.Lib Go.Sort Go.Proofs YtplkndmkchpcdaaGreatW.PrintWords YtplkndmkchpcdaaGreatW.PrintLast YtplkndmkchpcdaaGreatW.PrintMore MapFn Disk Sh
set_option maxHeartbeats 4000000
set_option maxRecDepth 100000
section
variable {α : Type} {enc : α → Value}
theorem heap_sortedG [Inhabited α] {w : World} {g n : Nat} {os : Array Obj} {cur : Array Value} {e : TypeId} {fr : Nat × Nat} (d : Array α) (hb : w.heap[g]? = some (.cells cur e fr)) : (sortWorld enc w g 0 n d os).heap[g]? = some (.cells (putCells enc 0 d cur) e fr) := by
  have hg : g < w.heap.size := (Array.getElem?_eq_some_iff.1 hb).1
  unfold sortWorld
  rw [heap_grow_old _ _ (by simpa using hg)]
  simp [putRow, mapBlock, Sort.ahead, Array.getElem?_modify, hb, onCells]
theorem grownBy_sortedG [Inhabited α] {w : World} {g n : Nat} {os : Array Obj} (d : Array α) : w.grownBy (sortWorld enc w g 0 n d os) (some g) := by
  unfold sortWorld
  refine ⟨rfl, rfl, rfl, by simp, fun k hk hne => ?_⟩
  rw [heap_grow_old _ _ (by simpa using hk)]
  have : g ≠ k := fun e => hne (by rw [e])
  simp [putRow, mapBlock, Sort.ahead, Array.getElem?_modify, this]
theorem take_putCellsG [Inhabited α] (cur : Array Value) (ts : List α) (h : ts.length ≤ cur.size) : (putCells enc 0 ts.toArray cur).toList.take ts.length = ts.map enc := by
  apply List.ext_getElem?
  intro j
  by_cases hj : j < ts.length
  · rw [List.getElem?_take_of_lt hj, Array.getElem?_toList]
    simp [putCells, hj, show j < cur.size by omega]
  · rw [List.getElem?_take_eq_none (by omega), List.getElem?_eq_none (by simp; omega)]
theorem ownsRow_sortedG [Inhabited α] {w : World} {base g cap n k : Nat} {e : TypeId} {os : Array Obj} {cur : Array Value} {ts : List α} (hl : ts.length = k) (hbase : base ≤ g) (hb : w.heap[g]? = some (.cells cur e (0, 0)))
    (h1 : k ≤ cap) (h2 : cap ≤ maxLen) (h3 : cur.size = cap * 1) :
    (sortWorld enc w g 0 n ts.toArray os).ownsRow base e 1 (.slice (some ⟨g, 0, none⟩) k cap) k (ts.map enc) :=
  ⟨by simp [hl], .inr ⟨g, cap, _, rfl, hbase, heap_sortedG _ hb, h1, h2, by simp [putCells, h3], by rw [Nat.mul_one, ← hl]; exact take_putCellsG cur ts (by omega)⟩⟩
end
def FI (L : List (Nat × Int)) : Type := { q : Nat × Int // q ∈ L }
def FI.enc {L : List (Nat × Int)} (x : FI L) : Value := .pointer (some ⟨x.1.1, 0, none⟩)
def FI.cf {L : List (Nat × Int)} (x y : FI L) : Int := x.1.2 - y.1.2
theorem FI.lt {L : List (Nat × Int)} (x y : FI L) : ltOf FI.cf x y = decide (x.1.2 < y.1.2) := by
  unfold ltOf FI.cf
  by_cases h : x.1.2 < y.1.2
  · rw [decide_eq_true h, decide_eq_true (by omega)]
  · rw [decide_eq_false h, decide_eq_false (by omega)]
theorem FI.swo (L : List (Nat × Int)) : SWO (ltOf (FI.cf (L := L))) where
  irrefl x := by rw [FI.lt]; simp
  trans x y z h1 h2 := by rw [FI.lt] at *; simp at *; omega
  ntrans x y z h1 h2 := by rw [FI.lt] at *; simp at *; omega
theorem sorted_ids {l s : List Int} (hp : s.Perm l) (hs : s.Pairwise (· ≤ ·)) : l.mergeSort (fun x y => decide (x ≤ y)) = s := by
  have h1 : (l.mergeSort (fun x y => decide (x ≤ y))).Pairwise (· ≤ ·) := by
    have := List.pairwise_mergeSort (le := fun x y : Int => decide (x ≤ y)) (fun a b c h1 h2 => by simp at *; omega) (fun a b => by simp; omega) l
    exact this.imp fun h => by simpa using h
  exact List.Perm.eq_of_pairwise (le := fun a b : Int => a ≤ b) (fun a b _ _ h1 h2 => by omega) h1 hs ((List.mergeSort_perm _ _).trans hp.symm)
theorem sort_frames {base : Nat} {ok : Nat → Prop} {v : Value} {bs : List Nat} {ids : List Int} {w : World} (h : Kd.R kdP 84 w base ok v (bs.map some)) (hl : ids.length = bs.length) (hn : ids.Nodup)
    (hids : ∀ x ∈ ids, 0 ≤ x ∧ x ≤ 1000000) (hlen : bs.length ≤ 100000) (hc : ∀ (i : Nat) (h1 : i < bs.length) (h2 : i < ids.length), w.cell? ⟨bs[i], 0, none⟩ = some (.int .i64 ids[i]) ∧ v.ownBlock ≠ some bs[i]) :
    Calls Tryz.prog 85 #[v, .func (.func 86) #[] #[]] w fun e w' => e = .returned (.tuple #[]) ∧ w.grownBy w' v.ownBlock ∧ ∃ bs' : List Nat, Kd.R kdP 84 w' base ok v (bs'.map some) ∧ bs'.length = bs.length ∧
      ∀ (i : Nat) (h1 : i < bs'.length), ∃ (k : Nat) (hk : k < bs.length) (hk2 : k < ids.length), bs'[i] = bs[k] ∧ (ids.mergeSort fun x y => decide (x ≤ y))[i]? = some ids[k] := by
  have ho := Kd.own_of_R (enc := encP) (h1 := encP_one) h
  cases hbs : bs with
  | nil =>
    subst hbs
    obtain ⟨A, c, rfl⟩ := Kd.R_slice h
    refine (AnyF.slices_SortFunc_none { Tryz.sortF with } A c (.func (.func 86) #[] #[]) w).mono ?_
    rintro e w' ⟨rfl, rfl⟩
    refine ⟨rfl, ⟨rfl, rfl, rfl, Nat.le_refl _, fun _ _ _ => rfl⟩, [], h, rfl, fun i h1 => absurd h1 (by simp)⟩
  | cons b0 r =>
    rw [← hbs]
    have hpos : 0 < bs.length := by rw [hbs]; simp
    obtain ⟨L, hL⟩ : ∃ L, bs.zip ids = L := ⟨_, rfl⟩
    have hLl : L.length = bs.length := by rw [← hL, List.length_zip]; omega
    have hL1 : L.map (·.1) = bs := by rw [← hL]; exact List.map_fst_zip (by omega)
    have hL2 : L.map (·.2) = ids := by rw [← hL]; exact List.map_snd_zip (by omega)
    have hmem : ∀ q ∈ L, ∃ k, ∃ (hk : k < bs.length) (hk2 : k < ids.length), bs[k] = q.1 ∧ ids[k] = q.2 := by
      intro q hq
      rw [← hL] at hq
      obtain ⟨k, hk, e⟩ := List.mem_iff_getElem.1 hq
      rw [List.length_zip] at hk
      rw [List.getElem_zip] at e
      exact ⟨k, by omega, by omega, by rw [← e], by rw [← e]⟩
    have huniq : ∀ x y : FI L, x.1.2 = y.1.2 → x = y := by
      rintro ⟨x, hx⟩ ⟨y, hy⟩ e
      obtain ⟨i, hi, e1⟩ := List.mem_iff_getElem.1 hx
      obtain ⟨j, hj, e2⟩ := List.mem_iff_getElem.1 hy
      have hi2 : i < ids.length := by omega
      have hj2 : j < ids.length := by omega
      have q1 : ids[i] = x.2 := by simp only [← hL2, List.getElem_map, e1]
      have q2 : ids[j] = y.2 := by simp only [← hL2, List.getElem_map, e2]
      have : ids[i] = ids[j] := by rw [q1, q2]; exact e
      have hij := (List.getElem_inj hn).1 this
      subst hij
      exact Subtype.ext (e1.symm.trans e2)
    rcases ho.2 with ⟨_, e⟩ | ⟨g, cap, cur, rfl, hb, hrow, hnn, hm, hsz, ht⟩
    · rw [List.length_map] at e; omega
    · rw [List.length_map] at hnn
      have hgl : g < w.heap.size := lt_of_row hrow
      have hLpos : 0 < L.length := by omega
      letI : Inhabited (FI L) := ⟨⟨L[0], List.getElem_mem hLpos⟩⟩
      obtain ⟨d, hd⟩ : ∃ d : List (FI L), d.map (·.1) = L := ⟨L.attach, by simp [FI, List.attach_map_subtype_val]⟩
      have hd1 := congrArg List.length hd
      rw [List.length_map] at hd1
      have hdl : d.length = bs.length := hd1.trans hLl
      have hdenc : d.map FI.enc = (bs.map some).map encP := by
        have hd2 := congrArg (List.map fun q : Nat × Int => encP (some q.1)) hd
        rw [List.map_map] at hd2
        rw [← hL1, List.map_map, List.map_map]
        exact hd2
      have ht : cur.toList.take ((bs.map some).length * 1) = (bs.map some).map encP := ht
      rw [← hdenc, List.length_map] at ht
      have hH : Holds FI.enc w g 0 d.toArray := by
        intro j hj
        have hj' : j < d.length := by simpa using hj
        refine ⟨?_, by simp [World.frozen?, hrow]⟩
        have e1 : (cur.toList.take (bs.length * 1))[j]? = (d.map FI.enc)[j]? := by rw [ht]
        rw [List.getElem?_take, if_pos (by omega), Array.getElem?_toList, List.getElem?_map, List.getElem?_eq_getElem (by omega)] at e1
        simp only [World.cell?, hrow, Nat.zero_add]
        simp only [Option.isSome_none, Bool.false_eq_true, if_false]
        rw [e1]
        simp [getElem!_pos, show j < d.length by omega]
      have hcmp : CmpReads Tryz.prog 86 #[] (FI.enc (L := L)) FI.cf g 0 d.toArray.size w := by
        intro m os dk hdk x y
        have hg := grownBy_sortedG (enc := FI.enc) (w := w) (g := g) (n := m) (os := os) dk
        have hcell : ∀ x : FI L, (sortWorld FI.enc w g 0 m dk os).cell? ⟨x.1.1, 0, none⟩ = some (.int .i64 x.1.2) ∧ 0 ≤ x.1.2 ∧ x.1.2 ≤ 1000000 := by
          intro x
          obtain ⟨k, hk, hk2, e1, e2⟩ := hmem x.1 x.2
          obtain ⟨c1, c2⟩ := hc k hk hk2
          rw [e1, e2] at c1
          rw [e1] at c2
          refine ⟨hg.cell c1 (fun e => c2 e.symm), ?_⟩
          rw [← e2]
          exact hids _ (List.getElem_mem hk2)
        have hx := hcell x
        have hy := hcell y
        exact cmp_any x.1.1 y.1.1 x.1.2 y.1.2 hx.2 hy.2 _ hx.1 hy.1
      have eg : ∀ args w, (callFunc 86 args).run Tryz.prog w = .ok (.enter 86 args) w := enters_of Tryz.func86 (by kernel_rfl) rfl
      have hS := Any.slices_SortFunc_total Tryz.sortF (FI.enc (L := L)) (fun _ => rfl) FI.cf (FI.swo L) 86 #[] g 0 cap d.toArray w eg hcmp.lays hH hgl (by simp; omega) (fun x y h1 h2 => huniq x y (by rw [FI.lt] at h1 h2; simp at h1 h2; omega))
      obtain ⟨ts, hts⟩ : ∃ ts, d.mergeSort (fun x y => !(ltOf FI.cf) y x) = ts := ⟨_, rfl⟩
      have htl : ts.length = bs.length := by rw [← hts, List.length_mergeSort, hdl]
      have htp : ts.Perm d := by rw [← hts]; exact List.mergeSort_perm _ _
      have htsrt : (ts.map fun x => x.1.2).Pairwise (· ≤ ·) := by
        rw [List.pairwise_map, ← hts]
        refine (List.pairwise_mergeSort (le := fun x y => !(ltOf FI.cf) y x) ?_ ?_ d).imp fun h => ?_
        · intro a b c h1 h2
          rw [FI.lt] at *
          simp at *
          omega
        · intro a b
          rw [FI.lt, FI.lt]
          simp
          omega
        · rw [FI.lt] at h
          simpa using h
      have hsi : ids.mergeSort (fun x y => decide (x ≤ y)) = ts.map fun x => x.1.2 := by
        refine sorted_ids ?_ htsrt
        have h1 := htp.map (fun x : FI L => x.1.2)
        have h2 : d.map (fun x : FI L => x.1.2) = ids := by
          have hd2 := congrArg (List.map fun q : Nat × Int => q.2) hd
          rw [List.map_map] at hd2
          rw [← hL2]
          exact hd2
        rw [h2] at h1
        exact h1
      have hsz2 : d.toArray.size = bs.length := by simp [hdl]
      rw [hsz2, hts] at hS
      rw [List.length_map]
      refine Calls.mono hS ?_
      rintro e w' ⟨rfl, n, os, rfl⟩
      refine ⟨rfl, grownBy_sortedG _, ts.map fun x => x.1.1, ?_, by rw [List.length_map, htl], fun i hi => ?_⟩
      · refine Kd.R_of_own (enc := encP) (h1 := encP_one) ?_ h.1
        rw [List.length_map, List.length_map, htl]
        have := ownsRow_sortedG (enc := FI.enc) (w := w) (base := base) (n := n) (os := os) (ts := ts) htl hb hrow hnn hm hsz
        rw [show ts.map FI.enc = ((ts.map fun x => x.1.1).map some).map encP by rw [List.map_map, List.map_map]; rfl] at this
        exact this
      · rw [List.length_map] at hi
        obtain ⟨k, hk, hk2, e1, e2⟩ := hmem ts[i].1 ts[i].2
        exact ⟨k, hk, hk2, by rw [List.getElem_map, e1], by rw [hsi, List.getElem?_map, List.getElem?_eq_getElem hi, e2]; rfl⟩
end Go.Proofs.YtplkndmkchpcdaaGreat.Pool
end
section
namespace Go.Proofs.YtplkndmkchpcdaaGreat.Sh
open Go.RowKit Bitset
theorem firstN_spec (l : List Int) : ∀ d n, (firstN l d n).2 = true → ∃ m : Nat, (firstN l d n).1 = (m : Int) ∧ n ≤ m ∧ hasN l m = false ∧ ∀ j, n ≤ j → j < m → hasN l j = true
  | 0, n, h => by cases h
  | d + 1, n, h => by
    rw [firstN] at h ⊢
    by_cases c : hasN l n = true
    · rw [if_pos c] at h ⊢
      obtain ⟨m, h1, h2, h3, h4⟩ := firstN_spec l d (n + 1) h
      refine ⟨m, h1, by omega, h3, fun j hj hjm => ?_⟩
      rcases Nat.eq_or_lt_of_le hj with e | e
      · rw [← e]; exact c
      · exact h4 j (by omega) hjm
    · rw [if_neg c]
      exact ⟨n, rfl, Nat.le_refl _, by simpa using c, fun j h1 h2 => by omega⟩
theorem lowest_one {s : Sh} {l : List Int} (h : s.lowest 1 = some l) : ∃ m : Nat, l = [(m : Int)] ∧ (m : Int) < s.root.blocks ∧ hasN s.taken m = false ∧ ∀ j, j < m → hasN s.taken j = true := by
  unfold Sh.lowest at h
  rw [lowF] at h
  split at h
  · cases h
  · rename_i c
    have c1 : (firstL s.taken 0).2 = true := by
      cases e : (firstL s.taken 0).2 with
      | true => rfl
      | false => exact absurd (Or.inl e) c
    obtain ⟨m, h1, h2, h3, h4⟩ := firstN_spec s.taken _ _ c1
    rw [lowF] at h
    have e1 : (firstL s.taken 0).1 = (m : Int) := h1
    rw [e1] at h c
    refine ⟨m, (Option.some.inj h).symm, ?_, h3, fun j hj => h4 j (Nat.zero_le _) hj⟩
    refine Decidable.byContradiction fun q => c (Or.inr ?_)
    omega
theorem taken_has {s : Sh} (hu : Bytes s.used) (hf : Bytes s.fresh) (n : Nat) : hasN s.taken n = (hasN s.used n || hasN s.fresh n) := hasN_join hu hf n
theorem withL_has {m : List Int} (hm : Bytes m) {n : Int} (h0 : 0 ≤ n) (h1 : n < 8 * (m.length : Int)) (on : Bool) (j : Nat) : hasN (withL m n on) j = if (j : Int) = n then on else hasN m j := by
  unfold withL
  rw [if_pos ⟨h0, h1⟩, hasN_withN hm _ _ (by omega)]
  by_cases c : (j : Int) = n
  · rw [if_pos c, if_pos (by omega)]
  · rw [if_neg c, if_neg (by omega)]
theorem withL_by {m : List Int} (hm : Bytes m) (n : Int) (on : Bool) : Bytes (withL m n on) ∧ (withL m n on).length = m.length := by
  unfold withL
  split
  · exact ⟨withN_bytes hm _ _, withN_length _ _ _⟩
  · exact ⟨hm, rfl⟩
theorem fold_has : ∀ (l : List Int) (m : List Int), Bytes m → (∀ n ∈ l, 0 ≤ n ∧ n < 8 * (m.length : Int)) → Bytes (l.foldl (fun m n => withL m n true) m) ∧ (l.foldl (fun m n => withL m n true) m).length = m.length ∧ ∀ j : Nat, hasN (l.foldl (fun m n => withL m n true) m) j = (hasN m j || decide ((j : Int) ∈ l))
  | [], m, hm, _ => ⟨hm, rfl, fun j => by simp⟩
  | n :: r, m, hm, h => by
    obtain ⟨hb, hl⟩ := withL_by hm n true
    have hn := h n (by simp)
    obtain ⟨h1, h2, h3⟩ := fold_has r (withL m n true) hb (fun x hx => by rw [hl]; exact h x (by simp [hx]))
    refine ⟨h1, h2.trans hl, fun j => ?_⟩
    rw [List.foldl_cons, h3, withL_has hm hn.1 hn.2]
    by_cases c : (j : Int) = n
    · rw [if_pos c]; simp [c]
    · rw [if_neg c]; simp [c]
theorem used_has {r : Root} {t : List Int} (h : ∀ n ∈ t ++ r.tables ++ r.maps, 0 ≤ n ∧ n < 8 * ((emptyB r.blocks).length : Int)) (h2 : 1 < 8 * ((emptyB r.blocks).length : Int)) :
    Bytes (usedL r t) ∧ (usedL r t).length = (emptyB r.blocks).length ∧ ∀ j : Nat, hasN (usedL r t) j = true ↔ (j = 0 ∨ j = 1 ∨ (j : Int) ∈ t ++ r.tables ++ r.maps) := by
  have he : Bytes (emptyB r.blocks) := fun x hx => by
    unfold emptyB at hx
    rw [(List.mem_replicate.1 hx).2]
    exact zero_byte
  have hz : ∀ j, hasN (emptyB r.blocks) j = false := fun j => by
    unfold hasN at_ emptyB
    rw [List.getD_eq_getElem?_getD, List.getElem?_replicate]
    split <;> exact zero_bit _
  obtain ⟨h3, h4, h5⟩ := fold_has ([1] ++ t ++ r.tables ++ r.maps) (emptyB r.blocks) he (fun n hn => by
    simp only [List.mem_append, List.mem_singleton] at hn h
    rcases hn with ((hn | hn) | hn) | hn
    · rw [hn]; omega
    · exact h n (.inl (.inl hn))
    · exact h n (.inl (.inr hn))
    · exact h n (.inr hn))
  unfold usedL
  obtain ⟨h6, h7⟩ := withL_by h3 0 true
  refine ⟨h6, h7.trans h4, fun j => ?_⟩
  rw [withL_has h3 (by omega) (by rw [h4]; omega), h5, hz]
  by_cases c : (j : Int) = 0
  · rw [if_pos c]
    have : j = 0 := by omega
    simp [this]
  · rw [if_neg c]
    have c1 : ¬ j = 0 := by omega
    simp only [Bool.false_or, decide_eq_true_eq, List.mem_append, List.mem_singleton, c1, false_or]
    constructor
    · rintro (((q | q) | q) | q)
      · exact .inl (by omega)
      · exact .inr (.inl (.inl q))
      · exact .inr (.inl (.inr q))
      · exact .inr (.inr q)
    · rintro (q | ((q | q) | q))
      · exact .inl (.inl (.inl (by omega)))
      · exact .inl (.inl (.inr q))
      · exact .inl (.inr q)
      · exact .inr q
theorem pigeonN : ∀ (l m : List Nat), l.Nodup → (∀ x ∈ l, x ∈ m) → l.length ≤ m.length
  | [], m, _, _ => Nat.zero_le _
  | a :: l, m, hn, hs => by
    have ha := hs a (by simp)
    obtain ⟨h1, h2⟩ := List.nodup_cons.1 hn
    have := pigeonN l (m.erase a) h2 fun x hx => (List.mem_erase_of_ne (fun e => h1 (by rw [← e]; exact hx))).2 (hs x (by simp [hx]))
    rw [List.length_erase_of_mem ha] at this
    have := List.length_pos_of_mem ha
    rw [List.length_cons]
    omega
end Go.Proofs.YtplkndmkchpcdaaGreat.Sh
end
section
namespace Go.Proofs.YtplkndmkchpcdaaGreat.Sh
open Go.RowKit Bitset
theorem take_get {l : List Int} {n i : Nat} (h : ∀ j, n ≤ j → l.getD j 0 = 0) : (l.take n).getD i 0 = l.getD i 0 := by
  rw [List.getD_eq_getElem?_getD, List.getElem?_take]
  split
  · rw [List.getD_eq_getElem?_getD]
  · rw [h i (by omega)]
    rfl
theorem trimF_get : ∀ (k : Nat) (l : List Int) (i : Nat), (trimF k l).getD i 0 = l.getD i 0
  | 0, l, i => rfl
  | k + 1, l, i => by
    rw [trimF]
    split
    · rename_i c
      rw [trimF_get k]
      refine take_get fun j hj => ?_
      rcases Nat.eq_or_lt_of_le hj with e | e
      · rw [← e]; exact c.2
      · rw [List.getD_eq_getElem?_getD, List.getElem?_eq_none (by omega)]
        rfl
    · rfl
theorem trimF_len : ∀ (k : Nat) (l : List Int), (trimF k l).length ≤ l.length ∧ (0 < l.length → 0 < (trimF k l).length)
  | 0, l => ⟨Nat.le_refl _, fun h => h⟩
  | k + 1, l => by
    rw [trimF]
    split
    · rename_i c
      have := trimF_len k (l.take (l.length - 1))
      rw [List.length_take] at this
      exact ⟨by omega, fun _ => this.2 (by omega)⟩
    · exact ⟨Nat.le_refl _, fun h => h⟩
theorem trimF_last : ∀ (k : Nat) (l : List Int), l.length ≤ k + 1 → 1 < (trimF k l).length → (trimF k l).getD ((trimF k l).length - 1) 0 ≠ 0
  | 0, l, h, h1 => by
    have : (trimF 0 l).length = l.length := rfl
    omega
  | k + 1, l, h, h1 => by
    rw [trimF] at h1 ⊢
    split
    · rename_i c
      rw [if_pos c] at h1
      exact trimF_last k _ (by rw [List.length_take]; omega) h1
    · rename_i c
      rw [if_neg c] at h1
      intro e
      exact c ⟨h1, e⟩
theorem put_get (s : Sh) {id : Nat} (n : Int) (i : Nat) : (s.put id n).table.getD i 0 = if i = id then n else s.table.getD i 0 := by
  show (trimL ((padL s.table (id : Int).toNat).set (id : Int).toNat n)).getD i 0 = _
  unfold trimL
  rw [trimF_get, Int.toNat_natCast, List.getD_eq_getElem?_getD, List.getElem?_set]
  have hl : (padL s.table id).length = max s.table.length (id + 1) := by
    unfold padL
    rw [List.length_append, List.length_replicate]
    omega
  by_cases c : i = id
  · rw [if_pos c.symm, if_pos c, if_pos (by rw [hl]; omega)]
    rfl
  · rw [if_neg (fun e => c e.symm), if_neg c]
    unfold padL
    rw [List.getElem?_append, List.getD_eq_getElem?_getD]
    split
    · rfl
    · rename_i q
      rw [List.getElem?_replicate, List.getElem?_eq_none (by omega)]
      split <;> rfl
theorem put_ends (s : Sh) {id : Nat} (n : Int) : 0 < (s.put id n).table.length ∧ (1 < (s.put id n).table.length → (s.put id n).table.getD ((s.put id n).table.length - 1) 0 ≠ 0) := by
  show 0 < (trimL _).length ∧ (1 < (trimL _).length → (trimL _).getD ((trimL _).length - 1) 0 ≠ 0)
  unfold trimL
  refine ⟨(trimF_len _ _).2 (by unfold padL; rw [List.length_set, List.length_append, List.length_replicate]; omega), fun h => trimF_last _ _ (by omega) h⟩
theorem idF_spec (t : List Int) : ∀ k id, t.length ≤ id + k → id ≤ idF t k id ∧ t.getD (idF t k id) 0 = 0 ∧ ∀ j, id ≤ j → j < idF t k id → t.getD j 0 ≠ 0
  | 0, id, h => by
    refine ⟨Nat.le_refl _, ?_, fun j h1 h2 => ?_⟩
    · show t.getD id 0 = 0
      rw [List.getD_eq_getElem?_getD, List.getElem?_eq_none (by omega)]
      rfl
    · have : j < id := h2
      omega
  | k + 1, id, h => by
    rw [idF]
    split
    · rename_i c
      obtain ⟨h1, h2, h3⟩ := idF_spec t k (id + 1) (by omega)
      refine ⟨by omega, h2, fun j hj hjr => ?_⟩
      rcases Nat.eq_or_lt_of_le hj with e | e
      · rw [← e]; exact c.2
      · exact h3 j (by omega) hjr
    · rename_i c
      refine ⟨Nat.le_refl _, ?_, fun j h1 h2 => by omega⟩
      rcases Nat.lt_or_ge id t.length with q | q
      · exact Decidable.byContradiction fun e => c ⟨q, e⟩
      · rw [List.getD_eq_getElem?_getD, List.getElem?_eq_none q]
        rfl
theorem freeId_spec (t : List Int) : 1 ≤ freeId t ∧ t.getD (freeId t) 0 = 0 ∧ ∀ j, 1 ≤ j → j < freeId t → t.getD j 0 ≠ 0 := idF_spec t t.length 1 (by omega)
end Go.Proofs.YtplkndmkchpcdaaGreat.Sh
end
section
namespace Go.Proofs.YtplkndmkchpcdaaGreat.Sh
open Go.RowKit Disk Page Num Bitset
set_option maxRecDepth 100000
theorem be_put1 {n : Int} (h0 : 0 ≤ n) (h1 : n < 256) : beN 0 [n] = n := by simp [beN]
theorem be_put2 {n : Int} (h0 : 0 ≤ n) (h1 : n < 65536) : beN 0 (putN 2 n) = n := by
  simp [putN, beN]
  omega
theorem be_put6 {n : Int} (h0 : 0 ≤ n) (h1 : n < 281474976710656) : beN 0 (putN 6 n) = n := by
  simp [putN, beN]
  omega
theorem twosAt_twos (b : List Int) : ∀ (l : List Int) (off : Nat) (rest : List Int), b.drop off = twos l ++ rest → (∀ x ∈ l, 0 ≤ x ∧ x < 65536) → twosAt b l.length off = l
  | [], _, _, _, _ => rfl
  | x :: r, off, rest, h, hb => by
    have hx := hb x (by simp)
    have e : b.drop off = putN 2 x ++ (twos r ++ rest) := by
      rw [h]
      show (putN 2 x ++ twos r) ++ rest = _
      rw [List.append_assoc]
    have e2 : b.drop (off + 2) = twos r ++ rest := by
      rw [← List.drop_drop, e, List.drop_left' (putN_length 2 x)]
    show beN 0 ((b.drop off).take 2) :: twosAt b r.length (off + 2) = x :: r
    rw [twosAt_twos b r (off + 2) rest e2 (fun y hy => hb y (by simp [hy])), e, List.take_left' (putN_length 2 x), be_put2 hx.1 hx.2]
theorem bytes_form (r : Root) : ∃ Z, r.bytes = [114, 111, 111, 116] ++ (putN 6 r.epoch ++ (putN 2 r.blocks ++ (putN 2 r.next ++ (putN 2 r.start ++ ([(r.tables.length : Int)] ++ ([(r.maps.length : Int)] ++ (twos r.tables ++ (twos r.maps ++ Z)))))))) := by
  refine ⟨List.replicate (246 - r.head.length) 0 ++ (tailL r.body ++ putN 6 r.epoch), ?_⟩
  have e3 : twos [r.blocks, r.next, r.start] = putN 2 r.blocks ++ (putN 2 r.next ++ putN 2 r.start) := by simp [twos]
  have eh : r.head = [114, 111, 111, 116] ++ (putN 6 r.epoch ++ (putN 2 r.blocks ++ (putN 2 r.next ++ (putN 2 r.start ++ ([(r.tables.length : Int)] ++ ([(r.maps.length : Int)] ++ (twos r.tables ++ twos r.maps))))))) := by
    unfold Root.head
    rw [e3, show [(r.tables.length : Int), (r.maps.length : Int)] = [(r.tables.length : Int)] ++ [(r.maps.length : Int)] from rfl]
    simp only [List.append_assoc]
  have eb : r.body = r.head ++ List.replicate (246 - r.head.length) 0 := rfl
  have ebs : r.bytes = r.head ++ (List.replicate (246 - r.head.length) 0 ++ (tailL r.body ++ putN 6 r.epoch)) := by
    show r.body ++ tailL r.body ++ putN 6 r.epoch = _
    conv => lhs; lhs; lhs; rw [eb]
    simp only [List.append_assoc]
  rw [ebs]
  generalize List.replicate (246 - r.head.length) 0 ++ (tailL r.body ++ putN 6 r.epoch) = Z
  rw [eh]
  simp only [List.append_assoc]
theorem drop_app {b x y : List Int} {k n : Nat} (h : b.drop k = x ++ y) (hx : x.length = n) : b.drop (k + n) = y := by
  rw [← List.drop_drop, h, List.drop_left' hx]
theorem read_bytes {r : Root} (h : r.check = 0) : Root.read r.bytes = r := by
  obtain ⟨Z, e⟩ := bytes_form r
  obtain ⟨h1, h2⟩ := check_len h
  obtain ⟨⟨c1, c2⟩, ⟨c3, c4⟩, ⟨c5, c6⟩, c7, c8⟩ := check_range h
  have he := check_each h
  have d4 : r.bytes.drop 4 = _ := drop_app (k := 0) (n := 4) e rfl
  have d10 := drop_app d4 (putN_length 6 _)
  have d12 := drop_app d10 (putN_length 2 _)
  have d14 := drop_app d12 (putN_length 2 _)
  have d16 := drop_app d14 (putN_length 2 _)
  have d17 := drop_app d16 (n := 1) rfl
  have d18 := drop_app d17 (n := 1) rfl
  have d19 := drop_app d18 (twos_length _)
  have k1 : beN 0 ((r.bytes.drop 4).take 6) = r.epoch := by rw [d4, List.take_left' (putN_length 6 _), be_put6 c1 (by omega)]
  have k2 : beN 0 ((r.bytes.drop 10).take 2) = r.blocks := by rw [d10, List.take_left' (putN_length 2 _), be_put2 (by omega) (by omega)]
  have k3 : beN 0 ((r.bytes.drop 12).take 2) = r.next := by rw [d12, List.take_left' (putN_length 2 _), be_put2 (by omega) (by omega)]
  have k4 : beN 0 ((r.bytes.drop 14).take 2) = r.start := by rw [d14, List.take_left' (putN_length 2 _), be_put2 (by omega) (by omega)]
  have k5 : beN 0 ((r.bytes.drop 16).take 1) = (r.tables.length : Int) := by rw [d16, show List.take 1 ([(r.tables.length : Int)] ++ ([(r.maps.length : Int)] ++ (twos r.tables ++ (twos r.maps ++ Z)))) = [(r.tables.length : Int)] from rfl, be_put1 (by omega) (by omega)]
  have k6 : beN 0 ((r.bytes.drop 17).take 1) = (r.maps.length : Int) := by rw [d17, show List.take 1 ([(r.maps.length : Int)] ++ (twos r.tables ++ (twos r.maps ++ Z))) = [(r.maps.length : Int)] from rfl, be_put1 (by omega) (by omega)]
  have n5 : (if (r.tables.length : Int) < 26 then (r.tables.length : Int) else 26).toNat = r.tables.length := by split <;> omega
  have n6 : (if (r.maps.length : Int) < 3 then (r.maps.length : Int) else 3).toNat = r.maps.length := by split <;> omega
  unfold Root.read
  simp only
  rw [k1, k2, k3, k4, k5, k6, n5, n6, twosAt_twos _ r.tables 18 _ d18 (fun x hx => by have := he x (List.mem_append.2 (.inl hx)); omega), twosAt_twos _ r.maps (18 + 2 * r.tables.length) _ d19 (fun x hx => by have := he x (List.mem_append.2 (.inr hx)); omega)]
theorem bytes_end {r : Root} (h : r.check = 0) : r.bytes.drop 250 = putN 6 r.epoch := by
  unfold Root.bytes
  rw [List.drop_left' (by rw [List.length_append, body_len h]; rfl)]
def Lesser (E : Int) (x : List Int) : Prop := (Root.get x).2 = 0 → (Root.get x).1.epoch < E
def Base (E : Int) (y : List Int) : Prop := (E = 0 ∧ y = zeros) ∨ ∃ r0 : Root, r0.check = 0 ∧ r0.epoch = E - 1 ∧ y = r0.bytes
structure OtherAt (E : Int) (x y : List Int) (a b : Nat) : Prop where
  base : Base E y
  b5 : b ≤ 5
  ab : 0 < b → 6 ≤ a
  low : ∀ i, i < 6 → x.getD (4 + i) 0 = if i < a then (putN 6 (E + 1)).getD i 0 else y.getD (4 + i) 0
  high : ∀ i, i < 6 → x.getD (250 + i) 0 = if i < b then (putN 6 (E + 1)).getD i 0 else y.getD (250 + i) 0
  same : (∀ i, i < 6 → x.getD (4 + i) 0 = y.getD (4 + i) 0) → x.drop 4 = y.drop 4
def Other (E : Int) (x : List Int) : Prop := x.length = 256 ∧ ∃ y a b, OtherAt E x y a b
theorem getD_drop (l : List Int) (k i : Nat) : (l.drop k).getD i 0 = l.getD (k + i) 0 := by simp [List.getD_eq_getElem?_getD, List.getElem?_drop]
theorem root_high {r : Root} (h : r.check = 0) (i : Nat) : r.bytes.getD (250 + i) 0 = (putN 6 r.epoch).getD i 0 := by rw [← bytes_end h, getD_drop]
theorem zeros_getD (i : Nat) : zeros.getD i 0 = 0 := by
  unfold zeros
  rw [List.getD_eq_getElem?_getD, List.getElem?_replicate]
  split <;> rfl
theorem put6_last (n : Int) : (putN 6 n).getD 5 0 = n % 256 := by simp [putN]
theorem Base.last {E : Int} {y : List Int} (h : Base E y) : y.getD 255 0 ≠ (putN 6 (E + 1)).getD 5 0 := by
  rw [put6_last]
  rcases h with ⟨rfl, rfl⟩ | ⟨r0, hc, he, rfl⟩
  · rw [zeros_getD]; decide
  · rw [show 255 = 250 + 5 from rfl, root_high hc, put6_last, he]
    omega
theorem Other.root {r0 : Root} (h : r0.check = 0) {E : Int} (he : r0.epoch = E - 1) : Other E r0.bytes :=
  ⟨bytes_len h, r0.bytes, 0, 0, ⟨.inr ⟨r0, h, he, rfl⟩, by omega, fun h => by omega, fun i _ => by rw [if_neg (by omega)], fun i _ => by rw [if_neg (by omega)], fun _ => rfl⟩⟩
theorem Other.zero : Other 0 zeros :=
  ⟨by simp [zeros], zeros, 0, 0, ⟨.inl ⟨rfl, rfl⟩, by omega, fun h => by omega, fun i _ => by rw [if_neg (by omega)], fun i _ => by rw [if_neg (by omega)], fun _ => rfl⟩⟩
end Go.Proofs.YtplkndmkchpcdaaGreat.Sh
end
section
namespace Go.Proofs.YtplkndmkchpcdaaGreat.Sh
open Go.RowKit Disk Page Num Bitset
set_option maxRecDepth 100000
def Laid (g : Int → List Int) (kind : Int) : List (List Int) → List Int → Nat → Prop
  | [], [], _ => True
  | p :: ps, n :: ns, i => (g n = sealL kind (i : Int) p ∧ sealE kind (i : Int) p.length = 0 ∧ Bytes p) ∧ Laid g kind ps ns (i + 1)
  | _, _, _ => False
theorem Laid.len {g : Int → List Int} {kind : Int} : ∀ {ps : List (List Int)} {bl : List Int} {i : Nat}, Laid g kind ps bl i → ps.length = bl.length
  | [], [], _, _ => rfl
  | [], _ :: _, _, h => h.elim
  | _ :: _, [], _, h => h.elim
  | _ :: ps, _ :: ns, i, h => by simp [Laid.len h.2]
theorem Laid.same {g g' : Int → List Int} {kind : Int} : ∀ {ps : List (List Int)} {bl : List Int} {i : Nat}, Laid g kind ps bl i → (∀ n ∈ bl, g' n = g n) → Laid g' kind ps bl i
  | [], [], _, _, _ => trivial
  | [], _ :: _, _, h, _ => h.elim
  | _ :: _, [], _, h, _ => h.elim
  | _ :: ps, n :: ns, i, h, hs => ⟨⟨(hs n (by simp)).trans h.1.1, h.1.2⟩, Laid.same h.2 fun m hm => hs m (by simp [hm])⟩
theorem splitF_most {n : Nat} : ∀ (f : Nat) (l : List Int), ∀ p ∈ splitF f n l, p.length ≤ n
  | 0, l, p, hp => by cases hp
  | f + 1, [], p, hp => by cases hp
  | f + 1, x :: r, p, hp => by
    rcases List.mem_cons.1 hp with rfl | hp
    · rw [List.length_take]; omega
    · exact splitF_most f _ p hp
theorem splitL_most (l : List Int) : ∀ p ∈ splitL 246 l, p.length ≤ 246 := splitF_most _ _
structure Fit (N : Int) (r : Root) (t : List Int) : Prop where
  check : r.check = 0
  blocks : r.blocks = N
  len : (t.length : Int) = r.next + 1
  zero : t.getD 0 0 = 0
  last : 1 < t.length → t.getD (t.length - 1) 0 ≠ 0
  ent : ∀ n ∈ t, n = 0 ∨ (2 ≤ n ∧ n < N)
  start : 0 < r.start → t.getD r.start.toNat 0 ≠ 0
  nodup : (r.tables ++ (r.maps ++ t.filter (fun n => n != 0))).Nodup
def PageAt (g : Int → List Int) (id n : Int) : Prop := ∃ k b, sealE k id b.length = 0 ∧ Bytes b ∧ g n = sealL k id b
structure Hold (g : Int → List Int) (r : Root) (t : List Int) : Prop where
  crown : g (r.epoch % 2) = r.bytes
  other : Other r.epoch (g (1 - r.epoch % 2))
  tabs : Laid g 1 (splitL 246 (wordsL (t.drop 1))) r.tables 0
  maps : Laid g 2 (splitL 246 (usedL r t)) r.maps 0
  page : ∀ i : Nat, t.getD i 0 ≠ 0 → PageAt g i (t.getD i 0)
theorem Fit.range {N : Int} {r : Root} {t : List Int} (h : Fit N r t) : 2 ≤ N ∧ N ≤ 4096 := by
  have := (check_range h.check).2.1
  rw [h.blocks] at this
  exact this
theorem mem_getD {t : List Int} {i : Nat} (h : t.getD i 0 ≠ 0) : t.getD i 0 ∈ t ∧ i < t.length := by
  rcases Nat.lt_or_ge i t.length with c | c
  · rw [getD_lt c]
    exact ⟨List.getElem_mem c, c⟩
  · exact absurd (getD_ge c 0) h
theorem getD_mem {t : List Int} {n : Int} (h : n ∈ t) : ∃ i, i < t.length ∧ t.getD i 0 = n := by
  obtain ⟨i, hi, e⟩ := List.mem_iff_getElem.1 h
  exact ⟨i, hi, by rw [getD_lt hi, e]⟩
theorem Fit.pos {N : Int} {r : Root} {t : List Int} (h : Fit N r t) : 0 < t.length := by
  have := h.len
  have := (check_range h.check).2.2.1.1
  omega
theorem Fit.each {N : Int} {r : Root} {t : List Int} (h : Fit N r t) : ∀ n ∈ r.tables ++ r.maps, 2 ≤ n ∧ n < N := fun n hn => by
  have := check_each h.check n hn
  rw [h.blocks] at this
  omega
theorem clamp_room {N : Int} (h0 : 2 ≤ N) (h1 : N ≤ 4096) : N ≤ 8 * ((emptyB N).length : Int) ∧ 1 ≤ (emptyB N).length := by
  rw [emptyB_len]
  unfold Given.clampN
  have e : (if 4096 < N then 4096 else N) = N := if_neg (by omega)
  rw [e, if_pos (by omega)]
  omega
theorem Fit.used {N : Int} {r : Root} {t : List Int} (h : Fit N r t) : Bytes (usedL r t) ∧ (usedL r t).length = (emptyB N).length ∧ ∀ j : Nat, hasN (usedL r t) j = true ↔ (j = 0 ∨ j = 1 ∨ (j : Int) ∈ t ++ r.tables ++ r.maps) := by
  obtain ⟨h0, h1⟩ := h.range
  obtain ⟨c1, c2⟩ := clamp_room h0 h1
  have := used_has (r := r) (t := t) (fun n hn => by
    rw [h.blocks]
    rw [List.append_assoc, List.mem_append] at hn
    rcases hn with q | q
    · rcases h.ent n q with q | q <;> omega
    · have := h.each n q
      omega) (by rw [h.blocks]; omega)
  rw [h.blocks] at this
  exact this
def Dur (r : Root) (t : List Int) (n : Int) : Prop := n = 0 ∨ n = 1 ∨ n ∈ r.tables ∨ n ∈ r.maps ∨ n ∈ t
theorem Fit.dur {N : Int} {r : Root} {t : List Int} (h : Fit N r t) (j : Nat) : hasN (usedL r t) j = true ↔ Dur r t j := by
  rw [h.used.2.2 j]
  unfold Dur
  simp only [List.mem_append]
  constructor
  · rintro (q | q | (q | q) | q)
    · exact .inl (by omega)
    · exact .inr (.inl (by omega))
    · exact .inr (.inr (.inr (.inr q)))
    · exact .inr (.inr (.inl q))
    · exact .inr (.inr (.inr (.inl q)))
  · rintro (q | q | q | q | q)
    · exact .inl (by omega)
    · exact .inr (.inl (by omega))
    · exact .inr (.inr (.inl (.inr q)))
    · exact .inr (.inr (.inr q))
    · exact .inr (.inr (.inl (.inl q)))
theorem Hold.same {g g' : Int → List Int} {r : Root} {t : List Int} (h : Hold g r t) (hs : ∀ n, Dur r t n → g' n = g n) : Hold g' r t := by
  have hp : r.epoch % 2 = 0 ∨ r.epoch % 2 = 1 := by omega
  refine ⟨(hs _ ?_).trans h.crown, ?_, h.tabs.same fun n hn => hs n (.inr (.inr (.inl hn))), h.maps.same fun n hn => hs n (.inr (.inr (.inr (.inl hn)))), fun i hi => ?_⟩
  · rcases hp with e | e
    · exact .inl e
    · exact .inr (.inl e)
  · have hd : Dur r t (1 - r.epoch % 2) := by
      rcases hp with e | e
      · exact .inr (.inl (by omega))
      · exact .inl (by omega)
    rw [hs _ hd]
    exact h.other
  · obtain ⟨k, b, h1, h2, h3⟩ := h.page i hi
    exact ⟨k, b, h1, h2, (hs _ (.inr (.inr (.inr (.inr (mem_getD hi).1))))).trans h3⟩
theorem seen_ok (r : Root) (k : Nat) : ∀ (l : List Int) (i : Nat) (seen : Int → Bool), (∀ j, l.getD j 1 = 0 → k ≤ i + j) → (l.filter (fun n => n != 0)).Nodup → (∀ n ∈ l, n ≠ 0 → n < r.blocks ∧ seen n = false) → seenF r k l i seen = true
  | [], _, _, _, _, _ => rfl
  | n :: ns, i, seen, h1, h2, h3 => by
    rw [seenF_cons]
    by_cases c : n = 0
    · have h10 := h1 0 (by simpa using c)
      rw [if_pos ⟨c, by simpa using h10⟩]
      rw [List.filter_cons_of_neg (by simpa using c)] at h2
      exact seen_ok r k ns (i + 1) seen (fun j hj => by have := h1 (j + 1) (by simpa using hj); omega) h2 fun m hm => h3 m (by simp [hm])
    · rw [List.filter_cons_of_pos (by simpa using c)] at h2
      obtain ⟨h4, h5⟩ := List.nodup_cons.1 h2
      obtain ⟨h6, h7⟩ := h3 n (by simp) c
      rw [if_neg (fun q => c q.1), if_neg (by rw [h7]; simp; omega)]
      refine seen_ok r k ns (i + 1) _ (fun j hj => by have := h1 (j + 1) (by simpa using hj); omega) h5 fun m hm hm0 => ?_
      obtain ⟨h8, h9⟩ := h3 m (by simp [hm]) hm0
      refine ⟨h8, ?_⟩
      have : m ≠ n := fun e => h4 (List.mem_filter.2 ⟨by rw [← e]; exact hm, by simpa using c⟩)
      rw [h9]
      simp [this]
theorem filter_all {l : List Int} (h : ∀ n ∈ l, n ≠ 0) : l.filter (fun n => n != 0) = l := List.filter_eq_self.2 fun n hn => by simpa using h n hn
theorem Fit.seen {N : Int} {r : Root} {t : List Int} (h : Fit N r t) : seenF r (r.tables.length + r.maps.length) (r.tables ++ r.maps ++ t) 0 (fun j => decide (j = 0) || decide (j = 1)) = true := by
  have he := h.each
  refine seen_ok r _ _ 0 _ (fun j hj => ?_) ?_ fun n hn h0 => ?_
  · refine Decidable.byContradiction fun c => ?_
    have hlt : j < (r.tables ++ r.maps).length := by rw [List.length_append]; omega
    rw [List.getD_eq_getElem?_getD, List.getElem?_append_left hlt, List.getElem?_eq_getElem hlt] at hj
    have := he _ (List.getElem_mem hlt)
    simp only [Option.getD_some] at hj
    omega
  · rw [List.filter_append, List.filter_append, filter_all (l := r.tables) (fun n hn => by have := he n (List.mem_append.2 (.inl hn)); omega), filter_all (l := r.maps) (fun n hn => by have := he n (List.mem_append.2 (.inr hn)); omega), List.append_assoc]
    exact h.nodup
  · have hN : 2 ≤ n ∧ n < N := by
      rcases List.mem_append.1 hn with q | q
      · exact he n q
      · rcases h.ent n q with q | q
        · exact absurd q h0
        · exact q
    rw [h.blocks]
    refine ⟨hN.2, ?_⟩
    have h2 : n ≠ 1 := by omega
    simp [h0, h2]
theorem Fit.right {N : Int} {r : Root} {t : List Int} (h : Fit N r t) : right r t (usedL r t) = true := by
  have hr := check_range h.check
  have hlen := h.len
  unfold Sh.right
  rw [if_neg, if_neg (by rw [h.seen]; simp)]
  · exact decide_eq_true rfl
  · rintro (q | q | q)
    · exact q hlen
    · have hl := h.last (by omega)
      rw [show t.length - 1 = r.next.toNat by omega] at hl
      exact hl q.2
    · exact h.start q.1 q.2
end Go.Proofs.YtplkndmkchpcdaaGreat.Sh
end
section
namespace Go.Proofs.YtplkndmkchpcdaaGreat.Sh
open Go.RowKit MapFn Disk Page Num Bitset
set_option maxRecDepth 100000
structure Same1 (P : Int → Prop) (D E : DiskSt) : Prop where
  blocks : E.blocks = D.blocks
  safe : E.safe = D.safe
  loose : ∀ n, ¬ P n → E.loose n = D.loose n
  never : D.fails = -1 → E.fails = -1
theorem Same1.get {P : Int → Prop} {D E : DiskSt} (h : Same1 P D E) {n : Int} (hn : ¬ P n) : E.get n = D.get n := by
  unfold DiskSt.get
  rw [h.safe, h.loose n hn]
theorem Same1.refl (P : Int → Prop) (D : DiskSt) : Same1 P D D := ⟨rfl, rfl, fun _ _ => rfl, fun h => h⟩
theorem Same1.trans {P : Int → Prop} {D E F : DiskSt} (h : Same1 P D E) (k : Same1 P E F) : Same1 P D F :=
  ⟨k.blocks.trans h.blocks, k.safe.trans h.safe, fun n hn => (k.loose n hn).trans (h.loose n hn), fun q => k.never (h.never q)⟩
theorem Same1.mono {P Q : Int → Prop} {D E : DiskSt} (h : Same1 P D E) (hq : ∀ n, P n → Q n) : Same1 Q D E :=
  ⟨h.blocks, h.safe, fun n hn => h.loose n fun q => hn (hq n q), h.never⟩
structure WroteAt (D E : DiskSt) (n : Int) (l : List Int) : Prop where
  up : E.down = false
  get : E.get n = l
  loose : E.loose n = some l
theorem wrote_get (D : DiskSt) (n : Int) (l : List Int) : (D.wrote n l).get n = l ∧ (D.wrote n l).loose n = some l ∧ ∀ m, m ≠ n → (D.wrote n l).loose m = D.loose m := by
  have h1 : (D.wrote n l).loose n = some l := by simp [DiskSt.wrote, upd]
  refine ⟨?_, h1, fun m hm => by simp [DiskSt.wrote, upd, hm]⟩
  unfold DiskSt.get
  rw [h1]
  rfl
theorem write_gen {D : DiskSt} {n : Int} {l : List Int} (hd : D.down = false) (h0 : 0 ≤ n) (h1 : n < D.blocks) (hl : l.length = 256) :
    Same1 (fun m => m = n) D (D.write n l).1 ∧ (((D.write n l).2 = 0 ∧ WroteAt D (D.write n l).1 n l) ∨ ((D.write n l).2 = 11 ∧ (D.write n l).1.down = true ∧ D.fails ≠ -1)) := by
  have ha : D.at_ n = 0 := by
    unfold DiskSt.at_
    rw [hd, if_neg (by simp), if_neg (by omega)]
  have e : D.write n l = D.step (·.wrote n l) := by
    unfold DiskSt.write
    rw [ha, if_neg (by simp), if_neg (by simpa using hl)]
  rw [e]
  unfold DiskSt.step
  by_cases c1 : D.fails = -1
  · rw [if_pos c1]
    obtain ⟨g1, g2, g3⟩ := wrote_get D.op n l
    exact ⟨⟨rfl, rfl, fun m hm => g3 m hm, fun _ => c1⟩, .inl ⟨rfl, hd, g1, g2⟩⟩
  · rw [if_neg c1]
    by_cases c2 : D.fails = 0
    · rw [if_pos c2]
      refine ⟨?_, .inr ⟨rfl, rfl, c1⟩⟩
      by_cases c3 : D.done = true
      · rw [if_pos c3]
        obtain ⟨g1, g2, g3⟩ := wrote_get D.op.fail1 n l
        exact ⟨rfl, rfl, fun m hm => g3 m hm, fun q => absurd q c1⟩
      · rw [if_neg c3]
        exact ⟨rfl, rfl, fun m hm => rfl, fun q => absurd q c1⟩
    · rw [if_neg c2]
      obtain ⟨g1, g2, g3⟩ := wrote_get D.op.fail1 n l
      exact ⟨⟨rfl, rfl, fun m hm => g3 m hm, fun q => absurd q c1⟩, .inl ⟨rfl, hd, g1, g2⟩⟩
theorem settled_get (D : DiskSt) (n : Int) : D.settled.get n = D.get n := by
  unfold DiskSt.get DiskSt.settled mergeM
  simp only
  cases D.loose n <;> rfl
structure Synced (D E : DiskSt) : Prop where
  up : E.down = false
  loose : ∀ n, E.loose n = none
theorem sync_gen {D : DiskSt} (hd : D.down = false) :
    ((D.sync).1.blocks = D.blocks ∧ (∀ n, (D.sync).1.get n = D.get n) ∧ (D.fails = -1 → (D.sync).1.fails = -1)) ∧
    (((D.sync).2 = 0 ∧ Synced D (D.sync).1) ∨ ((D.sync).2 = 11 ∧ (D.sync).1.down = true ∧ D.fails ≠ -1 ∧ ((∀ n, (D.sync).1.loose n = none) ∨ ((D.sync).1.safe = D.safe ∧ (D.sync).1.loose = D.loose)))) := by
  have e : D.sync = D.step DiskSt.settled := by
    unfold DiskSt.sync DiskSt.asked
    rw [hd]
    simp
  rw [e]
  unfold DiskSt.step
  by_cases c1 : D.fails = -1
  · rw [if_pos c1]
    exact ⟨⟨rfl, fun n => settled_get D.op n, fun _ => c1⟩, .inl ⟨rfl, hd, fun n => rfl⟩⟩
  · rw [if_neg c1]
    by_cases c2 : D.fails = 0
    · rw [if_pos c2]
      by_cases c3 : D.done = true
      · rw [if_pos c3]
        exact ⟨⟨rfl, fun n => settled_get D.op.fail1 n, fun q => absurd q c1⟩, .inr ⟨rfl, rfl, c1, .inl fun n => rfl⟩⟩
      · rw [if_neg c3]
        exact ⟨⟨rfl, fun n => rfl, fun q => absurd q c1⟩, .inr ⟨rfl, rfl, c1, .inr ⟨rfl, rfl⟩⟩⟩
    · rw [if_neg c2]
      exact ⟨⟨rfl, fun n => settled_get D.op.fail1 n, fun q => absurd q c1⟩, .inl ⟨rfl, hd, fun n => rfl⟩⟩
structure Inv (N : Int) (s : Sh) : Prop where
  bad : s.bad = false
  up : s.D.down = false
  blocks : s.D.blocks = N
  fit : Fit N s.root s.was
  hold : Hold s.D.get s.root s.was
  used : s.used = usedL s.root s.was
  len : 0 < s.table.length ∧ s.table.length ≤ 3001
  zero : s.table.getD 0 0 = 0
  last : 1 < s.table.length → s.table.getD (s.table.length - 1) 0 ≠ 0
  ent : ∀ i, s.table.getD i 0 ≠ 0 → ∃ n : Nat, s.table.getD i 0 = (n : Int) ∧ 2 ≤ n ∧ (n : Int) < N ∧ (hasN s.used n || hasN s.fresh n) = true
  inj : ∀ i j, s.table.getD i 0 ≠ 0 → s.table.getD j 0 = s.table.getD i 0 → j = i
  page : ∀ i : Nat, s.table.getD i 0 ≠ 0 → PageAt s.D.get i (s.table.getD i 0)
  freshB : Bytes s.fresh ∧ s.fresh.length = (emptyB N).length
  fresh : ∀ n : Nat, hasN s.fresh n = true ↔ (n ≠ 0 ∧ hasN s.used n = false ∧ ∃ i, s.table.getD i 0 = (n : Int))
  start : 0 ≤ s.start ∧ (0 < s.start → s.table.getD s.start.toNat 0 ≠ 0)
  clean : s.dirty = false → s.table = s.was ∧ s.start = s.root.start
  loose : ∀ n : Int, s.D.loose n ≠ none → ¬ Dur s.root s.was n
structure Step (N : Int) (s s' : Sh) : Prop where
  inv : Inv N s'
  root : s'.root = s.root
  was : s'.was = s.was
  get : ∀ n, Dur s.root s.was n → s'.D.get n = s.D.get n
  never : s.D.fails = -1 → s'.D.fails = -1
structure Lost (s s' : Sh) : Prop where
  bad : s'.bad = true
  down : s'.D.down = true
  same : Same1 (fun n => ¬ Dur s.root s.was n) s.D s'.D
  may : s.D.fails ≠ -1
theorem Step.refl {N : Int} {s : Sh} (h : Inv N s) : Step N s s := ⟨h, rfl, rfl, fun _ _ => rfl, fun h => h⟩
theorem Step.trans {N : Int} {a b c : Sh} (h : Step N a b) (k : Step N b c) : Step N a c :=
  ⟨k.inv, k.root.trans h.root, k.was.trans h.was, fun n hn => (k.get n (by rw [h.root, h.was]; exact hn)).trans (h.get n hn), fun q => k.never (h.never q)⟩
theorem Inv.notdur {N : Int} {s : Sh} (h : Inv N s) {n : Nat} (hn : hasN s.used n = false) : ¬ Dur s.root s.was n := by
  intro q
  rw [← h.fit.dur n, ← h.used, hn] at q
  cases q
theorem Inv.usedB {N : Int} {s : Sh} (h : Inv N s) : Bytes s.used ∧ s.used.length = (emptyB N).length := by
  rw [h.used]
  exact ⟨h.fit.used.1, h.fit.used.2.1⟩
theorem Inv.taken {N : Int} {s : Sh} (h : Inv N s) (n : Nat) : hasN s.taken n = (hasN s.used n || hasN s.fresh n) := taken_has h.usedB.1 h.freshB.1 n
theorem Inv.low {N : Int} {s : Sh} (h : Inv N s) {n : Nat} (hn : (hasN s.used n || hasN s.fresh n) = false) : 2 ≤ n := by
  have h1 : hasN s.used n = false := (Bool.or_eq_false_iff.1 hn).1
  have := h.notdur h1
  refine Decidable.byContradiction fun c => this ?_
  rcases (by omega : n = 0 ∨ n = 1) with rfl | rfl
  · exact .inl rfl
  · exact .inr (.inl rfl)
theorem wr_gen {N : Int} {s : Sh} (hb : s.bad = false) (hu : s.D.down = false) (hN : s.D.blocks = N) {n : Int} (h0 : 0 ≤ n) (h1 : n < N) {l : List Int} (hl : l.length = 256) :
    ∃ D, Same1 (fun m => m = n) s.D D ∧ ((s.wr n l = ({ s with D := D }, 0) ∧ WroteAt s.D D n l) ∨ (s.wr n l = ({ s with D := D, bad := true }, 11) ∧ D.down = true ∧ s.D.fails ≠ -1)) := by
  obtain ⟨h2, h3⟩ := write_gen hu h0 (by rw [hN]; exact h1) hl
  refine ⟨_, h2, ?_⟩
  rcases h3 with ⟨e, h3⟩ | ⟨e, h3, h4⟩
  · refine .inl ⟨?_, h3⟩
    unfold Sh.wr Sh.done
    rw [e]
    simp
  · refine .inr ⟨?_, h3, h4⟩
    unfold Sh.wr Sh.done
    rw [e]
    simp
theorem sealE_range {kind id : Int} {n : Nat} (h : sealE kind id n = 0) : 0 ≤ id ∧ id ≤ 3000 ∧ n ≤ 246 := ⟨(sealE_of h).1, (sealE_of h).2, sealE_len h⟩
theorem Inv.place {N : Int} {s : Sh} (h : Inv N s) {id n : Nat} {k : Int} {b : List Int} (h1 : 1 ≤ id) (hse : sealE k id b.length = 0) (hb : Bytes b) (hn2 : 2 ≤ n) (hnN : (n : Int) < N)
    (hnew : ((hasN s.used n || hasN s.fresh n) = false ∧ (s.table.getD id 0 = 0 ∨ ∃ m : Nat, s.table.getD id 0 = (m : Int) ∧ hasN s.used m = true)) ∨ (s.table.getD id 0 = (n : Int) ∧ hasN s.fresh n = true)) :
    ((s.place id n (sealL k id b)).2 = 0 ∧ Step N s (s.place id n (sealL k id b)).1 ∧ (s.place id n (sealL k id b)).1.table = (s.put id n).table ∧ (s.place id n (sealL k id b)).1.start = s.start ∧ (s.place id n (sealL k id b)).1.D.get n = sealL k id b ∧ ∀ m : Int, m ≠ n → (s.place id n (sealL k id b)).1.D.get m = s.D.get m) ∨
    ((s.place id n (sealL k id b)).2 = 11 ∧ Lost s (s.place id n (sealL k id b)).1) := by
  have hun : hasN s.used n = false := by
    rcases hnew with q | q
    · exact (Bool.or_eq_false_iff.1 q.1).1
    · exact ((h.fresh n).1 q.2).2.1
  have hnd := h.notdur hun
  have hid := sealE_range hse
  obtain ⟨D, hs, hw⟩ := wr_gen h.bad h.up h.blocks (n := (n : Int)) (by omega) hnN (sealL_len k id b hid.2.2)
  have hget : ∀ m : Int, m ≠ n → D.get m = s.D.get m := fun m hm => hs.get hm
  rcases hw with ⟨e, hw⟩ | ⟨e, hw1, hw2⟩
  · left
    have ep : s.place id n (sealL k id b) = ({ ({ s with D := D } : Sh).put id n with fresh := withL s.fresh n true }, 0) := by
      unfold Sh.place
      rw [e, if_neg (by simp)]
    rw [ep]
    have hpg := put_get s (id := id) (n : Int)
    have hpe := put_ends s (id := id) (n : Int)
    have hT : ∀ D', (({ s with D := D' } : Sh).put id n).table = (s.put id n).table := fun _ => rfl
    generalize hTe : (s.put id n).table = T at hpg hpe hT
    have hfb := withL_by h.freshB.1 (n : Int) true
    have hroom := clamp_room h.fit.range.1 h.fit.range.2
    have hfh : ∀ j : Nat, hasN (withL s.fresh n true) j = if (j : Int) = n then true else hasN s.fresh j := fun j => withL_has h.freshB.1 (by omega) (by rw [h.freshB.2]; omega) true j
    have hother : ∀ i, i ≠ id → s.table.getD i 0 ≠ 0 → s.table.getD i 0 ≠ n := fun i hi h0 q => by
      rcases hnew with ⟨q1, _⟩ | ⟨q1, _⟩
      · obtain ⟨m, e1, _, _, e4⟩ := h.ent i h0
        rw [q] at e1
        have : n = m := by omega
        subst this
        rw [q1] at e4
        cases e4
      · exact hi (h.inj id i (by rw [q1]; omega) (by rw [q, q1]))
    have hinv : Inv N ({ ({ s with D := D } : Sh).put id n with fresh := withL s.fresh n true } : Sh) := by
      refine ⟨h.bad, hw.up, hs.blocks.trans h.blocks, h.fit, h.hold.same fun m hm => hget m fun q => hnd (q ▸ hm), h.used, ⟨?_, ?_⟩, ?_, ?_, ?_, ?_, ?_, ⟨hfb.1, hfb.2.trans h.freshB.2⟩, ?_, ⟨h.start.1, ?_⟩, ?_, ?_⟩
      · show 0 < (({ s with D := D } : Sh).put id n).table.length
        rw [hT]; exact hpe.1
      · show (({ s with D := D } : Sh).put id n).table.length ≤ 3001
        rw [hT]
        refine Decidable.byContradiction fun c => ?_
        have := hpe.2 (by omega)
        rw [hpg] at this
        split at this
        · have := hid.2.1; omega
        · have h5 := (mem_getD this).2
          have := h.len.2
          omega
      · show (({ s with D := D } : Sh).put id n).table.getD 0 0 = 0
        rw [hT, hpg, if_neg (by omega)]
        exact h.zero
      · show 1 < (({ s with D := D } : Sh).put id n).table.length → (({ s with D := D } : Sh).put id n).table.getD _ 0 ≠ 0
        rw [hT]; exact hpe.2
      · show ∀ i, (({ s with D := D } : Sh).put id n).table.getD i 0 ≠ 0 → ∃ m : Nat, (({ s with D := D } : Sh).put id n).table.getD i 0 = (m : Int) ∧ 2 ≤ m ∧ (m : Int) < N ∧ (hasN s.used m || hasN (withL s.fresh n true) m) = true
        rw [hT]
        intro i hi
        rw [hpg] at hi ⊢
        by_cases c : i = id
        · rw [if_pos c]
          exact ⟨n, rfl, hn2, hnN, by rw [hfh n, if_pos rfl]; simp⟩
        · rw [if_neg c] at hi ⊢
          obtain ⟨m, e1, e2, e3, e4⟩ := h.ent i hi
          refine ⟨m, e1, e2, e3, ?_⟩
          rw [hfh m]
          split
          · simp
          · exact e4
      · show ∀ i j, (({ s with D := D } : Sh).put id n).table.getD i 0 ≠ 0 → (({ s with D := D } : Sh).put id n).table.getD j 0 = (({ s with D := D } : Sh).put id n).table.getD i 0 → j = i
        rw [hT]
        intro i j hi hj
        rw [hpg] at hi hj
        rw [hpg] at hj
        by_cases c : i = id
        · by_cases d : j = id
          · omega
          · rw [if_pos c, if_neg d] at hj
            exact absurd hj (hother j d (by rw [hj]; omega))
        · rw [if_neg c] at hi hj
          by_cases d : j = id
          · rw [if_pos d] at hj
            exact absurd hj.symm (hother i c hi)
          · rw [if_neg d] at hj
            exact h.inj i j hi hj
      · show ∀ i : Nat, (({ s with D := D } : Sh).put id n).table.getD i 0 ≠ 0 → PageAt D.get i ((({ s with D := D } : Sh).put id n).table.getD i 0)
        rw [hT]
        intro i hi
        rw [hpg] at hi ⊢
        by_cases c : i = id
        · rw [if_pos c, c]
          exact ⟨k, b, hse, hb, hw.get⟩
        · rw [if_neg c] at hi ⊢
          obtain ⟨k', b', e1, e2, e3⟩ := h.page i hi
          exact ⟨k', b', e1, e2, (hget _ (hother i c hi)).trans e3⟩
      · show ∀ m : Nat, hasN (withL s.fresh n true) m = true ↔ (m ≠ 0 ∧ hasN s.used m = false ∧ ∃ i, (({ s with D := D } : Sh).put id n).table.getD i 0 = (m : Int))
        rw [hT]
        intro m
        rw [hfh m]
        by_cases c : (m : Int) = n
        · have : m = n := by omega
          subst this
          rw [if_pos rfl]
          exact ⟨fun _ => ⟨by omega, hun, id, by rw [hpg, if_pos rfl]⟩, fun _ => rfl⟩
        · rw [if_neg c, h.fresh m]
          constructor
          · rintro ⟨q1, q2, i, q3⟩
            refine ⟨q1, q2, i, ?_⟩
            rw [hpg, if_neg ?_]
            · exact q3
            · rintro rfl
              rcases hnew with ⟨_, q | ⟨m2, q, q4⟩⟩ | ⟨q, _⟩
              · rw [q] at q3; omega
              · rw [q] at q3
                have : m2 = m := by omega
                subst this
                rw [q2] at q4
                cases q4
              · rw [q] at q3; omega
          · rintro ⟨q1, q2, i, q3⟩
            refine ⟨q1, q2, i, ?_⟩
            rw [hpg] at q3
            split at q3
            · exact absurd q3.symm c
            · exact q3
      · show 0 < s.start → (({ s with D := D } : Sh).put id n).table.getD s.start.toNat 0 ≠ 0
        rw [hT]
        intro q
        rw [hpg]
        split
        · omega
        · exact h.start.2 q
      · intro q
        exact absurd (show true = false from q) (by simp)
      · show ∀ m : Int, D.loose m ≠ none → ¬ Dur s.root s.was m
        intro m hm
        by_cases c : m = n
        · rw [c]; exact hnd
        · rw [hs.loose m c] at hm
          exact h.loose m hm
    refine ⟨rfl, ⟨hinv, rfl, rfl, fun m hm => hget m fun q => hnd (q ▸ hm), hs.never⟩, hT D, rfl, hw.get, hget⟩
  · right
    have ep : s.place id n (sealL k id b) = ({ s with D := D, bad := true }, 11) := by
      unfold Sh.place
      rw [e, if_pos (by simp)]
    rw [ep]
    exact ⟨rfl, rfl, hw1, hs.mono fun m hm => by rw [hm]; exact hnd, hw2⟩
theorem Inv.alive {N : Int} {s : Sh} (h : Inv N s) : s.alive = 0 := by unfold Sh.alive; rw [h.bad]; rfl
theorem block_some {s : Sh} {id : Int} (h : ¬ (s.block id).2 ≠ 0) : ∃ j : Nat, id = (j : Int) ∧ 1 ≤ j ∧ j < s.table.length ∧ s.table.getD j 0 ≠ 0 ∧ (s.block id).1 = s.table.getD j 0 := by
  have h := Decidable.not_not.1 h
  unfold Sh.block at h ⊢
  split at h
  · rename_i c
    exact absurd h c
  · rename_i c
    split at h
    · cases h
    · rename_i c2
      rw [if_neg c, if_neg c2]
      exact ⟨id.toNat, by omega, by omega, by omega, fun q => c2 (.inr (.inr q)), rfl⟩
theorem free_step {N : Int} {s : Sh} (h : Inv N s) (id : Int) : Step N s (s.free id).1 := by
  unfold Sh.free
  split
  · exact Step.refl h
  · rename_i hbl
    obtain ⟨j, rfl, j1, j2, j3, j4⟩ := block_some hbl
    obtain ⟨n, e1, e2, e3, e4⟩ := h.ent j j3
    rw [j4, e1]
    split
    · exact Step.refl h
    · rename_i hst
      have hpg := put_get s (id := j) (0 : Int)
      have hpe := put_ends s (id := j) (0 : Int)
      have hfb := withL_by h.freshB.1 (n : Int) false
      have hroom := clamp_room h.fit.range.1 h.fit.range.2
      have hfh : ∀ m : Nat, hasN (withL s.fresh n false) m = if (m : Int) = n then false else hasN s.fresh m := fun m => withL_has h.freshB.1 (by omega) (by rw [h.freshB.2]; omega) false m
      have hother : ∀ i, i ≠ j → s.table.getD i 0 ≠ n := fun i hi q => hi (h.inj j i j3 (by rw [q, e1]))
      refine ⟨?_, rfl, rfl, fun _ _ => rfl, fun q => q⟩
      refine ⟨h.bad, h.up, h.blocks, h.fit, h.hold, h.used, ⟨hpe.1, ?_⟩, ?_, hpe.2, ?_, ?_, ?_, ⟨hfb.1, hfb.2.trans h.freshB.2⟩, ?_, ⟨h.start.1, ?_⟩, ?_, h.loose⟩
      · show (s.put j 0).table.length ≤ 3001
        refine Decidable.byContradiction fun c => ?_
        have := hpe.2 (by omega)
        rw [hpg] at this
        split at this
        · exact this rfl
        · have h5 := (mem_getD this).2
          have := h.len.2
          omega
      · show (s.put j 0).table.getD 0 0 = 0
        rw [hpg, if_neg (by omega)]
        exact h.zero
      · show ∀ i, (s.put j 0).table.getD i 0 ≠ 0 → ∃ m : Nat, (s.put j 0).table.getD i 0 = (m : Int) ∧ 2 ≤ m ∧ (m : Int) < N ∧ (hasN s.used m || hasN (withL s.fresh n false) m) = true
        intro i hi
        rw [hpg] at hi ⊢
        by_cases c : i = j
        · rw [if_pos c] at hi
          exact absurd rfl hi
        · rw [if_neg c] at hi ⊢
          obtain ⟨m, f1, f2, f3, f4⟩ := h.ent i hi
          refine ⟨m, f1, f2, f3, ?_⟩
          rw [hfh m, if_neg (fun q => hother i c (by rw [f1, q]))]
          exact f4
      · show ∀ i k, (s.put j 0).table.getD i 0 ≠ 0 → (s.put j 0).table.getD k 0 = (s.put j 0).table.getD i 0 → k = i
        intro i k hi hk
        rw [hpg] at hi hk
        rw [hpg] at hk
        by_cases c : i = j
        · rw [if_pos c] at hi
          exact absurd rfl hi
        · rw [if_neg c] at hi hk
          by_cases d : k = j
          · rw [if_pos d] at hk
            exact absurd hk.symm hi
          · rw [if_neg d] at hk
            exact h.inj i k hi hk
      · show ∀ i : Nat, (s.put j 0).table.getD i 0 ≠ 0 → PageAt s.D.get i ((s.put j 0).table.getD i 0)
        intro i hi
        rw [hpg] at hi ⊢
        by_cases c : i = j
        · rw [if_pos c] at hi
          exact absurd rfl hi
        · rw [if_neg c] at hi ⊢
          exact h.page i hi
      · show ∀ m : Nat, hasN (withL s.fresh n false) m = true ↔ (m ≠ 0 ∧ hasN s.used m = false ∧ ∃ i, (s.put j 0).table.getD i 0 = (m : Int))
        intro m
        rw [hfh m]
        by_cases c : (m : Int) = n
        · rw [if_pos c]
          refine ⟨fun q => (by cases q), ?_⟩
          rintro ⟨q1, q2, i, q3⟩
          rw [hpg] at q3
          split at q3
          · omega
          · rename_i q4
            exact absurd (q3.trans c) (hother i q4)
        · rw [if_neg c, h.fresh m]
          constructor
          · rintro ⟨q1, q2, i, q3⟩
            refine ⟨q1, q2, i, ?_⟩
            rw [hpg, if_neg ?_]
            · exact q3
            · rintro rfl
              rw [e1] at q3
              omega
          · rintro ⟨q1, q2, i, q3⟩
            refine ⟨q1, q2, i, ?_⟩
            rw [hpg] at q3
            split at q3
            · omega
            · exact q3
      · show 0 < s.start → (s.put j 0).table.getD s.start.toNat 0 ≠ 0
        intro q
        rw [hpg, if_neg (by omega)]
        exact h.start.2 q
      · intro q
        exact absurd (show true = false from q) (by simp)
theorem empty_has (N : Int) (j : Nat) : hasN (emptyB N) j = false := by
  unfold hasN at_ emptyB
  rw [List.getD_eq_getElem?_getD, List.getElem?_replicate]
  split <;> exact zero_bit _
theorem nodup_inj {t : List Int} (h : (t.filter (fun n => n != 0)).Nodup) : ∀ i j, t.getD i 0 ≠ 0 → t.getD j 0 = t.getD i 0 → j = i := by
  intro i j h1 h2
  induction t generalizing i j with
  | nil => simp at h1
  | cons x r ih =>
    by_cases c : x = 0
    · rw [List.filter_cons_of_neg (by simpa using c)] at h
      cases i with
      | zero => simp [c] at h1
      | succ i =>
        cases j with
        | zero => simp at h1 h2; rw [c] at h2; exact absurd h2.symm h1
        | succ j => simp at h1 h2; rw [ih h i j (by simpa using h1) (by simpa using h2)]
    · rw [List.filter_cons_of_pos (by simpa using c)] at h
      obtain ⟨h3, h4⟩ := List.nodup_cons.1 h
      have hmem : ∀ k, r.getD k 0 = x → False := fun k hk => h3 (List.mem_filter.2 ⟨by rw [← hk]; exact (mem_getD (by rw [hk]; exact c)).1, by simpa using c⟩)
      cases i with
      | zero =>
        cases j with
        | zero => rfl
        | succ j => exact (hmem j (by simpa using h2)).elim
      | succ i =>
        cases j with
        | zero => exact (hmem i (by simpa using h2.symm)).elim
        | succ j => rw [ih h4 i j (by simpa using h1) (by simpa using h2)]
theorem fresh_inv {N : Int} {D : DiskSt} {r : Root} {t : List Int} (hd : D.down = false) (hb : D.blocks = N) (hf : Fit N r t) (hh : Hold D.get r t) (hl : ∀ n, D.loose n ≠ none → ¬ Dur r t n) :
    Inv N (⟨D, r, t, usedL r t, t, r.start, emptyB r.blocks, false, false⟩ : Sh) := by
  have hr := check_range hf.check
  have hlen := hf.len
  have hU := hf.used
  have hin : ∀ n : Nat, (n : Int) ∈ t → hasN (usedL r t) n = true := fun n hn => (hf.dur n).2 (.inr (.inr (.inr (.inr hn))))
  refine ⟨rfl, hd, hb, hf, hh, rfl, ⟨hf.pos, by show t.length ≤ 3001; omega⟩, hf.zero, hf.last, ?_, ?_, hh.page, ?_, ?_, ⟨hr.2.2.2.1, hf.start⟩, fun _ => ⟨rfl, rfl⟩, hl⟩
  · show ∀ i, t.getD i 0 ≠ 0 → ∃ n : Nat, t.getD i 0 = (n : Int) ∧ 2 ≤ n ∧ (n : Int) < N ∧ (hasN (usedL r t) n || hasN (emptyB r.blocks) n) = true
    intro i hi
    obtain ⟨hm, _⟩ := mem_getD hi
    rcases hf.ent _ hm with q | q
    · exact absurd q hi
    · refine ⟨(t.getD i 0).toNat, by omega, by omega, by omega, ?_⟩
      rw [hin _ (by rw [show (((t.getD i 0).toNat : Nat) : Int) = t.getD i 0 by omega]; exact hm)]
      rfl
  · show ∀ i j, t.getD i 0 ≠ 0 → t.getD j 0 = t.getD i 0 → j = i
    exact nodup_inj ((List.nodup_append.1 (List.nodup_append.1 hf.nodup).2.1).2.1)
  · show Bytes (emptyB r.blocks) ∧ (emptyB r.blocks).length = (emptyB N).length
    rw [hf.blocks]
    exact ⟨emptyB_bytes N, rfl⟩
  · show ∀ n : Nat, hasN (emptyB r.blocks) n = true ↔ (n ≠ 0 ∧ hasN (usedL r t) n = false ∧ ∃ i, t.getD i 0 = (n : Int))
    intro n
    rw [empty_has]
    refine ⟨fun q => (by cases q), ?_⟩
    rintro ⟨q1, q2, i, q3⟩
    have := hin n (by rw [← q3]; exact (mem_getD (by rw [q3]; omega)).1)
    rw [q2] at this
    cases this
theorem abort_step {N : Int} {s : Sh} (h : Inv N s) : Step N s s.abort.1 ∧ s.abort.2 = 0 ∧ s.abort.1.table = s.was ∧ s.abort.1.start = s.root.start ∧ s.abort.1.D = s.D := by
  unfold Sh.abort
  rw [if_neg (by rw [h.alive]; simp)]
  refine ⟨⟨?_, rfl, rfl, fun _ _ => rfl, fun q => q⟩, rfl, rfl, rfl, rfl⟩
  have := fresh_inv h.up h.blocks h.fit h.hold h.loose
  show Inv N (⟨s.D, s.root, s.was, s.used, s.was, s.root.start, emptyB s.root.blocks, false, s.bad⟩ : Sh)
  rw [h.bad, h.used]
  exact this
end Go.Proofs.YtplkndmkchpcdaaGreat.Sh
end
section
namespace Go.Proofs.YtplkndmkchpcdaaGreat.Sh
open Go.RowKit MapFn Disk Page Num Bitset
set_option maxRecDepth 100000
theorem lay_gen {N kind : Int} (hk : 1 ≤ kind ∧ kind ≤ 5) {bl : List Int} : ∀ (ps : List (List Int)) (i : Nat) (s : Sh), s.bad = false → s.D.down = false → s.D.blocks = N → (∀ p ∈ ps, Bytes p ∧ p.length ≤ 246) → i + ps.length ≤ 3000 →
    ps.length = (bl.drop i).length → (bl.drop i).Nodup → (∀ n ∈ bl.drop i, 0 ≤ n ∧ n < N) →
    ∃ D, Same1 (fun m => m ∈ bl.drop i) s.D D ∧ ((Sh.layF kind bl ps i s = ({ s with D := D }, 0) ∧ D.down = false ∧ Laid D.get kind ps (bl.drop i) i) ∨ (Sh.layF kind bl ps i s = ({ s with D := D, bad := true }, 11) ∧ D.down = true ∧ s.D.fails ≠ -1))
  | [], i, s, hb, hu, hN, hp, hi, hl, hn, hr => by
    have : bl.drop i = [] := List.length_eq_zero_iff.1 hl.symm
    rw [this]
    exact ⟨s.D, Same1.refl _ _, .inl ⟨rfl, hu, trivial⟩⟩
  | p :: ps, i, s, hb, hu, hN, hp, hi, hl, hn, hr => by
    have hlt : i < bl.length := by
      rw [List.length_drop, List.length_cons] at hl
      omega
    have hd : bl.drop i = bl[i] :: bl.drop (i + 1) := List.drop_eq_getElem_cons hlt
    have hg : bl.getD i 0 = bl[i] := getD_lt hlt 0
    obtain ⟨hp1, hp2⟩ := hp p (by simp)
    rw [hd] at hl hn hr
    obtain ⟨hn1, hn2⟩ := List.nodup_cons.1 hn
    obtain ⟨r1, r2⟩ := hr bl[i] List.mem_cons_self
    rw [List.length_cons] at hi
    have hse : sealE kind (i : Int) p.length = 0 := by
      unfold sealE
      rw [if_neg (by omega), if_neg (by omega), if_neg (by omega)]
    obtain ⟨D1, hs, hw⟩ := wr_gen hb hu hN r1 r2 (sealL_len kind i p hp2)
    rw [layF_cons, if_neg (by rw [hse]; simp), hg, hd]
    rcases hw with ⟨e, hw⟩ | ⟨e, hw1, hw2⟩
    · rw [e, if_neg (by simp)]
      obtain ⟨D2, hs2, h2⟩ := lay_gen hk ps (i + 1) { s with D := D1 } hb hw.up (hs.blocks.trans hN) (fun q hq => hp q (by simp [hq])) (by omega) (by rw [List.length_cons, List.length_cons] at hl; omega) hn2 (fun m hm => hr m (List.mem_cons_of_mem _ hm))
      refine ⟨D2, (hs.mono fun m hm => by rw [hm]; exact List.mem_cons_self).trans (hs2.mono fun m hm => List.mem_cons_of_mem _ hm), ?_⟩
      rcases h2 with ⟨e2, h3, h4⟩ | ⟨e2, h3, h4⟩
      · refine .inl ⟨e2, h3, ⟨(hs2.get hn1).trans hw.get, hse, hp1⟩, h4⟩
      · exact .inr ⟨e2, h3, fun q => h4 (hs.never q)⟩
    · rw [e, if_pos (by simp)]
      exact ⟨D1, hs.mono fun m hm => (by rw [hm]; exact List.mem_cons_self), .inr ⟨rfl, hw1, hw2⟩⟩
theorem write_loose {D : DiskSt} {n : Int} {l : List Int} (hd : D.down = false) (h0 : 0 ≤ n) (h1 : n < D.blocks) (hl : l.length = 256) : (D.write n l).1.loose n = D.loose n ∨ (D.write n l).1.loose n = some l := by
  have ha : D.at_ n = 0 := by
    unfold DiskSt.at_
    rw [hd, if_neg (by simp), if_neg (by omega)]
  have e : D.write n l = D.step (·.wrote n l) := by
    unfold DiskSt.write
    rw [ha, if_neg (by simp), if_neg (by simpa using hl)]
  rw [e]
  unfold DiskSt.step
  by_cases c1 : D.fails = -1
  · rw [if_pos c1]
    exact .inr (wrote_get D.op n l).2.1
  · rw [if_neg c1]
    by_cases c2 : D.fails = 0
    · rw [if_pos c2]
      by_cases c3 : D.done = true
      · rw [if_pos c3]
        exact .inr (wrote_get D.op.fail1 n l).2.1
      · rw [if_neg c3]
        exact .inl rfl
    · rw [if_neg c2]
      exact .inr (wrote_get D.op.fail1 n l).2.1
inductive Cut (D E : DiskSt) (r : Root) : Prop
  | none (h1 : E.safe = D.safe) (h2 : E.loose = D.loose)
  | old (h1 : ∀ n, E.loose n = Option.none) (h2 : ∀ n, E.get n = D.get n)
  | half (h1 : ∀ n, n ≠ r.epoch % 2 → E.loose n = Option.none) (h2 : E.loose (r.epoch % 2) = some r.bytes) (h3 : ∀ n, (E.safe n).getD zeros = D.get n)
  | new (h1 : ∀ n, E.loose n = Option.none) (h2 : E.get (r.epoch % 2) = r.bytes) (h3 : ∀ n, n ≠ r.epoch % 2 → E.get n = D.get n)
structure Crowned (D E : DiskSt) (r : Root) : Prop where
  up : E.down = false
  loose : ∀ n, E.loose n = none
  slot : E.get (r.epoch % 2) = r.bytes
  get : ∀ n, n ≠ r.epoch % 2 → E.get n = D.get n
theorem get_safe {D : DiskSt} {n : Int} (h : D.loose n = none) : D.get n = (D.safe n).getD zeros := by unfold DiskSt.get; rw [h]; rfl
theorem shsync_gen {s : Sh} (hb : s.bad = false) (hu : s.D.down = false) :
    ∃ D, (D.blocks = s.D.blocks ∧ (∀ n, D.get n = s.D.get n) ∧ (s.D.fails = -1 → D.fails = -1)) ∧ ((s.sync = ({ s with D := D }, 0) ∧ Synced s.D D) ∨ (s.sync = ({ s with D := D, bad := true }, 11) ∧ D.down = true ∧ s.D.fails ≠ -1 ∧ ((∀ n, D.loose n = none) ∨ (D.safe = s.D.safe ∧ D.loose = s.D.loose)))) := by
  obtain ⟨h1, h2⟩ := sync_gen hu
  refine ⟨_, h1, ?_⟩
  rcases h2 with ⟨e, h2⟩ | ⟨e, h2⟩
  · refine .inl ⟨?_, h2⟩
    unfold Sh.sync Sh.done
    rw [e]
    simp
  · refine .inr ⟨?_, h2⟩
    unfold Sh.sync Sh.done
    rw [e]
    simp
theorem crown_gen {N : Int} {s : Sh} {r : Root} (hb : s.bad = false) (hu : s.D.down = false) (hN : s.D.blocks = N) (h2 : 2 ≤ N) (hr : r.check = 0) :
    ∃ D, (D.blocks = N ∧ (s.D.fails = -1 → D.fails = -1)) ∧ ((s.crown r = ({ s with D := D }, 0) ∧ Crowned s.D D r) ∨ (s.crown r = ({ s with D := D, bad := true }, 11) ∧ D.down = true ∧ s.D.fails ≠ -1 ∧ Cut s.D D r)) := by
  have hp : r.epoch % 2 = 0 ∨ r.epoch % 2 = 1 := by omega
  obtain ⟨D1, ⟨a1, a2, a3⟩, hS⟩ := shsync_gen hb hu
  unfold Sh.crown
  rcases hS with ⟨e, hS⟩ | ⟨e, b1, b2, b3⟩
  · rw [e, if_neg (by simp), if_neg (by rw [hr]; simp)]
    obtain ⟨D2, hs2, hw⟩ := wr_gen (s := { s with D := D1 }) hb hS.up (a1.trans hN) (n := r.epoch % 2) (by omega) (by omega) (bytes_len hr)
    have hnone : ∀ n, n ≠ r.epoch % 2 → D2.loose n = none := fun n hn => (hs2.loose n hn).trans (hS.loose n)
    have hsafe : ∀ n, (D2.safe n).getD zeros = s.D.get n := fun n => by
      rw [hs2.safe, ← a2 n, get_safe (hS.loose n)]
    rcases hw with ⟨e2, hw⟩ | ⟨e2, b1, b2⟩
    · simp only
      rw [e2, if_neg (by simp)]
      obtain ⟨D3, ⟨c1, c2, c3⟩, hS3⟩ := shsync_gen (s := { s with D := D2 }) hb hw.up
      have hslot : D3.get (r.epoch % 2) = r.bytes := (c2 _).trans hw.get
      have hget : ∀ n, n ≠ r.epoch % 2 → D3.get n = s.D.get n := fun n hn => (c2 n).trans ((hs2.get hn).trans (a2 n))
      refine ⟨D3, ⟨c1.trans (hs2.blocks.trans (a1.trans hN)), fun q => c3 (hs2.never (a3 q))⟩, ?_⟩
      rcases hS3 with ⟨e3, hS3⟩ | ⟨e3, d1, d2, d3⟩
      · exact .inl ⟨e3, hS3.up, hS3.loose, hslot, hget⟩
      · refine .inr ⟨e3, d1, fun q => d2 (hs2.never (a3 q)), ?_⟩
        rcases d3 with d3 | ⟨d3, d4⟩
        · exact .new d3 hslot hget
        · exact .half (fun n hn => by rw [d4]; exact hnone n hn) (by rw [d4]; exact hw.loose) (fun n => by rw [d3]; exact hsafe n)
    · simp only
      rw [e2, if_pos (by simp)]
      refine ⟨D2, ⟨hs2.blocks.trans (a1.trans hN), fun q => hs2.never (a3 q)⟩, .inr ⟨rfl, b1, fun q => b2 (a3 q), ?_⟩⟩
      cases hl : D2.loose (r.epoch % 2) with
      | none =>
        have hl2 : ∀ n, D2.loose n = none := fun n => by
          by_cases c : n = r.epoch % 2
          · rw [c]; exact hl
          · exact hnone n c
        exact .old hl2 fun n => by rw [get_safe (hl2 n), hsafe n]
      | some x =>
        have hx : x = r.bytes := by
          have := write_loose (D := D1) (n := r.epoch % 2) (l := r.bytes) hS.up (by omega) (by rw [a1, hN]; omega) (bytes_len hr)
          have e3 : D2 = (D1.write (r.epoch % 2) r.bytes).1 := by
            have := congrArg (fun q => q.1.D) e2
            exact this.symm
          rw [← e3, hl, hS.loose] at this
          rcases this with q | q
          · cases q
          · exact Option.some.inj q
        rw [hx] at hl
        exact .half hnone hl hsafe
  · rw [e, if_pos (by simp)]
    refine ⟨D1, ⟨a1.trans hN, a3⟩, .inr ⟨rfl, b1, b2, ?_⟩⟩
    rcases b3 with b3 | ⟨b3, b4⟩
    · exact .old b3 a2
    · exact .none b3 b4
end Go.Proofs.YtplkndmkchpcdaaGreat.Sh
end
section
namespace Go.Proofs.YtplkndmkchpcdaaGreat.Sh
open Go.RowKit MapFn Disk Page Num Bitset
set_option maxRecDepth 100000
theorem lowF_spec (T : List Int) (B : Int) : ∀ (k f : Nat) (l : List Int), lowF T B k (f : Int) = some l → l.Pairwise (· < ·) ∧ ∀ x ∈ l, ∃ m : Nat, x = (m : Int) ∧ f ≤ m ∧ (m : Int) < B ∧ hasN T m = false
  | 0, f, l, h => by
    cases h
    exact ⟨List.Pairwise.nil, fun x hx => by cases hx⟩
  | k + 1, f, l, h => by
    rw [lowF] at h
    split at h
    · cases h
    · rename_i c
      have c1 : (firstL T f).2 = true := by
        cases e : (firstL T f).2 with
        | true => rfl
        | false => exact absurd (.inl e) c
      obtain ⟨l2, hl2, rfl⟩ := Option.map_eq_some_iff.1 h
      obtain ⟨m, h1, h2, h3, h4⟩ := firstN_spec T _ _ c1
      have e1 : (firstL T f).1 = (m : Int) := h1
      rw [e1] at hl2 c ⊢
      obtain ⟨h5, h6⟩ := lowF_spec T B k (m + 1) l2 hl2
      have hmB : (m : Int) < B := by
        refine Decidable.byContradiction fun q => c (.inr ?_)
        omega
      refine ⟨List.Pairwise.cons (fun x hx => ?_) h5, fun x hx => ?_⟩
      · obtain ⟨j, rfl, hj, _⟩ := h6 x hx
        omega
      · rcases List.mem_cons.1 hx with rfl | hx
        · exact ⟨m, rfl, by have : (f : Int).toNat ≤ m := h2; omega, hmB, h3⟩
        · obtain ⟨j, e, hj, h7, h8⟩ := h6 x hx
          exact ⟨j, e, by have : (f : Int).toNat ≤ m := h2; omega, h7, h8⟩
theorem lowest_spec {s : Sh} {k : Nat} {l : List Int} (h : s.lowest k = some l) : l.Nodup ∧ l.length = k ∧ ∀ x ∈ l, ∃ m : Nat, x = (m : Int) ∧ (m : Int) < s.root.blocks ∧ hasN s.taken m = false := by
  obtain ⟨h1, h2⟩ := lowF_spec s.taken s.root.blocks k 0 l h
  refine ⟨h1.imp fun q => by omega, lowF_len _ _ _ _ _ h, fun x hx => ?_⟩
  obtain ⟨m, e, _, h3, h4⟩ := h2 x hx
  exact ⟨m, e, h3, h4⟩
theorem inj_nodup : ∀ {t : List Int}, (∀ i j, t.getD i 0 ≠ 0 → t.getD j 0 = t.getD i 0 → j = i) → (t.filter (fun n => n != 0)).Nodup
  | [], _ => List.nodup_nil
  | x :: r, h => by
    have hr : (r.filter (fun n => n != 0)).Nodup := inj_nodup fun i j h1 h2 => by
      have := h (i + 1) (j + 1) (by simpa using h1) (by simpa using h2)
      omega
    by_cases c : x = 0
    · rw [List.filter_cons_of_neg (by simpa using c)]
      exact hr
    · rw [List.filter_cons_of_pos (by simpa using c)]
      refine List.nodup_cons.2 ⟨fun q => ?_, hr⟩
      obtain ⟨i, hi, e⟩ := getD_mem (List.mem_filter.1 q).1
      have := h 0 (i + 1) (by simpa using c) (by simpa using e)
      omega
structure Sure (N : Int) (D : DiskSt) (r : Root) (t : List Int) : Prop where
  blocks : D.blocks = N
  fit : Fit N r t
  hold : Hold D.get r t
  loose : ∀ n, D.loose n ≠ none → ¬ Dur r t n
structure Half (N : Int) (D : DiskSt) (r : Root) (t : List Int) (r' : Root) (t' : List Int) : Prop where
  blocks : D.blocks = N
  fit : Fit N r t
  fit' : Fit N r' t'
  epoch : r'.epoch = r.epoch + 1
  loose : ∀ n, n ≠ r'.epoch % 2 → D.loose n = none
  slot : D.loose (r'.epoch % 2) = some r'.bytes
  old : Hold (fun n => (D.safe n).getD zeros) r t
  new : Hold D.get r' t'
def Late (N : Int) (D : DiskSt) (r : Root) (t : List Int) (start : Int) (t' : List Int) : Prop :=
  Sure N D r t ∨ ∃ r' : Root, r'.start = start ∧ (Sure N D r' t' ∨ Half N D r t r' t')
structure Done (N : Int) (s s' : Sh) : Prop where
  inv : Inv N s'
  table : s'.table = s.table
  start : s'.start = s.start
  was : s'.was = s.table
  rstart : s'.root.start = s.start
  dirty : s'.dirty = false
  get : ∀ i, s.table.getD i 0 ≠ 0 → s'.D.get (s.table.getD i 0) = s.D.get (s.table.getD i 0)
  never : s.D.fails = -1 → s'.D.fails = -1
  epoch : s'.root.epoch ≤ s.root.epoch + 1
structure Pages (s s' : Sh) : Prop where
  was : ∀ i, s.was.getD i 0 ≠ 0 → s'.D.get (s.was.getD i 0) = s.D.get (s.was.getD i 0)
  table : ∀ i, s.table.getD i 0 ≠ 0 → s'.D.get (s.table.getD i 0) = s.D.get (s.table.getD i 0)
theorem mapsOf_count (r : Root) (t : List Int) {N : Int} (h : r.blocks = N) : (splitL 246 (usedL r t)).length = mapsOf N := by
  rw [splitL_num, usedL_clamp, mapsOf_num, h]
theorem Inv.free {N : Int} {s : Sh} (h : Inv N s) {k : Nat} {l : List Int} (hl : s.lowest k = some l) : ∀ x ∈ l, (2 ≤ x ∧ x < N) ∧ ¬ Dur s.root s.was x ∧ ∀ i, s.table.getD i 0 ≠ 0 → s.table.getD i 0 ≠ x := by
  intro x hx
  obtain ⟨m, rfl, h1, h2⟩ := (lowest_spec hl).2.2 x hx
  rw [h.taken] at h2
  have h3 := h.low h2
  rw [h.fit.blocks] at h1
  refine ⟨⟨by omega, h1⟩, h.notdur (Bool.or_eq_false_iff.1 h2).1, fun i hi q => ?_⟩
  obtain ⟨n, e1, _, _, e4⟩ := h.ent i hi
  rw [q] at e1
  have : m = n := by omega
  subst this
  rw [h2] at e4
  cases e4
theorem pieces_num (t : List Int) : (splitL 246 (wordsL (t.drop 1))).length = (2 * (t.length - 1) + 245) / 246 := by rw [splitL_num, wordsL_len, List.length_drop]
theorem next_check {N : Int} {s : Sh} (h : Inv N s) {l : List Int} (hl : s.lowest ((splitL 246 (wordsL (s.table.drop 1))).length + mapsOf s.root.blocks) = some l) (hep : s.root.epoch < 1099511627776) : (s.next (splitL 246 (wordsL (s.table.drop 1))).length l).check = 0 := by
  have hN := h.fit.range
  have hlen := h.len
  have hpn := pieces_num s.table
  have hfree := h.free hl
  obtain ⟨l1, l2, l3⟩ := lowest_spec hl
  generalize (splitL 246 (wordsL (s.table.drop 1))).length = P at hl hpn l2 ⊢
  have hm3 := mapsOf_3 N
  have hck := check_range h.fit.check
  have hB : (s.next P l).blocks = N := h.fit.blocks
  have hTM : (s.next P l).tables ++ (s.next P l).maps = l := List.take_append_drop P l
  have hT2 : (s.next P l).tables.length = P := by show (l.take P).length = P; rw [List.length_take]; omega
  have hM2 : (s.next P l).maps.length = mapsOf N := by show (l.drop P).length = mapsOf N; rw [List.length_drop, l2, h.fit.blocks]; omega
  unfold Root.check
  rw [if_neg, if_neg (by omega), if_neg]
  · rw [hTM, hB]
    have : (l.all fun n => inside n 2 (N - 1)) = true := List.all_eq_true.2 fun n hn => by
      have := (hfree n hn).1
      simp [inside]
      omega
    rw [this]
    simp
  · have hst : s.start ≤ (s.table.length : Int) - 1 := by
      rcases Int.lt_or_le 0 s.start with c | c
      · have := (mem_getD (h.start.2 c)).2
        omega
      · omega
    have := h.start.1
    rw [hB]
    show ¬ (inside (s.root.epoch + 1) 0 1099511627776 && inside N 2 4096 && inside ((s.table.length : Int) - 1) 0 3000 && inside s.start 0 ((s.table.length : Int) - 1)) = false
    have e1 : inside (s.root.epoch + 1) 0 1099511627776 = true := by simp [inside]; omega
    have e2 : inside N 2 4096 = true := by simp [inside]; omega
    have e3 : inside ((s.table.length : Int) - 1) 0 3000 = true := by simp [inside]; omega
    have e4 : inside s.start 0 ((s.table.length : Int) - 1) = true := by simp [inside]; omega
    rw [e1, e2, e3, e4]
    simp
theorem Inv.maps {N : Int} {s : Sh} (h : Inv N s) : 1 ≤ mapsOf s.root.blocks := by
  rw [h.fit.blocks, mapsOf_num]
  have := clamp_room h.fit.range.1 h.fit.range.2
  rw [emptyB_len] at this
  omega
theorem commit_gen {N : Int} {s : Sh} (h : Inv N s) : (s.commit.2 ≠ 0 ∧ s.commit.1 = s ∧ (s.lowest ((splitL 246 (wordsL (s.table.drop 1))).length + mapsOf s.root.blocks) = none ∨ 1099511627776 ≤ s.root.epoch)) ∨ (s.commit.2 = 0 ∧ Done N s s.commit.1) ∨ (s.commit.2 ≠ 0 ∧ s.commit.1.bad = true ∧ s.commit.1.D.down = true ∧ s.D.fails ≠ -1 ∧ Late N s.commit.1.D s.root s.was s.start s.table ∧ Pages s s.commit.1) := by
  have hN := h.fit.range
  have hlen := h.len
  unfold Sh.commit
  rw [if_neg (by rw [h.alive]; simp)]
  split
  · rename_i hd
    obtain ⟨h1, h2⟩ := h.clean hd
    exact .inr (.inl ⟨rfl, h, rfl, rfl, h1.symm, h2.symm, hd, fun _ _ => rfl, fun q => q, by show s.root.epoch ≤ _; omega⟩)
  simp only
  split
  · rename_i hnone
    exact .inl ⟨by simp, rfl, .inl hnone⟩
  rename_i hdirty l hl
  split
  · rename_i hepo
    exact .inl ⟨by simp, rfl, .inr hepo⟩
  rename_i hep
  obtain ⟨l1, l2, l3⟩ := lowest_spec hl
  have hpn := pieces_num s.table
  have hcheck := next_check h hl (by omega)
  have hfree := h.free hl
  generalize hps : splitL 246 (wordsL (s.table.drop 1)) = pieces at hl hpn l2 hcheck ⊢
  have hT : (s.next pieces.length l).tables = l.take pieces.length := rfl
  have hM : (s.next pieces.length l).maps = l.drop pieces.length := rfl
  have hE : (s.next pieces.length l).epoch = s.root.epoch + 1 := rfl
  have hB : (s.next pieces.length l).blocks = N := h.fit.blocks
  have hX : (s.next pieces.length l).next = (s.table.length : Int) - 1 := rfl
  have hS : (s.next pieces.length l).start = s.start := rfl
  generalize hr : s.next pieces.length l = r at hT hM hE hB hX hS hcheck ⊢
  have hm3 := mapsOf_3 N
  have hT2 : r.tables.length = pieces.length := by rw [hT, List.length_take]; omega
  have hM2 : r.maps.length = mapsOf N := by rw [hM, List.length_drop, l2, h.fit.blocks]; omega
  have hTM : r.tables ++ r.maps = l := by rw [hT, hM, List.take_append_drop]
  have hck := check_range h.fit.check
  have hnod := inj_nodup h.inj
  have hfit : Fit N r s.table := by
    refine ⟨hcheck, hB, by rw [hX]; omega, h.zero, h.last, fun n hn => ?_, fun q => ?_, ?_⟩
    · by_cases c : n = 0
      · exact .inl c
      · obtain ⟨i, _, e⟩ := getD_mem hn
        obtain ⟨m, e1, e2, e3, _⟩ := h.ent i (by rw [e]; exact c)
        right
        rw [e] at e1
        omega
    · rw [hS] at q ⊢
      exact h.start.2 q
    · rw [← List.append_assoc, hTM]
      refine List.nodup_append.2 ⟨l1, hnod, fun x hx y hy e => ?_⟩
      obtain ⟨i, _, q⟩ := getD_mem (List.mem_filter.1 hy).1
      have hy0 : y ≠ 0 := by simpa using (List.mem_filter.1 hy).2
      exact (hfree x hx).2.2 i (by rw [q]; exact hy0) (by rw [q, e])
  have hlT : ∀ x ∈ r.tables, x ∈ l := fun x hx => by rw [← hTM]; exact List.mem_append.2 (.inl hx)
  have hlM : ∀ x ∈ r.maps, x ∈ l := fun x hx => by rw [← hTM]; exact List.mem_append.2 (.inr hx)
  have hTMn := List.nodup_append.1 (by rw [hTM]; exact l1 : (r.tables ++ r.maps).Nodup)
  obtain ⟨D1, s1, w1⟩ := lay_gen (N := N) (kind := 1) (by omega) (bl := r.tables) pieces 0 s h.bad h.up h.blocks (fun p hp => by rw [← hps] at hp; exact ⟨splitL_bytes (wordsL_bytes _) p hp, splitL_most _ p hp⟩) (by omega) (by rw [List.drop_zero, hT2]) hTMn.1 (fun n hn => by have := (hfree n (hlT n hn)).1; omega)
  rw [List.drop_zero] at s1 w1
  have hdurl : ∀ x ∈ l, ¬ Dur s.root s.was x := fun x hx => (hfree x hx).2.1
  have lateOld : ∀ D, Same1 (fun m => m ∈ l) s.D D → Sure N D s.root s.was := fun D hD =>
    ⟨hD.blocks.trans h.blocks, h.fit, h.hold.same fun n hn => hD.get (fun q => hdurl n q hn), fun n hn q => by
      rw [hD.loose n (fun c => hdurl n c q)] at hn
      exact h.loose n hn q⟩
  have pagesOf : ∀ D, Same1 (fun m => m ∈ l) s.D D → Pages s ({ s with D := D, bad := true } : Sh) := fun D hD =>
    ⟨fun i hi => hD.get fun q => hdurl _ q (.inr (.inr (.inr (.inr (mem_getD hi).1)))), fun i hi => hD.get fun q => (hfree _ q).2.2 i hi rfl⟩
  unfold Sh.lay
  rcases w1 with ⟨e1, u1, L1⟩ | ⟨e1, u1, f1⟩
  · rw [e1, if_neg (by simp)]
    simp only
    have hMlen := mapsOf_count r s.table hB
    obtain ⟨D2, s2, w2⟩ := lay_gen (N := N) (kind := 2) (by omega) (bl := r.maps) (splitL 246 (usedL r s.table)) 0 { s with D := D1 } h.bad u1 (s1.blocks.trans h.blocks) (fun p hp => ⟨splitL_bytes hfit.used.1 p hp, splitL_most _ p hp⟩) (by omega) (by rw [List.drop_zero, hM2, hMlen]) hTMn.2.1 (fun n hn => by have := (hfree n (hlM n hn)).1; omega)
    rw [List.drop_zero] at s2 w2
    have s12 : Same1 (fun m => m ∈ l) s.D D2 := (s1.mono hlT).trans (s2.mono hlM)
    rcases w2 with ⟨e2, u2, L2⟩ | ⟨e2, u2, f2⟩
    · rw [e2, if_neg (by simp)]
      simp only
      obtain ⟨D3, ⟨b3, n3⟩, w3⟩ := crown_gen (N := N) (s := { s with D := D2 }) (r := r) h.bad u2 (s12.blocks.trans h.blocks) hN.1 hcheck
      have hslot : r.epoch % 2 = 0 ∨ r.epoch % 2 = 1 := by omega
      have hnl : ∀ x ∈ l, x ≠ r.epoch % 2 := fun x hx q => by have := (hfree x hx).1; omega
      have L1' : Laid D2.get 1 (splitL 246 (wordsL (s.table.drop 1))) r.tables 0 := by
        rw [hps]
        exact L1.same fun n hn => s2.get fun q => hTMn.2.2 n hn n q rfl
      have hpages : ∀ i, s.table.getD i 0 ≠ 0 → D2.get (s.table.getD i 0) = s.D.get (s.table.getD i 0) := fun i hi => s12.get fun q => (hfree _ q).2.2 i hi rfl
      have hne : ∀ i, s.table.getD i 0 ≠ 0 → s.table.getD i 0 ≠ r.epoch % 2 := fun i hi q => by
        obtain ⟨m, e1, e2, _⟩ := h.ent i hi
        omega
      have holdNew : ∀ g : Int → List Int, g (r.epoch % 2) = r.bytes → (∀ n, n ≠ r.epoch % 2 → g n = D2.get n) → Hold g r s.table := fun g g1 g2 => by
        refine ⟨g1, ?_, L1'.same fun n hn => g2 n (hnl n (hlT n hn)), L2.same fun n hn => g2 n (hnl n (hlM n hn)), fun i hi => ?_⟩
        · rw [g2 _ (by omega), s12.get (fun q => by have := (hfree _ q).1; omega), show 1 - r.epoch % 2 = s.root.epoch % 2 by omega, h.hold.crown]
          exact Other.root h.fit.check (by omega)
        · obtain ⟨k, b, q1, q2, q3⟩ := h.page i hi
          exact ⟨k, b, q1, q2, (g2 _ (hne i hi)).trans ((hpages i hi).trans q3)⟩
      have holdOld : Hold D2.get s.root s.was := h.hold.same fun n hn => s12.get fun q => hdurl n q hn
      rcases w3 with ⟨e3, C⟩ | ⟨e3, u3, f3, C⟩
      · rw [e3, if_neg (by simp)]
        right; left
        refine ⟨rfl, ?_⟩
        have hH := holdNew D3.get C.slot C.get
        have hI := fresh_inv (D := D3) C.up b3 hfit hH (fun n hn => absurd (C.loose n) hn)
        have e4 : (({ s with D := D3 } : Sh).settle r) = (⟨D3, r, s.table, usedL r s.table, s.table, r.start, emptyB r.blocks, false, false⟩ : Sh) := by
          unfold Sh.settle
          simp only [h.bad]
        simp only
        rw [e4]
        exact ⟨hI, rfl, hS, rfl, hS, rfl, fun i hi => (C.get _ (hne i hi)).trans (hpages i hi), fun q => n3 (s12.never q), by show r.epoch ≤ _; omega⟩
      · rw [e3, if_pos (by simp)]
        right; right
        have hwne : ∀ i, s.was.getD i 0 ≠ 0 → s.was.getD i 0 ≠ r.epoch % 2 := fun i hi q => by
          rcases h.fit.ent _ (mem_getD hi).1 with c | c
          · exact hi c
          · omega
        have hp3 : ∀ n, n ≠ r.epoch % 2 → D3.get n = D2.get n := fun n hn => by
          cases C with
          | none c1 c2 => unfold DiskSt.get; rw [c1, c2]
          | old c1 c2 => exact c2 n
          | half c1 c2 c3 => rw [get_safe (c1 n hn), c3]
          | new c1 c2 c3 => exact c3 n hn
        have hpg : Pages s ({ s with D := D3, bad := true } : Sh) := ⟨fun i hi => (hp3 _ (hwne i hi)).trans ((pagesOf D2 s12).was i hi), fun i hi => (hp3 _ (hne i hi)).trans ((pagesOf D2 s12).table i hi)⟩
        refine ⟨by simp, rfl, u3, fun q => f3 (s12.never q), ?_, hpg⟩
        show Late N D3 s.root s.was s.start s.table
        cases C with
        | none c1 c2 =>
          refine .inl ((lateOld D2 s12).blocks ▸ ?_)
          have hg : D3.get = D2.get := by funext n; unfold DiskSt.get; rw [c1, c2]
          have := lateOld D2 s12
          rw [this.blocks]
          exact ⟨b3, this.fit, by rw [hg]; exact this.hold, fun n hn => this.loose n (by rw [← c2]; exact hn)⟩
        | old c1 c2 =>
          refine .inl ⟨b3, h.fit, ?_, fun n hn => absurd (c1 n) hn⟩
          have hg : D3.get = D2.get := funext c2
          rw [hg]
          exact holdOld
        | half c1 c2 c3 =>
          refine .inr ⟨r, hS, .inr ⟨b3, h.fit, hfit, hE, c1, c2, ?_, holdNew D3.get ?_ fun n hn => ?_⟩⟩
          · rw [show (fun n => (D3.safe n).getD zeros) = D2.get from funext c3]
            exact holdOld
          · unfold DiskSt.get; rw [c2]; rfl
          · rw [get_safe (c1 n hn), c3]
        | new c1 c2 c3 =>
          exact .inr ⟨r, hS, .inl ⟨b3, hfit, holdNew D3.get c2 c3, fun n hn => absurd (c1 n) hn⟩⟩
    · rw [e2, if_pos (by simp)]
      exact .inr (.inr ⟨by simp, rfl, u2, fun q => f2 (s1.never q), .inl (lateOld D2 s12), pagesOf D2 s12⟩)
  · rw [e1, if_pos (by simp)]
    exact .inr (.inr ⟨by simp, rfl, u1, f1, .inl (lateOld D1 (s1.mono hlT)), pagesOf D1 (s1.mono hlT)⟩)
theorem format_inv {N : Int} {D : DiskSt} (hd : D.down = false) (hb : D.blocks = N) (hf : D.fails = -1) (h4 : N ≤ 4096) (h3 : ¬ N < 3 + (mapsOf N : Int)) :
    ∃ s, Sh.format D = (s, 0) ∧ Inv N s ∧ s.table = [0] ∧ s.was = [0] ∧ s.start = 0 ∧ s.root.start = 0 ∧ s.D.fails = -1 ∧ s.dirty = false := by
  have hc := firstRoot_check h4 h3
  have hm1 : 0 ≤ (mapsOf N : Int) := by omega
  have hmap : ∀ n ∈ (firstRoot N).maps, 2 ≤ n ∧ n < N := fun n hn => by
    have := check_each hc n (List.mem_append.2 (.inr hn))
    have e : (firstRoot N).blocks = N := rfl
    omega
  have hmn : (firstRoot N).maps.Nodup := by
    show ((List.range (mapsOf N)).map fun i => ((2 + i : Nat) : Int)).Nodup
    refine List.Pairwise.map _ (fun a b q => by omega) List.nodup_range
  have hfit : Fit N (firstRoot N) [0] := by
    refine ⟨hc, rfl, rfl, rfl, fun q => absurd q (by simp), fun n hn => .inl (by simpa using hn), fun q => absurd (show (0 : Int) < 0 from q) (by decide), ?_⟩
    show ([] ++ ((firstRoot N).maps ++ [])).Nodup
    simpa using hmn
  unfold Sh.format
  simp only
  rw [hb, if_neg h3]
  obtain ⟨g1, g2⟩ := write_gen (n := 1) (l := zeros) hd (by omega) (by rw [hb]; omega) (by simp [zeros])
  rcases g2 with ⟨e0, g2⟩ | ⟨_, _, q⟩
  rotate_left
  · exact absurd hf q
  rw [if_neg (by rw [e0]; simp)]
  obtain ⟨D1, s1, w1⟩ := lay_gen (N := N) (kind := 2) (by omega) (bl := (firstRoot N).maps) (splitL 246 (usedL (firstRoot N) [0])) 0 { Sh.over D with D := (D.write 1 zeros).1 } rfl g2.up (g1.blocks.trans hb) (fun p hp => ⟨splitL_bytes hfit.used.1 p hp, splitL_most _ p hp⟩) (by rw [mapsOf_count (N := N) _ _ rfl]; have := mapsOf_3 N; omega) (by rw [List.drop_zero, mapsOf_count (N := N) _ _ rfl]; show mapsOf N = ((List.range (mapsOf N)).map fun i => ((2 + i : Nat) : Int)).length; simp) hmn (fun n hn => by have := hmap n hn; omega)
  rw [List.drop_zero] at s1 w1
  have hfn : (D.write 1 zeros).1.fails = -1 := g1.never hf
  rcases w1 with ⟨e1, u1, L1⟩ | ⟨_, _, q⟩
  rotate_left
  · exact absurd hfn q
  have e1' : ({ Sh.over D with D := (D.write 1 zeros).1 } : Sh).lay 2 (splitL 246 (usedL (firstRoot N) (Sh.over D).table)) (firstRoot N).maps = ({ Sh.over D with D := D1 }, 0) := e1
  rw [e1', if_neg (by simp)]
  simp only
  obtain ⟨D3, ⟨b3, n3⟩, w3⟩ := crown_gen (N := N) (s := { Sh.over D with D := D1 }) (r := firstRoot N) rfl u1 (s1.blocks.trans (g1.blocks.trans hb)) (by omega) hc
  rcases w3 with ⟨e3, C⟩ | ⟨_, _, q, _⟩
  rotate_left
  · exact absurd (s1.never hfn) q
  rw [e3, if_neg (by simp)]
  have hslot : (firstRoot N).epoch % 2 = 0 := rfl
  have hH : Hold D3.get (firstRoot N) [0] := by
    refine ⟨C.slot, ?_, trivial, L1.same fun n hn => C.get n (by have := hmap n hn; omega), fun i hi => ?_⟩
    · rw [C.get _ (by rw [hslot]; decide)]
      show Other 0 (D1.get 1)
      rw [s1.get (fun q => by have := hmap _ q; omega), show (({ Sh.over D with D := (D.write 1 zeros).1 } : Sh).D.get 1) = zeros from g2.get]
      exact Other.zero
    · cases i with
      | zero => simp at hi
      | succ i => simp at hi
  exact ⟨_, rfl, fresh_inv (D := D3) C.up b3 hfit hH (fun n hn => absurd (C.loose n) hn), rfl, rfl, rfl, rfl, n3 (s1.never hfn), rfl⟩
end Go.Proofs.YtplkndmkchpcdaaGreat.Sh
end
section
namespace Go.Proofs.YtplkndmkchpcdaaGreat.Acts
open Go.RowKit Go.Deep Go.ChangeShapes Go.WideShapes YtplkndmkchpcdaaGreatW.PrintWords YtplkndmkchpcdaaGreat.Sum Disk Sh
set_option maxRecDepth 100000
structure DActV where
  kind : Int
  n : Int
  c : Int
  cut : Int
  done : Bool
  fate : List Int
instance : Inhabited DActV := ⟨⟨0, 0, 0, 0, false, []⟩⟩
structure ActV where
  kind : Int
  id : Int
  page : Int
  body : List Int
  d : DActV
instance : Inhabited ActV := ⟨⟨0, 0, 0, [], default⟩⟩
def IsI64 (x : Int) : Prop := -9223372036854775808 ≤ x ∧ x < 9223372036854775808
def IsU8 (x : Int) : Prop := 0 ≤ x ∧ x < 256
def DActV.vals (v : DActV) (A : Option Addr) (c : Nat) : List Value := [.int .u8 v.kind, .int .i64 v.n, .int .u8 v.c, .int .u8 v.cut, .bool v.done, .slice A v.fate.length c]
def ActV.vals (v : ActV) (A : Option Addr) (c : Nat) (A2 : Option Addr) (c2 : Nat) : List Value := [.int .u8 v.kind, .int .i64 v.id, .int .i64 v.page, .slice A v.body.length c] ++ v.d.vals A2 c2
structure DActV.Wf (v : DActV) : Prop where
  kind : IsU8 v.kind
  n : IsI64 v.n
  c : IsU8 v.c
  cut : IsU8 v.cut
  fate : Bytes v.fate
structure ActV.Wf (v : ActV) : Prop where
  kind : IsU8 v.kind
  id : IsI64 v.id
  page : IsI64 v.page
  body : Bytes v.body
  d : v.d.Wf
structure ActAt (W : World) (g o : Nat) (v : ActV) : Prop where
  ex : ∃ A c A2 c2, (∀ j, j < 10 → W.cell? ⟨g, o + j, none⟩ = (v.vals A c A2 c2)[j]?) ∧ InW .u8 W A v.body c ∧ InW .u8 W A2 v.d.fate c2
  wf : v.Wf
theorem spot_none {W : World} {a : Addr} {v : Value} (h : W.cell? a = some v) : a.spot = none := by
  unfold World.cell? at h
  split at h
  · split at h
    · cases h
    · rename_i q
      cases hs : a.spot with
      | none => rfl
      | some y => rw [hs] at q; exact absurd rfl q
  · cases h
theorem wf_u8 {n : Int} (h : (Lit.int .u8 n).wf = true) : IsU8 n := by
  simp only [Lit.wf, Bool.and_eq_true, decide_eq_true_eq] at h
  have h1 : IntKind.u8.min = 0 := rfl
  have h2 : IntKind.u8.max = 255 := rfl
  unfold IsU8
  omega
theorem wf_i64 {n : Int} (h : (Lit.int .i64 n).wf = true) : IsI64 n := by
  simp only [Lit.wf, Bool.and_eq_true, decide_eq_true_eq] at h
  have h1 : IntKind.i64.min = -9223372036854775808 := rfl
  have h2 : IntKind.i64.max = 9223372036854775807 := rfl
  unfold IsI64
  omega
section
variable {H : Type} {enc : TypeId × Value → H} {W : World} {base : Nat} {spare : Nat → Bool} {held : Bool}
theorem c5 : Tryz.prog.cellsOf 5 = 1 := by kernel_rfl
theorem c3 : Tryz.prog.cellsOf 3 = 1 := by kernel_rfl
theorem c4 : Tryz.prog.cellsOf 4 = 1 := by kernel_rfl
theorem c22 : Tryz.prog.cellsOf 22 = 1 := by kernel_rfl
theorem c47 : Tryz.prog.cellsOf 47 = 6 := by kernel_rfl
theorem open_bytes {fuel : Nat} {v : Value} {x : DataW H × List MemPlace} (h : DataW.trod enc Tryz.prog W base spare held fuel 22 [v] = some x) :
    ∃ A l c, v = .slice A l.length c ∧ InW .u8 W A l c ∧ Bytes l := by
  rcases open_ints Tryz.underlying22 Tryz.underlying5 c5 h with ⟨hc, _⟩ | ⟨a, len, cap, zs, hc, _, hl, hm, hz, _, hcell, hwf⟩
  · injection hc with hv _
    exact ⟨none, [], 0, hv, (In.nil _ _).wide, fun y hy => by cases hy⟩
  · injection hc with hv _
    have hzl : len ≤ zs.length := by rw [hz]; split <;> omega
    have hlen : (zs.take len).length = len := by rw [List.length_take]; omega
    have hmx : maxLen ≤ 9223372036854775807 := by decide
    refine ⟨some a, zs.take len, cap, by rw [hlen]; exact hv, ⟨?_, by rw [hlen]; exact hl, fun b hb hne => ?_⟩, fun y hy => wf_u8 (hwf y (List.mem_of_mem_take hy))⟩
    · refine Kd.C_of_reads (enc := Value.int .u8) (d := (0 : Int)) (h1 := fun _ => rfl) ⟨rfl, by rw [hlen]; omega, fun _ => ⟨_, rfl, fun j hj => ?_⟩⟩
      rw [hlen] at hj
      rw [hcell j (by omega)]
      simp [List.getD_eq_getElem?_getD, List.getElem?_take, hj]
    · cases hb
      have hpos : 0 < (zs.take len).length := List.length_pos_iff.2 hne
      have := hcell 0 (by omega)
      rw [← Sh.add_block a 0]
      exact lt_of_cell this
theorem one_of {l : List Value} {f : Nat} {t : TypeId} {x : DataW H × List MemPlace} {o : Option (DataW H × List MemPlace)} (h : DataW.trod enc Tryz.prog W base spare held f t l = o) (ho : o = some x) : DataW.trod enc Tryz.prog W base spare held f t l = some x := h.trans ho
theorem open_dact {fuel : Nat} {cs : List Value} {x : DataW H × List MemPlace} (h : DataW.trod enc Tryz.prog W base spare held fuel 47 cs = some x) :
    ∃ (v : DActV) (A : Option Addr) (c : Nat), cs = v.vals A c ∧ InW .u8 W A v.fate c ∧ v.Wf := by
  obtain ⟨xs, n, _, _, hcl, hxl, hf⟩ := DataW.trod_struct Tryz.underlying47 h
  rw [c47] at hcl
  match xs, hxl, cs, hcl with
  | [y0, y1, y2, y3, y4, y5], _, [v0, v1, v2, v3, v4, v5], _ =>
    have g0 := hf 0 _ rfl
    have g1 := hf 1 _ rfl
    have g2 := hf 2 _ rfl
    have g3 := hf 3 _ rfl
    have g4 := hf 4 _ rfl
    have g5 := hf 5 _ rfl
    simp only [c5, c3, c4, c22, List.drop_zero, List.drop_succ_cons, List.take_succ_cons, List.take_zero, List.getElem?_cons_zero, List.getElem?_cons_succ] at g0 g1 g2 g3 g4 g5
    obtain ⟨a0, e0, _, w0⟩ := DataW.trod_int Tryz.underlying5 g0
    obtain ⟨a1, e1, _, w1⟩ := DataW.trod_int Tryz.underlying3 g1
    obtain ⟨a2, e2, _, w2⟩ := DataW.trod_int Tryz.underlying5 g2
    obtain ⟨a3, e3, _, w3⟩ := DataW.trod_int Tryz.underlying5 g3
    obtain ⟨a4, e4, _⟩ := DataW.trod_bool Tryz.underlying4 g4
    obtain ⟨A, l, c, e5, hi, hb⟩ := open_bytes g5
    injection e0 with e0 _
    injection e1 with e1 _
    injection e2 with e2 _
    injection e3 with e3 _
    injection e4 with e4 _
    subst e0 e1 e2 e3 e4 e5
    exact ⟨⟨a0, a1, a2, a3, a4, l⟩, A, c, rfl, hi, ⟨wf_u8 w0, wf_i64 w1, wf_u8 w2, wf_u8 w3, hb⟩⟩
end
structure ActsAt (W : World) (A : Option Addr) (l : List ActV) : Prop where
  len : l.length ≤ 9223372036854775807
  at_ : ∀ (i : Nat) (hi : i < l.length), ∃ g o, A = some ⟨g, o, none⟩ ∧ ActAt W g (o + i * 10) l[i]
theorem ActAt.below {W W' : World} {g o : Nat} {v : ActV} (h : ActAt W g o v) (hb : Below W.heap.size W W') : ActAt W' g o v := by
  obtain ⟨⟨A, c, A2, c2, h1, h2, h3⟩, hw⟩ := h
  refine ⟨⟨A, c, A2, c2, fun j hj => ?_, h2.below hb, h3.below hb⟩, hw⟩
  have := h1 j hj
  cases hv : (v.vals A c A2 c2)[j]? with
  | none =>
    rw [List.getElem?_eq_none_iff] at hv
    have : (v.vals A c A2 c2).length = 10 := rfl
    omega
  | some y =>
    rw [hv] at this
    exact pw_cell_below hb this
theorem ActsAt.below {W W' : World} {A : Option Addr} {l : List ActV} (h : ActsAt W A l) (hb : Below W.heap.size W W') : ActsAt W' A l := ⟨h.len, fun i hi => by
  obtain ⟨g, o, ha, h⟩ := h.at_ i hi
  exact ⟨g, o, ha, h.below hb⟩⟩
end Go.Proofs.YtplkndmkchpcdaaGreat.Acts
end
section
namespace Go.Proofs.YtplkndmkchpcdaaGreat.Acts
open Go.RowKit YtplkndmkchpcdaaGreatW.PrintWords YtplkndmkchpcdaaGreatW.PrintLast YtplkndmkchpcdaaGreatW.PrintMore MapFn Disk Bitset Page Num Sh
set_option maxHeartbeats 8000000
set_option maxRecDepth 100000
def fewB (l : List ActV) (most : Int) : Bool := decide ((l.length : Int) ≤ most) && l.all fun a => decide (a.body.length ≤ 400)
end Go.Proofs.YtplkndmkchpcdaaGreat.Acts
end
section
namespace Go.Proofs.YtplkndmkchpcdaaGreat.Sh
open Go.RowKit YtplkndmkchpcdaaGreatW.PrintWords YtplkndmkchpcdaaGreatW.PrintLast YtplkndmkchpcdaaGreatW.PrintMore MapFn Disk Bitset Page Num
set_option maxHeartbeats 8000000
set_option maxRecDepth 100000
def T28_9 : Bool × List (List Nat × List Nat) := (true, [([], []), ([], []), ([], []), ([1, 2], [1, 2]), ([3], [3]), ([4], [4]), ([5], [5]), ([], []), ([], []), ([7, 8], [7, 8]), ([9], [9]), ([10], [10]), ([], []), ([12], [12]), ([], []), ([14], [14]), ([15], [15]), ([6, 11, 13, 16], [6, 11, 13, 16]), ([17], [17]), ([0, 18], [0, 18]), ([], []), ([20], [20]), ([19, 21], [19, 21]), ([22, 0, 1, 2, 3, 4, 5, 6, 7, 8, 9, 10, 11, 12, 13, 14, 15, 16, 17, 18, 19, 20, 21, 22], [0, 22])])
def B28_9 : List Nat := [0, 0, 0, 6, 14, 30, 62, 0, 0, 384, 896, 1920, 0, 4096, 0, 16384, 49152, 131070, 262142, 524287, 0, 1048576, 4194303, 8388607]
abbrev byteI (n : Int) : Int := IntKind.u8.wrap n
def imgF : List Int → Sh → List Int → Sh × List Int × Bool
  | [], s, out => (s, out, true)
  | id :: r, s, out =>
    if (s.read id).2.2.2 ≠ 0 then ((s.read id).1, [110, 111, 110, 101], false)
    else imgF r (s.read id).1 (out ++ [byteI (id / 256), byteI id, byteI (s.read id).2.1, byteI (s.read id).2.2.1.length] ++ (s.read id).2.2.1)
def Sh.image (s : Sh) : Sh × List Int :=
  if (imgF s.ids s []).2.2 = false then ((imgF s.ids s []).1, (imgF s.ids s []).2.1)
  else ((imgF s.ids s []).1, (imgF s.ids s []).2.1 ++ [byteI ((imgF s.ids s []).1.start / 256), byteI (imgF s.ids s []).1.start])
theorem Ok.read {s : Sh} (h : Ok s) (id : Int) : Ok (s.read id).1 := by
  have hd : ∀ D, Ok ({ s with D := D } : Sh) := fun D => h.on D
  unfold Sh.read
  split
  · exact h
  · split
    · exact ⟨h.used, h.fresh, h.table, h.was, h.blocks, h.epoch, h.tabs⟩
    · simp only
      split
      · exact hd _
      · exact hd _
end Go.Proofs.YtplkndmkchpcdaaGreat.Sh
end
section
namespace Go.Proofs.YtplkndmkchpcdaaGreat.Sh
open Go.RowKit YtplkndmkchpcdaaGreatW.PrintWords YtplkndmkchpcdaaGreatW.PrintLast YtplkndmkchpcdaaGreatW.PrintMore MapFn Disk Page Num Bitset
set_option maxRecDepth 100000
def imgP (g : Int → List Int) (t : List Int) (id : Int) : List Int :=
  [byteI (id / 256), byteI id, byteI (openL (g (t.getD id.toNat 0))).1, byteI (openL (g (t.getD id.toNat 0))).2.2.1.length] ++ (openL (g (t.getD id.toNat 0))).2.2.1
def imgOf (g : Int → List Int) (t : List Int) (start : Int) : List Int := (idsF t 0).flatMap (imgP g t) ++ [byteI (start / 256), byteI start]
theorem Inv.reads {N : Int} {s : Sh} (h : Inv N s) (k : Int) : Inv N ({ s with D := { s.D with reads := k } } : Sh) :=
  ⟨h.bad, h.up, h.blocks, h.fit, h.hold, h.used, h.len, h.zero, h.last, h.ent, h.inj, h.page, h.freshB, h.fresh, h.start, h.clean, h.loose⟩
theorem Inv.at_ {N : Int} {s : Sh} (h : Inv N s) {n : Int} (h0 : 0 ≤ n) (h1 : n < N) : s.D.at_ n = 0 := by
  unfold DiskSt.at_
  rw [h.up, if_neg (by simp), if_neg (by rw [h.blocks]; omega)]
theorem Inv.read {N : Int} {s : Sh} (h : Inv N s) {j : Nat} (hj : s.table.getD j 0 ≠ 0) :
    s.read (j : Int) = ({ s with D := s.D.read }, (openL (s.D.get (s.table.getD j 0))).1, (openL (s.D.get (s.table.getD j 0))).2.2.1, 0) := by
  obtain ⟨n, e1, e2, e3, _⟩ := h.ent j hj
  obtain ⟨k, b, q1, q2, q3⟩ := h.page j hj
  have hb : s.block (j : Int) = (s.table.getD j 0, 0) := by
    unfold Sh.block
    rw [if_neg (by rw [h.alive]; simp), if_neg, Int.toNat_natCast]
    rintro (c | c | c)
    · have : j = 0 := by omega
      rw [this] at hj
      exact hj h.zero
    · have := (mem_getD hj).2
      omega
    · rw [Int.toNat_natCast] at c
      exact hj c
  unfold Sh.read
  rw [hb]
  simp only
  rw [if_neg (by simp), if_neg (by rw [h.at_ (by omega) (by omega)]; simp), q3, open_seal k j b q2 q1]
  simp
theorem Inv.ok {N : Int} {s : Sh} (h : Inv N s) : Ok s := by
  have hN := h.fit.range
  have hl := clampN_le N
  have hcl := check_len h.fit.check
  have hcr := check_range h.fit.check
  have hw := h.fit.len
  refine ⟨⟨by rw [h.usedB.2, emptyB_len]; exact hl, h.usedB.1⟩, ⟨by rw [h.freshB.2, emptyB_len]; exact hl, h.freshB.1⟩, ⟨h.len.1, h.len.2, fun n hn => ?_⟩, ⟨h.fit.pos, by omega, fun n hn => ?_⟩, ⟨by rw [h.fit.blocks]; omega, by rw [h.fit.blocks]; omega⟩, hcr.1, by omega, by omega⟩
  · by_cases c : n = 0
    · omega
    · obtain ⟨i, _, e⟩ := getD_mem hn
      obtain ⟨m, e1, e2, e3, _⟩ := h.ent i (by rw [e]; exact c)
      omega
  · rcases h.fit.ent n hn with q | q <;> omega
end Go.Proofs.YtplkndmkchpcdaaGreat.Sh
end
section
namespace Go.Proofs.YtplkndmkchpcdaaGreat.Sh
open Go.RowKit YtplkndmkchpcdaaGreatW.PrintWords YtplkndmkchpcdaaGreatW.PrintLast YtplkndmkchpcdaaGreatW.PrintMore MapFn Disk Page Num Bitset
set_option maxRecDepth 100000
theorem firstN_some (l : List Int) {x : Nat} : ∀ d n, n ≤ x → x < n + d → hasN l x = false → (firstN l d n).2 = true ∧ ∃ m : Nat, (firstN l d n).1 = (m : Int) ∧ m ≤ x
  | 0, n, h1, h2, _ => by omega
  | d + 1, n, h1, h2, h3 => by
    rw [firstN]
    by_cases c : hasN l n = true
    · rw [if_pos c]
      have hne : n ≠ x := fun e => by rw [e, h3] at c; cases c
      exact firstN_some l d (n + 1) (by omega) (by omega) h3
    · rw [if_neg c]
      exact ⟨rfl, n, rfl, h1⟩
theorem low_some (T : List Int) (B : Int) : ∀ (k f : Nat) (L : List Nat), L.Nodup → k ≤ L.length → (∀ x ∈ L, f ≤ x ∧ (x : Int) < B ∧ x < 8 * T.length ∧ hasN T x = false) → ∃ l, lowF T B k (f : Int) = some l
  | 0, _, _, _, _, _ => ⟨[], rfl⟩
  | k + 1, f, L, hn, hk, hL => by
    obtain ⟨x, hx⟩ : ∃ x, x ∈ L := by
      cases L with
      | nil => simp at hk
      | cons x r => exact ⟨x, by simp⟩
    have key : ∀ y ∈ L, (firstL T f).2 = true ∧ ∃ m : Nat, (firstL T f).1 = (m : Int) ∧ m ≤ y := fun y hy => by
      obtain ⟨a, b, c, d⟩ := hL y hy
      unfold firstL
      rw [Int.toNat_natCast]
      exact firstN_some T _ f a (by omega) d
    obtain ⟨h1, m, h2, h3⟩ := key x hx
    obtain ⟨z, z1, z2, z3, z4⟩ := firstN_spec T _ _ h1
    have hmz : m = z := by
      have : (firstL T (f : Int)).1 = (z : Int) := z1
      omega
    rw [lowF, if_neg]
    · rw [h2]
      have hle : ∀ y ∈ L, m ≤ y := fun y hy => by
        obtain ⟨_, m', e, h⟩ := key y hy
        omega
      obtain ⟨l, hl⟩ := low_some T B k (m + 1) (L.erase m) (hn.erase m) (by
        by_cases c : m ∈ L
        · rw [List.length_erase_of_mem c]; omega
        · rw [List.erase_of_not_mem c]; omega) (fun y hy => by
        have hy2 := List.mem_of_mem_erase hy
        have hne : y ≠ m := fun e => by
          rw [e] at hy
          exact (List.Nodup.not_mem_erase hn) hy
        obtain ⟨a, b, c, d⟩ := hL y hy2
        exact ⟨by have := hle y hy2; omega, b, c, d⟩)
      refine ⟨(m : Int) :: l, ?_⟩
      rw [show ((m : Int) + 1) = ((m + 1 : Nat) : Int) by omega, hl]
      rfl
    · rintro (q | q)
      · rw [h1] at q; cases q
      · obtain ⟨_, b, _⟩ := hL x hx
        omega
theorem filter_split {α : Type} (p : α → Bool) : ∀ l : List α, l.length = (l.filter p).length + (l.filter fun x => !p x).length
  | [] => rfl
  | x :: r => by
    have := filter_split p r
    cases h : p x with
    | true => rw [List.filter_cons_of_pos (by simpa using h), List.filter_cons_of_neg (by simp [h]), List.length_cons, List.length_cons]; omega
    | false => rw [List.filter_cons_of_neg (by simp [h]), List.filter_cons_of_pos (by simp [h]), List.length_cons, List.length_cons]; omega
theorem Inv.roomy {N : Int} {s : Sh} (h : Inv N s) {k : Nat} (hc : 2 + s.root.tables.length + s.root.maps.length + s.was.length + s.table.length + k ≤ N.toNat) : ∃ l, s.lowest k = some l := by
  have hN := h.fit.range
  have hroom := clamp_room hN.1 hN.2
  have htl : s.taken.length = (emptyB N).length := by
    unfold Sh.taken
    rw [Given.joinL_length, h.usedB.2, h.freshB.2]
    omega
  have hM : ∀ n, hasN s.taken n = true → n ∈ 0 :: 1 :: (s.root.tables ++ s.root.maps ++ s.was ++ s.table).map Int.toNat := fun n hn => by
    rw [h.taken, Bool.or_eq_true, h.used] at hn
    simp only [List.mem_cons, List.mem_map, List.mem_append]
    rcases hn with hn | hn
    · rcases (h.fit.dur n).1 hn with q | q | q | q | q
      · exact .inl (by omega)
      · exact .inr (.inl (by omega))
      · exact .inr (.inr ⟨n, .inl (.inl (.inl q)), by simp⟩)
      · exact .inr (.inr ⟨n, .inl (.inl (.inr q)), by simp⟩)
      · exact .inr (.inr ⟨n, .inl (.inr q), by simp⟩)
    · obtain ⟨q1, _, i, q2⟩ := (h.fresh n).1 hn
      exact .inr (.inr ⟨n, .inr (by rw [← q2]; exact (mem_getD (by rw [q2]; omega)).1), by simp⟩)
  have h1 : ((List.range N.toNat).filter fun n => hasN s.taken n).length ≤ 2 + s.root.tables.length + s.root.maps.length + s.was.length + s.table.length := by
    have := pigeonN ((List.range N.toNat).filter fun n => hasN s.taken n) (0 :: 1 :: (s.root.tables ++ s.root.maps ++ s.was ++ s.table).map Int.toNat) (List.Nodup.sublist (List.filter_sublist ..) List.nodup_range) fun x hx => hM x (by simpa using (List.mem_filter.1 hx).2)
    simp only [List.length_cons, List.length_map, List.length_append] at this
    omega
  have h2 := filter_split (fun n => hasN s.taken n) (List.range N.toNat)
  rw [List.length_range] at h2
  have := low_some s.taken s.root.blocks k 0 ((List.range N.toNat).filter fun n => !hasN s.taken n) (List.Nodup.sublist (List.filter_sublist ..) List.nodup_range) (by omega) (fun x hx => by
    obtain ⟨a, b⟩ := List.mem_filter.1 hx
    have := List.mem_range.1 a
    rw [h.fit.blocks, htl]
    exact ⟨Nat.zero_le _, by omega, by omega, by simpa using b⟩)
  exact this
def Sh.page (s : Sh) (i : Nat) : Int × Int × List Int × Int := openL (s.D.get (s.table.getD i 0))
structure Put (s s' : Sh) (j : Nat) (k : Int) (b : List Int) : Prop where
  has : ∀ i, s'.table.getD i 0 ≠ 0 ↔ (i = j ∨ s.table.getD i 0 ≠ 0)
  here : s'.page j = (k, (j : Int), b, 0)
  other : ∀ i, i ≠ j → s.table.getD i 0 ≠ 0 → s'.page i = s.page i
  len : s'.table.length ≤ max s.table.length (j + 1)
  start : s'.start = s.start
theorem put_short (s : Sh) {j : Nat} (n : Int) (L : Nat) (hj : j + 1 ≤ L) (hL : s.table.length ≤ L) : (s.put j n).table.length ≤ L := by
  refine Decidable.byContradiction fun c => ?_
  have := (put_ends s (id := j) n).2 (by omega)
  rw [put_get] at this
  split at this
  · omega
  · have := (mem_getD this).2
    omega
theorem put_of {N : Int} {s s' : Sh} (h : Inv N s) {j n : Nat} {k : Int} {b : List Int} (hj : 1 ≤ j) (hn2 : 2 ≤ n) (hse : sealE k j b.length = 0) (hb : Bytes b) (ht : s'.table = (s.put j n).table) (hst : s'.start = s.start) (hg : s'.D.get n = sealL k j b) (ho : ∀ m : Int, m ≠ n → s'.D.get m = s.D.get m)
    (hdis : ∀ i, i ≠ j → s.table.getD i 0 ≠ 0 → s.table.getD i 0 ≠ n) : Put s s' j k b := by
  refine ⟨fun i => ?_, ?_, fun i hi h0 => ?_, ?_, hst⟩
  · rw [ht, put_get]
    by_cases c : i = j
    · rw [if_pos c]
      exact ⟨fun _ => .inl c, fun _ => by omega⟩
    · rw [if_neg c]
      exact ⟨.inr, fun q => q.resolve_left c⟩
  · unfold Sh.page
    rw [ht, put_get, if_pos rfl, hg, open_seal k j b hb hse]
  · unfold Sh.page
    rw [ht, put_get, if_neg hi, ho _ (hdis i hi h0)]
  · rw [ht]
    exact put_short s n _ (by omega) (by omega)
theorem alloc_ok {N : Int} {s : Sh} (h : Inv N s) (hf : s.D.fails = -1) {kind : Int} {body : List Int} (hb : Bytes body) (h1 : sealE kind 1 body.length = 0) (hlen : s.table.length ≤ 3000) (hr : ∃ l, s.lowest 1 = some l) :
    ∃ s', s.alloc kind body = (s', (freeId s.table : Int), 0) ∧ Step N s s' ∧ Put s s' (freeId s.table) kind body := by
  obtain ⟨i1, i2, i3⟩ := freeId_spec s.table
  have hfl : freeId s.table ≤ s.table.length := by
    refine Decidable.byContradiction fun c => ?_
    have := i3 s.table.length h.len.1 (by omega)
    exact this (getD_ge (Nat.le_refl _) 0)
  have h2 : sealE kind (freeId s.table) body.length = 0 := by
    unfold sealE at h1 ⊢
    split at h1
    · cases h1
    · rename_i c
      rw [if_neg c]
      split at h1
      · cases h1
      · split at h1
        · cases h1
        · rename_i c2
          rw [if_neg (by omega), if_neg c2]
  obtain ⟨l, hl⟩ := hr
  obtain ⟨m, rfl, m1, m2, m3⟩ := lowest_one hl
  rw [h.taken] at m2
  rw [h.fit.blocks] at m1
  have := h.place (id := freeId s.table) (n := m) (k := kind) (b := body) i1 h2 hb (h.low m2) m1 (.inl ⟨m2, .inl i2⟩)
  rcases this with ⟨e, hs, ht, hst, hg, ho⟩ | ⟨_, hs⟩
  · refine ⟨(s.place (freeId s.table) m (sealL kind (freeId s.table) body)).1, ?_, hs, put_of h i1 (h.low m2) h2 hb ht hst hg ho fun i hi h0 q => ?_⟩
    · unfold Sh.alloc
      rw [if_neg (by rw [h.alive]; simp), if_neg (by rw [h1]; simp), if_neg (by rw [h2]; simp), hl]
      simp only [List.getD_cons_zero]
      rw [if_neg (by rw [e]; simp)]
    · obtain ⟨n, e1, _, _, e4⟩ := h.ent i h0
      rw [q] at e1
      have : m = n := by omega
      subst this
      rw [m2] at e4
      cases e4
  · exact absurd hf hs.may
theorem alloc_bad {N : Int} {s : Sh} (h : Inv N s) {kind : Int} {body : List Int} (h1 : sealE kind 1 body.length ≠ 0) : s.alloc kind body = (s, 0, sealE kind 1 body.length) := by
  unfold Sh.alloc
  rw [if_neg (by rw [h.alive]; simp), if_pos h1]
theorem Inv.blockOk {N : Int} {s : Sh} (h : Inv N s) {j : Nat} (hj : s.table.getD j 0 ≠ 0) : s.block (j : Int) = (s.table.getD j 0, 0) ∧ 1 ≤ j := by
  have hj1 : 1 ≤ j := by
    rcases Nat.eq_zero_or_pos j with c | c
    · rw [c] at hj; exact absurd h.zero hj
    · exact c
  refine ⟨?_, hj1⟩
  unfold Sh.block
  rw [if_neg (by rw [h.alive]; simp), if_neg, Int.toNat_natCast]
  rintro (c | c | c)
  · omega
  · have := (mem_getD hj).2
    omega
  · rw [Int.toNat_natCast] at c
    exact hj c
theorem Inv.blockNo {N : Int} {s : Sh} (h : Inv N s) {id : Int} (hn : ¬ ∃ j : Nat, id = (j : Int) ∧ s.table.getD j 0 ≠ 0) : s.block id = (0, 8) := by
  unfold Sh.block
  rw [if_neg (by rw [h.alive]; simp), if_pos]
  refine Decidable.byContradiction fun c => hn ⟨id.toNat, by omega, fun q => c (.inr (.inr q))⟩
theorem write_ok {N : Int} {s : Sh} (h : Inv N s) (hf : s.D.fails = -1) {j : Nat} (hj : s.table.getD j 0 ≠ 0) {kind : Int} {body : List Int} (hb : Bytes body) (hse : sealE kind j body.length = 0) (hr : ∃ l, s.lowest 1 = some l) :
    ∃ s', s.write (j : Int) kind body = (s', 0) ∧ Step N s s' ∧ Put s s' j kind body := by
  obtain ⟨hbl, j1⟩ := h.blockOk hj
  obtain ⟨n, e1, e2, e3, e4⟩ := h.ent j hj
  obtain ⟨l, hl⟩ := hr
  obtain ⟨m, rfl, m1, m2, m3⟩ := lowest_one hl
  rw [h.taken] at m2
  rw [h.fit.blocks] at m1
  unfold Sh.write
  rw [hbl]
  simp only
  rw [if_neg (by simp), if_neg (by rw [hse]; simp), e1, hasL_nat]
  by_cases c : hasN s.fresh n = true
  · rw [if_pos c]
    rcases h.place (id := j) (n := n) j1 hse hb e2 e3 (.inr ⟨e1, c⟩) with ⟨e, hs, ht, hst, hg, ho⟩ | ⟨_, q⟩
    · exact ⟨_, Prod.ext rfl e, hs, put_of h j1 e2 hse hb ht hst hg ho fun i hi h0 q => hi (h.inj j i hj (by rw [q, e1]))⟩
    · exact absurd hf q.may
  · rw [if_neg c, hl]
    simp only [List.getD_cons_zero]
    have hu : hasN s.used n = true := by
      have : hasN s.fresh n = false := by simpa using c
      rw [this, Bool.or_false] at e4
      exact e4
    rcases h.place (id := j) (n := m) j1 hse hb (h.low m2) m1 (.inl ⟨m2, .inr ⟨n, e1, hu⟩⟩) with ⟨e, hs, ht, hst, hg, ho⟩ | ⟨_, q⟩
    · refine ⟨_, Prod.ext rfl e, hs, put_of h j1 (h.low m2) hse hb ht hst hg ho fun i hi h0 q => ?_⟩
      obtain ⟨z, z1, _, _, z4⟩ := h.ent i h0
      rw [q] at z1
      have : m = z := by omega
      subst this
      rw [m2] at z4
      cases z4
    · exact absurd hf q.may
structure Freed (s s' : Sh) (j : Nat) : Prop where
  has : ∀ i, s'.table.getD i 0 ≠ 0 ↔ (i ≠ j ∧ s.table.getD i 0 ≠ 0)
  other : ∀ i, i ≠ j → s.table.getD i 0 ≠ 0 → s'.page i = s.page i
  len : s'.table.length ≤ s.table.length
  start : s'.start = s.start
theorem free_ok {N : Int} {s : Sh} (h : Inv N s) {j : Nat} (hj : s.table.getD j 0 ≠ 0) (hst : (j : Int) ≠ s.start) : ∃ s', s.free (j : Int) = (s', 0) ∧ Step N s s' ∧ Freed s s' j := by
  obtain ⟨hbl, j1⟩ := h.blockOk hj
  have hs := free_step h (j : Int)
  have he : s.free (j : Int) = ({ s.put j 0 with fresh := withL s.fresh (s.table.getD j 0) false }, 0) := by
    unfold Sh.free
    rw [hbl]
    simp only
    rw [if_neg (by simp), if_neg hst]
  rw [he] at hs ⊢
  refine ⟨_, rfl, hs, fun i => ?_, fun i hi h0 => ?_, ?_, rfl⟩
  · show (s.put j 0).table.getD i 0 ≠ 0 ↔ _
    rw [put_get]
    by_cases c : i = j
    · rw [if_pos c]
      exact ⟨fun q => absurd rfl q, fun q => absurd c q.1⟩
    · rw [if_neg c]
      exact ⟨fun q => ⟨c, q⟩, fun q => q.2⟩
  · show openL (s.D.get ((s.put j 0).table.getD i 0)) = _
    rw [put_get, if_neg hi]
    rfl
  · show (s.put j 0).table.length ≤ _
    exact put_short s 0 _ (by have := (mem_getD hj).2; omega) (Nat.le_refl _)
theorem free_no {N : Int} {s : Sh} (h : Inv N s) {id : Int} (hn : ¬ ∃ j : Nat, id = (j : Int) ∧ s.table.getD j 0 ≠ 0) : s.free id = (s, 8) := by
  unfold Sh.free
  rw [h.blockNo hn, if_pos (by simp)]
theorem read_no {N : Int} {s : Sh} (h : Inv N s) {id : Int} (hn : ¬ ∃ j : Nat, id = (j : Int) ∧ s.table.getD j 0 ≠ 0) : s.read id = (s, 0, [], 8) := by
  unfold Sh.read
  rw [h.blockNo hn, if_pos (by simp)]
theorem commit_ok {N : Int} {s : Sh} (h : Inv N s) (hf : s.D.fails = -1) (hep : s.root.epoch < 1099511627776) (hr : ∃ l, s.lowest ((splitL 246 (wordsL (s.table.drop 1))).length + mapsOf s.root.blocks) = some l) : s.commit.2 = 0 ∧ Done N s s.commit.1 := by
  rcases commit_gen h with ⟨_, _, q | q⟩ | q | ⟨_, _, _, q, _⟩
  · obtain ⟨l, hl⟩ := hr
    rw [hl] at q
    cases q
  · omega
  · exact q
  · exact absurd hf q
end Go.Proofs.YtplkndmkchpcdaaGreat.Sh
end
section
namespace Go.Proofs.YtplkndmkchpcdaaGreat.Pool
open Go.RowKit YtplkndmkchpcdaaGreatW.PrintWords YtplkndmkchpcdaaGreatW.PrintLast YtplkndmkchpcdaaGreatW.PrintMore MapFn Disk Page Num Bitset Sh
set_option maxHeartbeats 8000000
set_option maxRecDepth 100000
section
variable {w wr w1 w' : World} {b ps pd : Nat} {F : Foot} {v : Value} {bs : List Nat} {p : Pl}
theorem PIn.count (h : PIn w wr b ps pd F v bs p) {i : Nat} {x : Int} {p' : Pl} (hr : (wr.setCell ⟨b, i, none⟩ (.int .i64 x)).heap[b]? = some (.cells #[.pointer (some ⟨ps, 0, none⟩), .int .i64 p'.most, v, .int .i64 p'.hits, .int .i64 p'.misses] 83 (0, 0))) (hf : p'.frames = p.frames) (hS : p'.S = p.S) :
    PIn w (wr.setCell ⟨b, i, none⟩ (.int .i64 x)) b ps pd F v bs p' := by
  have hm := Moves.of_grown (set_cell_grown (wr := wr) (p := b) (i := i) (.int .i64 x))
  have hours : ∀ y ∈ [b], Ours b v bs wr.heap.size y := fun y hy => .inl (by simpa using hy)
  refine h.turn hm hours hr (RP_moves h.arr hm fun g hg hgs => ?_) h.nodup (by rw [hf]; exact h.frs.imp fun y hy f hfy => h.fr_keep hm hours hfy (fun e => (h.fr_ne hfy).1 (by simpa using e))) hS (fun g hg => .inl hg) (fun x hx => .inl hx)
  simp only [List.mem_singleton] at hgs
  subst hgs
  exact h.b_off.2 hg
theorem PIn.hit (h : PIn w wr b ps pd F v bs p) : PIn w (wr.setCell ⟨b, 3, none⟩ (.int .i64 (wrap64 (p.hits + 1)))) b ps pd F v bs { p with hits := wrap64 (p.hits + 1) } :=
  h.count (by have := set_row (i := 3) h.row (.int .i64 (wrap64 (p.hits + 1))); simpa using this) rfl rfl
theorem PIn.miss (h : PIn w wr b ps pd F v bs p) : PIn w (wr.setCell ⟨b, 4, none⟩ (.int .i64 (wrap64 (p.misses + 1)))) b ps pd F v bs { p with misses := wrap64 (p.misses + 1) } :=
  h.count (by have := set_row (i := 4) h.row (.int .i64 (wrap64 (p.misses + 1))); simpa using this) rfl rfl
theorem erase_not {l : List Nat} (h : l.Nodup) {k : Nat} (hk : k < l.length) : ¬ l[k] ∈ l.eraseIdx k := by
  intro hm
  obtain ⟨j, hj, e⟩ := List.mem_iff_getElem.1 hm
  rw [List.getElem_eraseIdx] at e
  split at e
  · rename_i q
    exact List.pairwise_iff_getElem.1 h j k (by omega) hk q e
  · rename_i q
    have hj2 : j + 1 < l.length := by rw [List.length_eraseIdx, if_pos hk] at hj; omega
    exact List.pairwise_iff_getElem.1 h k (j + 1) hk hj2 (by omega) e.symm
theorem read_bytes {s : Sh} (h : ∀ n, Bytes (s.D.get n)) (id : Int) : Bytes (s.read id).2.2.1 := by
  have e : Bytes ([] : List Int) := fun x hx => by cases hx
  unfold Sh.read
  split
  · exact e
  · split
    · exact e
    · simp only
      split
      · exact e
      · exact open_body_bytes (h _)
theorem open_len (l : List Int) : (openL l).2.2.1.length ≤ 1000 := by
  unfold openL
  repeat' split
  all_goals first | exact Nat.zero_le _ | skip
  rename_i h1 _ _ _ _
  simp only
  rw [List.length_take, List.length_drop]
  simp at h1
  omega
theorem read_len (s : Sh) (id : Int) : (s.read id).2.2.1.length ≤ 1000 := by
  unfold Sh.read
  split
  · exact Nat.zero_le _
  · split
    · exact Nat.zero_le _
    · simp only
      split
      · exact Nat.zero_le _
      · exact open_len _
theorem fetch_any (h : PIn w wr b ps pd F v bs p) (id : Int) (hk : Ok p.S) (hl : bs.length ≤ 900) (hk2 : Ok ({ p with misses := wrap64 (p.misses + 1) } : Pl).room.1.S) (hB : ∀ n, Bytes (({ p with misses := wrap64 (p.misses + 1) } : Pl).room.1.S.D.get n)) :
    Calls Tryz.prog 55 #[.pointer (some ⟨b, 0, none⟩), .int .i64 id] wr fun e w' => ∃ F' v' bs' x, e = .returned (.tuple #[ptrOf (p.fetch id).2 x, .int .i64 (p.fetch id).2]) ∧ PIn w w' b ps pd F' v' bs' (p.fetch id).1 ∧ bs'.length ≤ bs.length + 1 ∧ ((p.fetch id).2 = 0 → ∃ bs0, bs' = bs0 ++ [x]) ∧ K8 w wr w' := by
  have H := Hide.mk h
  have HPL := place_any h id (by omega)
  have HLL := Hide.mk hl
  have HOK := Hide.mk hk
  obtain ⟨R, hR⟩ : ∃ R, p.fetch id = R := ⟨_, rfl⟩
  rw [hR]
  unfold Pl.fetch at hR
  have hlen := h.frs.len
  rcases idxF_at (fun f => decide (f.id = id)) p.frames 0 with e | ⟨k, hkl, e, hq⟩
  · rw [show idxF (fun f => decide (f.id = id)) p.frames 0 = p.place id from rfl] at e
    rw [e] at HPL hR
    rw [if_neg (by decide)] at hR
    replace HPL := Hide.mk HPL
    obtain ⟨p1, e1, hro⟩ : ∃ p1 e1, ({ p with misses := wrap64 (p.misses + 1) } : Pl).room = (p1, e1) := ⟨_, _, rfl⟩
    rw [hro] at hR hk2 hB
    simp only at hR hk2 hB
    have HRO := Hide.mk hro
    have HOK2 := Hide.mk hk2
    have HBY := Hide.mk hB
    by_cases h1 : e1 = 0
    · subst h1
      rw [if_neg (by simp)] at hR
      obtain ⟨S1, rk, rb, re, hrd⟩ : ∃ S1 rk rb re, p1.S.read id = (S1, rk, rb, re) := ⟨_, _, _, _, rfl⟩
      have HRB := Hide.mk (read_bytes hB id)
      have HRL := Hide.mk (read_len p1.S id)
      rw [hrd] at hR HRB HRL
      simp only at hR HRB HRL
      have HRDE := Hide.mk hrd
      by_cases h2 : re = 0
      · subst h2
        rw [if_neg (by simp)] at hR
        have HRR := Hide.mk hR.symm
        clear h hl hk hR hk2 hB hro hrd e hlen
        go_enter Tryz.func55, Tryz.ntmps55
        go_wp2_with (first
          | (go_at_call 57
             refine HPL.out.mono ?_
             rintro e w1 ⟨rfl, hb⟩
             have P1 := Hide.mk (H.out.later hb)
             have HKB := Hide.mk (K8.of_below (w := w) hb)
             have k3 : w1.cell? ⟨b, 4, none⟩ = some (.int .i64 p.misses) := cell_of P1.out.row
             have f3 := free_of (i := 4) P1.out.row
             have P2 := Hide.mk (P1.out.miss)
             have K2 := Hide.mk (P1.out.k8_ours (Moves.of_grown (set_cell_grown (i := 4) (.int .i64 (wrap64 (p.misses + 1))))) (fun y hy => .inl (by simpa using hy)))
             have HRM0 := room_any P2.out HOK.out (by have := HLL.out; omega)
             rw [HRO.out] at HRM0
             have HRM := Hide.mk HRM0
             clear hb HRM0)
          | (go_at_call 52
             with_reducible refine HRM.out.mono ?_
             rintro e w3 ⟨rfl, F3, v3, bs3, hp3, hl3, hs3, hk3⟩
             have P3 := Hide.mk hp3
             have K3 := Hide.mk hk3
             have HL3 := Hide.mk hl3
             have k0 : w3.cell? ⟨b, 0, none⟩ = some (.pointer (some ⟨ps, 0, none⟩)) := cell_of hp3.row
             have HRE0 := shread_any id w3 F3 p1.S hp3.sh HOK2.out HBY.out
             rw [HRDE.out, hp3.ep] at HRE0
             have HRE := Hide.mk HRE0
             clear HRE0
             clear hp3 hl3 hs3 hk3)
          | (go_at_call 61
             with_reducible refine HRE.out.mono ?_
             rintro e w4 ⟨v4, rfl, ho, F4, hs, hg⟩
             obtain ⟨A4, c4, hv4, hi4, _⟩ := In.of_own ho
             obtain ⟨n4, hn4⟩ : ∃ n, rb.length = n := ⟨_, rfl⟩
             rw [hn4] at hv4
             subst hv4
             have P4 := Hide.mk (P3.out.shadow hs hg)
             have O4 := Hide.mk ho
             have HG4 := Hide.mk hg.moves.size
             have K4 := Hide.mk (P3.out.k8_goes hg)
             clear ho hs hg hi4 hn4)
          | (go_at_call 53
             obtain ⟨W, hW⟩ : ∃ W, w4.alloc (.cells #[.int .i64 id, .int .i64 rk, .slice A4 n4 c4, .int .i64 0, .bool false] 88) = W := ⟨_, rfl⟩
             rw [hW]
             have hal := (Below.refl w4.heap.size w4).alloc (Nat.le_refl _) (.cells #[.int .i64 id, .int .i64 rk, .slice A4 n4 c4, .int .i64 0, .bool false] 88)
             have rowf := heap_last w4 (.cells #[.int .i64 id, .int .i64 rk, .slice A4 n4 c4, .int .i64 0, .bool false] 88)
             rw [hW] at hal rowf
             have hfx : FrAt W w.heap.size w4.heap.size ⟨id, rk, rb, 0, false⟩ := ⟨⟨_, rowf, Kd.R_below (Kd.R_lower O4.out (Nat.le_trans P3.out.below.size (Nat.le_refl _))) hal⟩, P4.out.below.size, HRB.out, HRL.out⟩
             have hnx : ¬ w4.heap.size ∈ bs3 := fun hx => by obtain ⟨f, hf⟩ := P4.out.frs.mem hx; have := hf.lt; omega
             refine (hold_any (P4.out.later hal) hfx hnx (fun A hA a ha e => by have := P4.out.sh.slice_lt A hA a ha; omega) (by have := HL3.out; have := HLL.out; omega)).mono ?_
             rintro e w5 ⟨rfl, hk5, v5, hp5⟩
             have P5 := Hide.mk hp5
             have K5 := Hide.mk ((K8.of_below (w := w) hal).trans hk5)
             clear hk5 hW hal rowf hfx hnx hp5))
        go_ret2
        rw [HRR.out]
        exact ⟨F4, v5, _, w4.heap.size, rfl, P5.out, by rw [List.length_append]; have := HL3.out; simp; omega, (fun _ => ⟨bs3, rfl⟩), ((HKB.out.trans K2.out).trans K3.out).trans (K4.out.trans K5.out)⟩
      · rw [if_pos h2] at hR
        have q : (re != 0) = true := by simp [h2]
        have HRR := Hide.mk hR.symm
        have HE := Hide.mk h2
        clear h hl hk hR hk2 hB hro hrd e hlen h2
        go_enter Tryz.func55, Tryz.ntmps55
        go_wp2_with (first
          | (go_at_call 57
             refine HPL.out.mono ?_
             rintro e w1 ⟨rfl, hb⟩
             have P1 := Hide.mk (H.out.later hb)
             have HKB := Hide.mk (K8.of_below (w := w) hb)
             have k3 : w1.cell? ⟨b, 4, none⟩ = some (.int .i64 p.misses) := cell_of P1.out.row
             have f3 := free_of (i := 4) P1.out.row
             have P2 := Hide.mk (P1.out.miss)
             have K2 := Hide.mk (P1.out.k8_ours (Moves.of_grown (set_cell_grown (i := 4) (.int .i64 (wrap64 (p.misses + 1))))) (fun y hy => .inl (by simpa using hy)))
             have HRM0 := room_any P2.out HOK.out (by have := HLL.out; omega)
             rw [HRO.out] at HRM0
             have HRM := Hide.mk HRM0
             clear hb HRM0)
          | (go_at_call 52
             with_reducible refine HRM.out.mono ?_
             rintro e w3 ⟨rfl, F3, v3, bs3, hp3, hl3, hs3, hk3⟩
             have P3 := Hide.mk hp3
             have K3 := Hide.mk hk3
             have HL3 := Hide.mk hl3
             have k0 : w3.cell? ⟨b, 0, none⟩ = some (.pointer (some ⟨ps, 0, none⟩)) := cell_of hp3.row
             have HRE0 := shread_any id w3 F3 p1.S hp3.sh HOK2.out HBY.out
             rw [HRDE.out, hp3.ep] at HRE0
             have HRE := Hide.mk HRE0
             clear HRE0
             clear hp3 hl3 hs3 hk3)
          | (go_at_call 61
             with_reducible refine HRE.out.mono ?_
             rintro e w4 ⟨v4, rfl, ho, F4, hs, hg⟩
             obtain ⟨A4, c4, hv4, hi4, _⟩ := In.of_own ho
             obtain ⟨n4, hn4⟩ : ∃ n, rb.length = n := ⟨_, rfl⟩
             rw [hn4] at hv4
             subst hv4
             have P4 := Hide.mk (P3.out.shadow hs hg)
             have O4 := Hide.mk ho
             have HG4 := Hide.mk hg.moves.size
             have K4 := Hide.mk (P3.out.k8_goes hg)
             clear ho hs hg hi4 hn4))
        go_ret2
        rw [HRR.out]
        exact ⟨F4, _, bs3, 0, by rw [ptrOf_bad HE.out]; rfl, P4.out, by have := HL3.out; omega, (fun e => absurd e HE.out), ((HKB.out.trans K2.out).trans K3.out).trans K4.out⟩
    · rw [if_pos h1] at hR
      have q : (e1 != 0) = true := by simp [h1]
      have HRR := Hide.mk hR.symm
      have HE := Hide.mk h1
      clear h hl hk hR hk2 hB hro e hlen h1
      go_enter Tryz.func55, Tryz.ntmps55
      go_wp2_with (first
        | (go_at_call 57
           refine HPL.out.mono ?_
           rintro e w1 ⟨rfl, hb⟩
           have P1 := Hide.mk (H.out.later hb)
           have HKB := Hide.mk (K8.of_below (w := w) hb)
           have k3 : w1.cell? ⟨b, 4, none⟩ = some (.int .i64 p.misses) := cell_of P1.out.row
           have f3 := free_of (i := 4) P1.out.row
           have P2 := Hide.mk (P1.out.miss)
           have K2 := Hide.mk (P1.out.k8_ours (Moves.of_grown (set_cell_grown (i := 4) (.int .i64 (wrap64 (p.misses + 1))))) (fun y hy => .inl (by simpa using hy)))
           have HRM0 := room_any P2.out HOK.out (by have := HLL.out; omega)
           rw [HRO.out] at HRM0
           have HRM := Hide.mk HRM0
           clear hb HRM0)
        | (go_at_call 52
           with_reducible refine HRM.out.mono ?_
           rintro e w3 ⟨rfl, F3, v3, bs3, hp3, hl3, hs3, hk3⟩
           have P3 := Hide.mk hp3
           have K3 := Hide.mk hk3
           have HL3 := Hide.mk hl3
           clear hp3 hl3 hs3 hk3))
      go_ret2
      rw [HRR.out]
      exact ⟨F3, _, bs3, 0, by rw [ptrOf_bad HE.out]; rfl, P3.out, by have := HL3.out; omega, (fun e => absurd e HE.out), (HKB.out.trans K2.out).trans K3.out⟩
  · rw [show idxF (fun f => decide (f.id = id)) p.frames 0 = p.place id from rfl, Nat.zero_add] at e
    rw [e] at HPL hR
    rw [if_pos (by omega), Int.toNat_natCast] at hR
    replace HPL := Hide.mk HPL
    have hkb : k < bs.length := by omega
    obtain ⟨g, c0, hvg, _, _, _⟩ := Kd.R_form h.arr (by rw [List.length_map]; omega)
    rw [List.length_map] at hvg
    obtain ⟨c, hc⟩ : ∃ d, c0 = d := ⟨_, rfl⟩
    rw [hc] at hvg
    subst hvg
    have HKL := Hide.mk hkb
    have HKE : Hide (((k + 1 : Nat) : Int) = (k : Int) + 1) := ⟨by omega⟩
    have hki : (k : Int) < (bs.length : Int) := by omega
    have hk0 : ¬ (k : Int) < 0 := by omega
    have hk1 : (k : Int) ≤ 1000 := by omega
    have HRR := Hide.mk hR.symm
    obtain ⟨x, hx⟩ : ∃ x, bs[k] = x := ⟨_, rfl⟩
    have HXB := Hide.mk hx
    have HX : Hide (∀ w2, PIn w w2 b ps pd F (.slice (some ⟨g, 0, none⟩) bs.length c) bs { p with hits := wrap64 (p.hits + 1) } → w2.cell? ⟨g, k, none⟩ = some (.pointer (some ⟨x, 0, none⟩))) := ⟨fun w2 hp => by
      obtain ⟨hn, _, hC⟩ := Kd.R_reads' hp.arr
      rw [List.length_map] at hC
      obtain ⟨ad, had, hcx⟩ := at_ptr hC (k : Int) (by omega) hki
      cases had
      have hrd : rdOf none (bs.map some) (k : Int) = some bs[k] := by simp [rdOf, List.getD_eq_getElem?_getD, hkb]
      rw [hrd, Int.toNat_natCast, Go.WideShapes.add_plain, Nat.zero_add, hx] at hcx
      exact hcx⟩
    clear h hl hk hR hk2 hB e hlen hkl hq hx hc
    go_enter Tryz.func55, Tryz.ntmps55
    go_wp2_with (first
      | (go_at_call 57
         refine HPL.out.mono ?_
         rintro e w1 ⟨rfl, hb⟩
         have P1 := Hide.mk (H.out.later hb)
         have HKB := Hide.mk (K8.of_below (w := w) hb)
         have k3 : w1.cell? ⟨b, 3, none⟩ = some (.int .i64 p.hits) := cell_of P1.out.row
         have f3 := free_of (i := 3) P1.out.row
         have P2 := Hide.mk (P1.out.hit)
         have K2 := Hide.mk (P1.out.k8_ours (Moves.of_grown (set_cell_grown (i := 3) (.int .i64 (wrap64 (p.hits + 1))))) (fun y hy => .inl (by simpa using hy)))
         have k2 : (w1.setCell ⟨b, 3, none⟩ (.int .i64 (wrap64 (p.hits + 1)))).cell? ⟨b, 2, none⟩ = some (.slice (some ⟨g, 0, none⟩) bs.length c) := cell_of P2.out.row
         have kx := HX.out _ P2.out
         have HDL0 := delete_any k P2.out.arr HKL.out
         rw [HKE.out] at HDL0
         have HDL := Hide.mk HDL0
         clear hb HDL0)
      | (go_at_call 58
         with_reducible refine HDL.out.mono ?_
         rintro e w4 ⟨rfl, ho4, hg4⟩
         have hz4 := P2.out.frs.erase k
         have nd4 := P2.out.nodup.sublist (List.eraseIdx_sublist bs k)
         obtain ⟨d2, f2, hp4, hk4⟩ := P2.out.restored (v1 := .slice (some ⟨g, 0, none⟩) (bs.length - 1) c) hg4 ho4 (.inl rfl) nd4 hz4 (fun x hx => .inl (List.mem_of_mem_eraseIdx hx))
         have hfx := P2.out.fr HKL.out
         have hxm : Moves (b :: [g]) (w1.setCell ⟨b, 3, none⟩ (.int .i64 (wrap64 (p.hits + 1)))) (w4.setCell ⟨b, 2, none⟩ (.slice (some ⟨g, 0, none⟩) (bs.length - 1) c)) := ((Moves.of_grown hg4).more (by simp)).trans ((Moves.of_grown (set_cell_grown _)).more (by simp))
         have hours : ∀ y ∈ b :: [g], Ours b (.slice (some ⟨g, 0, none⟩) bs.length c) bs (w1.setCell ⟨b, 3, none⟩ (.int .i64 (wrap64 (p.hits + 1)))).heap.size y := fun y hy => by simp only [List.mem_cons, List.not_mem_nil, or_false] at hy; rcases hy with e | e; exact .inl e; exact .inr (.inl (by rw [e]; rfl))
         obtain ⟨n1, n2⟩ := P2.out.fr_ne hfx
         have hfx4 := P2.out.fr_keep hxm hours hfx (fun hy => by simp only [List.mem_cons, List.not_mem_nil, or_false] at hy; rcases hy with e | e; exact n1 e; exact n2 (by rw [e]; rfl))
         have HHO := Hide.mk (hold_any hp4 hfx4 (erase_not P2.out.nodup HKL.out) (fun A hA a ha e => (P2.out.off A hA a ha).2.1 (by rw [e]; exact List.getElem_mem _)) (by rw [List.length_eraseIdx]; have := HLL.out; split <;> omega))
         have P4 := Hide.mk hp4
         have K4 := Hide.mk hk4
         rw [← HXB.out]
         clear hk4 ho4 hg4 hz4 nd4 hp4 hfx hxm hours n1 n2 hfx4)
      | (go_at_call 53
         refine HHO.out.mono ?_
         rintro e w5 ⟨rfl, hk5, v5, hp5⟩
         have P5 := Hide.mk hp5
         have K5 := Hide.mk hk5
         clear hp5 hk5))
    go_ret2
    rw [HRR.out]
    exact ⟨F, v5, _, x, by rw [← HXB.out]; rfl, P5.out, by rw [List.length_append, List.length_eraseIdx]; simp; split <;> omega, (fun _ => ⟨_, by rw [HXB.out]⟩), ((HKB.out.trans K2.out).trans K4.out).trans K5.out⟩
end
end Go.Proofs.YtplkndmkchpcdaaGreat.Pool
end
section
namespace Go.Proofs.YtplkndmkchpcdaaGreat.Pool
open Go.RowKit YtplkndmkchpcdaaGreatW.PrintWords YtplkndmkchpcdaaGreatW.PrintLast YtplkndmkchpcdaaGreatW.PrintMore MapFn Disk Page Num Bitset Sh
set_option maxHeartbeats 8000000
set_option maxRecDepth 100000
def T15_4 : Bool × List (List Nat × List Nat) := (true, [([], []), ([0], [0]), ([1], [1]), ([2], [2]), ([], []), ([4], [4]), ([5], [5]), ([6], [6]), ([7], [7]), ([3, 8, 0, 1, 2, 3], [3]), ([8, 9, 0, 1, 2, 3, 4, 5, 6, 7, 8, 9], [8]), ([10, 0, 1, 2, 3, 4, 5, 6, 7, 8, 9, 10], [])])
def B15_4 : List Nat := [0, 1, 3, 7, 0, 16, 48, 112, 240, 511, 1023, 2047]
theorem tab15_4 : rtab .any (opsOf Tryz.f15 4) = T15_4 := by kernel_rfl
theorem bits15_4 : waitsOk T15_4.2 B15_4 = true := by kernel_rfl
structure Good (p : Pl) : Prop where
  ok : Ok p.S
  ok2 : Ok ({ p with misses := wrap64 (p.misses + 1) } : Pl).room.1.S
  bytes : ∀ n, Bytes (({ p with misses := wrap64 (p.misses + 1) } : Pl).room.1.S.D.get n)
  few : p.frames.length ≤ 900
section
variable {w wr w1 w' : World} {b ps pd : Nat} {F : Foot} {v : Value} {bs bs0 : List Nat} {p : Pl} {x : Nat}
theorem PIn.last (h : PIn w wr b ps pd F v (bs0 ++ [x]) p) : FrAt wr w.heap.size x p.last ∧ p.frames.length = bs0.length + 1 := by
  have hl := h.frs.len
  rw [List.length_append, List.length_singleton] at hl
  have := h.fr (k := bs0.length) (by simp)
  rw [List.getElem_append_right (Nat.le_refl _)] at this
  simp only [Nat.sub_self, List.getElem_cons_zero] at this
  refine ⟨?_, hl.symm⟩
  unfold Pl.last
  rw [← hl]
  exact this
theorem PIn.set_last (h : PIn w wr b ps pd F v (bs0 ++ [x]) p) {f' : Fr} (hm : Moves [x] wr w') (hf : FrAt w' w.heap.size x f') : PIn w w' b ps pd F v (bs0 ++ [x]) (p.setLast f') := by
  have hl := h.last.2
  have hx : (bs0 ++ [x])[bs0.length]'(by simp) = x := by rw [List.getElem_append_right (Nat.le_refl _)]; simp
  have := h.set_frame (k := bs0.length) (by simp) (f' := f') (by rw [hx]; exact hm) (by rw [hx]; exact hf)
  unfold Pl.setLast
  rw [hl, Nat.add_sub_cancel]
  exact this
theorem fetch_on (h : PAt w wr b ps pd p) (hg : Good p) (id : Int) : Calls Tryz.prog 55 #[.pointer (some ⟨b, 0, none⟩), .int .i64 id] wr fun e w' => ∃ F' v' bs' x, e = .returned (.tuple #[ptrOf (p.fetch id).2 x, .int .i64 (p.fetch id).2]) ∧ PIn w w' b ps pd F' v' bs' (p.fetch id).1 ∧ ((p.fetch id).2 = 0 → ∃ bs0, bs' = bs0 ++ [x]) ∧ K8 w wr w' := by
  obtain ⟨F, v, bs, hp⟩ := h
  refine (fetch_any hp id hg.ok (by have := hp.frs.len; have := hg.few; omega) hg.ok2 hg.bytes).mono ?_
  rintro e w2 ⟨F2, v2, bs2, x, rfl, h2, _, h3, h4⟩
  exact ⟨F2, v2, bs2, x, rfl, h2, h3, h4⟩
theorem FrAt.set {f : Fr} (hf : FrAt wr w.heap.size x f) {i : Nat} {y : Value} {f' : Fr} (hr : ∀ v, (#[.int .i64 f.id, .int .i64 f.kind, v, .int .i64 f.pins, .bool f.dirty] : Array Value).setIfInBounds i y = #[.int .i64 f'.id, .int .i64 f'.kind, v, .int .i64 f'.pins, .bool f'.dirty]) (hb : f'.body = f.body) :
    FrAt (wr.setCell ⟨x, i, none⟩ y) w.heap.size x f' ∧ Moves [x] wr (wr.setCell ⟨x, i, none⟩ y) := by
  obtain ⟨v, hrow, hbody⟩ := hf.ex
  have hs := set_row (i := i) hrow y
  rw [hr v] at hs
  have hm := Moves.of_grown (set_cell_grown (wr := wr) (p := x) (i := i) y)
  refine ⟨⟨⟨v, hs, ?_⟩, hf.ge, by rw [hb]; exact hf.bytes, by rw [hb]; exact hf.short⟩, hm⟩
  rw [hb]
  refine R_moves hbody hm fun g hg hgs => ?_
  simp only [List.mem_singleton] at hgs
  subst hgs
  obtain ⟨cells, hc⟩ := typed hbody g hg
  exact ne_of_types hc hrow (by decide) rfl
theorem get_on (h : PAt w wr b ps pd p) (hg : Good p) (id : Int) : Calls Tryz.prog 15 #[.pointer (some ⟨b, 0, none⟩), .int .i64 id] wr fun e w' => K8 w wr w' ∧ ∃ A c, e = .returned (.tuple #[.int .i64 (p.get id).2.1, .slice A (p.get id).2.2.1.length c, .int .i64 (p.get id).2.2.2]) ∧ In8 w w' A (p.get id).2.2.1 c ∧ PAt w w' b ps pd (p.get id).1 := by
  have HF0 := fetch_on h hg id
  obtain ⟨R, hR⟩ : ∃ R, p.get id = R := ⟨_, rfl⟩
  rw [hR]
  unfold Pl.get at hR
  obtain ⟨p2, e2, hfe⟩ : ∃ p2 e2, p.fetch id = (p2, e2) := ⟨_, _, rfl⟩
  rw [hfe] at HF0 hR
  simp only at HF0 hR
  have HSZ : Hide (w.heap.size ≤ wr.heap.size) := ⟨by obtain ⟨_, _, _, hp⟩ := h; exact hp.below.size⟩
  clear h hg hfe
  by_cases h0 : e2 = 0
  · subst h0
    rw [if_neg (by simp)] at hR
    simp only [ptrOf_ok] at HF0
    have HF := Hide.mk HF0
    have HRR := Hide.mk hR.symm
    clear HF0 hR
    go_enter Tryz.func15, Tryz.ntmps15
    go_wp2_with (first
      | (go_at_call 55
         with_reducible refine HF.out.mono ?_
         rintro e w2 ⟨F2, v2, bs2, x, rfl, hp, hlast, hk8⟩
         obtain ⟨bs0, hbs⟩ := hlast trivial
         rw [hbs] at hp
         have P2 := Hide.mk hp
         have K2 := Hide.mk hk8
         clear hp hlast hbs hk8))
    obtain ⟨f, hf⟩ : ∃ f, p2.last = f := ⟨_, rfl⟩
    have hfx := P2.out.last.1
    rw [hf] at hfx
    have HFE := Hide.mk hf
    have hdr := below_drew (Below.refl w2.heap.size w2)
    have hfd := hfx.below hdr
    obtain ⟨vb, hrow, hbody⟩ := hfd.ex
    obtain ⟨Ab, cb, hvb, hib, _⟩ := In.of_own hbody
    obtain ⟨nb, hnb⟩ : ∃ n, f.body.length = n := ⟨_, rfl⟩
    have hmxb := hib.reads.2.1
    have HCL0 := Given.clone_any Ab cb f.body w2.drew hib.reads hib.room (by have := hfd.short; omega)
    rw [hnb] at hvb HCL0
    subst hvb
    have HCL := Hide.mk HCL0
    have HNB := Hide.mk hnb
    have HDR := Hide.mk hdr
    have KC : w2.drew.cell? ⟨x, 1, none⟩ = some (.int .i64 f.kind) ∧ w2.drew.cell? ⟨x, 2, none⟩ = some (.slice Ab nb cb) := ⟨cell_of hrow, cell_of hrow⟩
    clear hf hfx hdr hfd hrow hbody hib hnb HCL0 hmxb
    refine s_ 12 (fun w' => w'.cell? ⟨x, 1, none⟩ = some (.int .i64 f.kind) ∧ w'.cell? ⟨x, 2, none⟩ = some (.slice Ab nb cb)) tab15_4 bits15_4 KC (fun hHeld HT_ HW_ => ?_)
    refine p_ 0 18 ?_
    refine p_ 1 19 ?_
    refine p_ 2 20 ?_
    refine t_ 3 21 hHeld ?_ (hy := by
        intro w' hS'
        have s1 := hS'.1
        go_simp
        rfl)
    refine p_ 4 22 ?_
    refine p_ 5 23 ?_
    refine p_ 6 24 ?_
    refine t_ 7 25 hHeld ?_ (hy := by
        intro w' hS'
        have s1 := hS'.2
        go_simp
        rfl)
    refine n_ 8 (some 26) (fun K hK => ?_)
    refine g_ Tryz.func54 #[.slice Ab nb cb] ?_
    with_reducible refine HCL.out.mono ?_
    rintro e w4 ⟨v4, rfl, ho, hb⟩
    obtain ⟨A4, c4, hv4, hi4, hge4⟩ := In.of_own ho
    have I4 := Hide.mk hi4
    have O4 := Hide.mk ho
    have GE4 := Hide.mk hge4
    have B4 := Hide.mk hb
    have KC1 := And.intro (pw_cell_below hb KC.1) (pw_cell_below hb KC.2)
    rw [HNB.out] at hv4
    subst hv4
    refine ⟨_, rfl, ?_⟩
    clear ho hb hi4 hge4
    refine k_ hK KC1 (fun hHeld => ?_)
    clear hK K
    refine p_ 9 4 ?_
    refine p_ 10 5 ?_
    refine p_ 11 6 ?_
    refine d_ ?_
    clear KC KC1 hHeld
    go_wp2
    go_ret3
    rw [HRR.out, HFE.out]
    refine ⟨(K2.out.trans (K8.of_below HDR.out)).trans (K8.of_below B4.out), A4, c4, by rw [HNB.out]; rfl, ⟨I4.out.wide, fun a ha _ => ?_⟩, F2, v2, _, (P2.out.later HDR.out).later B4.out⟩
    obtain ⟨cells, hc⟩ := typed O4.out a.block (by rw [ha]; rfl)
    exact .inr ⟨cells, _, hc⟩
  · rw [if_pos h0] at hR
    have q : (e2 != 0) = true := by simp [h0]
    simp only [ptrOf_bad h0] at HF0
    have HF := Hide.mk HF0
    have HRR := Hide.mk hR.symm
    clear HF0 hR h0
    go_enter Tryz.func15, Tryz.ntmps15
    go_wp2_with (first
      | (go_at_call 55
         with_reducible refine HF.out.mono ?_
         rintro e w2 ⟨F2, v2, bs2, x, rfl, hp, hlast, hk8⟩
         have P2 := Hide.mk hp
         have K2 := Hide.mk hk8
         clear hp hlast hk8))
    go_ret3
    rw [HRR.out]
    exact ⟨K2.out, none, 0, rfl, ⟨(In.nil _ _).wide, fun a ha _ => by cases ha⟩, F2, v2, bs2, P2.out⟩
theorem pin_on (h : PAt w wr b ps pd p) (hg : Good p) (id : Int) : Calls Tryz.prog 14 #[.pointer (some ⟨b, 0, none⟩), .int .i64 id] wr fun e w' => e = .returned (.int .i64 (p.pin id).2) ∧ PAt w w' b ps pd (p.pin id).1 := by
  have HF0 := fetch_on h hg id
  obtain ⟨R, hR⟩ : ∃ R, p.pin id = R := ⟨_, rfl⟩
  rw [hR]
  unfold Pl.pin at hR
  obtain ⟨p2, e2, hfe⟩ : ∃ p2 e2, p.fetch id = (p2, e2) := ⟨_, _, rfl⟩
  rw [hfe] at HF0 hR
  simp only at HF0 hR
  clear h hg hfe
  by_cases h0 : e2 = 0
  · subst h0
    rw [if_neg (by simp)] at hR
    simp only [ptrOf_ok] at HF0
    have HF := Hide.mk HF0
    have HRR := Hide.mk hR.symm
    clear HF0 hR
    go_enter Tryz.func14, Tryz.ntmps14
    go_wp2_with (first
      | (go_at_call 55
         with_reducible refine HF.out.mono ?_
         rintro e w2 ⟨F2, v2, bs2, x, rfl, hp, hlast, hk8⟩
         obtain ⟨bs0, hbs⟩ := hlast trivial
         rw [hbs] at hp
         have P2 := Hide.mk hp
         obtain ⟨vb, hrow, _⟩ := hp.last.1.ex
         have k3 : w2.cell? ⟨x, 3, none⟩ = some (.int .i64 p2.last.pins) := cell_of hrow
         have f3 := free_of (i := 3) hrow
         clear hp hlast hbs hrow))
    go_ret
    rw [HRR.out]
    have hs := P2.out.last.1.set (i := 3) (y := .int .i64 (wrap64 (p2.last.pins + 1))) (f' := { p2.last with pins := wrap64 (p2.last.pins + 1) }) (fun v => by simp) rfl
    exact ⟨rfl, F2, v2, _, P2.out.set_last hs.2 hs.1⟩
  · rw [if_pos h0] at hR
    have q : (e2 != 0) = true := by simp [h0]
    simp only [ptrOf_bad h0] at HF0
    have HF := Hide.mk HF0
    have HRR := Hide.mk hR.symm
    clear HF0 hR h0
    go_enter Tryz.func14, Tryz.ntmps14
    go_wp2_with (first
      | (go_at_call 55
         with_reducible refine HF.out.mono ?_
         rintro e w2 ⟨F2, v2, bs2, x, rfl, hp, hlast, hk8⟩
         have P2 := Hide.mk hp
         clear hp hlast))
    go_ret
    rw [HRR.out]
    exact ⟨rfl, F2, v2, bs2, P2.out⟩
end
end Go.Proofs.YtplkndmkchpcdaaGreat.Pool
end
section
namespace Go.Proofs.YtplkndmkchpcdaaGreat.Pool
open Go.RowKit YtplkndmkchpcdaaGreatW.PrintWords YtplkndmkchpcdaaGreatW.PrintLast YtplkndmkchpcdaaGreatW.PrintMore MapFn Disk Page Num Bitset Sh
set_option maxHeartbeats 8000000
set_option maxRecDepth 100000
section
variable {w wr w1 w' : World} {b ps pd : Nat} {p : Pl}
theorem palloc_on8 (h : PAt w wr b ps pd p) (hk : Ok p.S) (hk2 : Ok p.room.1.S) (hfew : p.frames.length ≤ 900) (kind : Int) {A : Option Addr} {c : Nat} {body : List Int} (hr : In8 w wr A body c) (hb : Bytes body) (hsh : body.length ≤ 1000) :
    Calls Tryz.prog 13 #[.pointer (some ⟨b, 0, none⟩), .int .i64 kind, .slice A body.length c] wr fun e w' => e = .returned (.tuple #[.int .i64 (p.alloc kind body).2.1, .int .i64 (p.alloc kind body).2.2]) ∧ PAt w w' b ps pd (p.alloc kind body).1 ∧ K8 w wr w' := by
  obtain ⟨F, v, bs, h⟩ := h
  have HFEW : Hide (bs.length ≤ 900) := ⟨by have := h.frs.len; omega⟩
  have HRM0 := room_any h hk (by have := HFEW.out; omega)
  have HI := Hide.mk hr
  have HBB := Hide.mk hb
  have HSH := Hide.mk hsh
  obtain ⟨R, hR⟩ : ∃ R, p.alloc kind body = R := ⟨_, rfl⟩
  rw [hR]
  unfold Pl.alloc at hR
  obtain ⟨p1, e1, hro⟩ : ∃ p1 e1, p.room = (p1, e1) := ⟨_, _, rfl⟩
  rw [hro] at HRM0 hR hk2
  simp only at HRM0 hR hk2
  have HRM := Hide.mk HRM0
  have HOK2 := Hide.mk hk2
  clear HRM0 hr hb hsh hk hk2 hfew h hro
  by_cases h1 : e1 = 0
  · subst h1
    rw [if_neg (by simp)] at hR
    obtain ⟨S1, ni, e2, ha⟩ : ∃ S1 ni e2, p1.S.alloc kind body = (S1, ni, e2) := ⟨_, _, _, rfl⟩
    rw [ha] at hR
    simp only at hR
    have HAE := Hide.mk ha
    by_cases h2 : e2 = 0
    · subst h2
      rw [if_neg (by simp)] at hR
      have HRR := Hide.mk hR.symm
      clear hR ha
      go_enter Tryz.func13, Tryz.ntmps13
      go_wp2_with (first
        | (go_at_call 52
           with_reducible refine HRM.out.mono ?_
           rintro e w3 ⟨rfl, F3, v3, bs3, hp3, hl3, _, hk3⟩
           have P3 := Hide.mk hp3
           have HL3 := Hide.mk hl3
           have K3 := Hide.mk hk3
           have k0 : w3.cell? ⟨b, 0, none⟩ = some (.pointer (some ⟨ps, 0, none⟩)) := cell_of hp3.row
           have HI3 := Hide.mk (HI.out.keep hk3)
           have HA0 := alloc_any kind A c body w3 F3 p1.S hp3.sh HOK2.out HI3.out.in_ HBB.out
           rw [HAE.out, hp3.ep] at HA0
           have HA := Hide.mk HA0
           clear HA0
           clear hp3 hl3 hk3)
        | (go_at_call 20
           with_reducible refine HA.out.mono ?_
           rintro e w4 ⟨rfl, F4, hs, hg⟩
           have P4 := Hide.mk (P3.out.shadow hs hg)
           have K4 := Hide.mk (K3.out.trans (P3.out.k8_goes hg))
           have HI4 := Hide.mk (HI3.out.keep (P3.out.k8_goes hg))
           have HCL := Hide.mk (Given.clone_any A c body w4 HI4.out.in_.reads HI4.out.in_.room (by have := HSH.out; omega))
           clear hs hg)
        | (go_at_call 54
           with_reducible refine HCL.out.mono ?_
           rintro e w5 ⟨v5, rfl, ho, hb⟩
           obtain ⟨A5, c5, hv5, _, _⟩ := In.of_own ho
           obtain ⟨n5, hn5⟩ : ∃ n, body.length = n := ⟨_, rfl⟩
           rw [hn5] at hv5
           subst hv5
           have P5 := Hide.mk (P4.out.later hb)
           have O5 := Hide.mk ho
           have HSZ4 := Hide.mk P4.out.below.size
           have K5 := Hide.mk (K4.out.trans (K8.of_below (w := w) hb))
           clear ho hb hn5)
        | (go_at_call 53
           obtain ⟨W, hW⟩ : ∃ W, w5.alloc (.cells #[.int .i64 ni, .int .i64 kind, .slice A5 n5 c5, .int .i64 0, .bool false] 88) = W := ⟨_, rfl⟩
           rw [hW]
           have hal := (Below.refl w5.heap.size w5).alloc (Nat.le_refl _) (.cells #[.int .i64 ni, .int .i64 kind, .slice A5 n5 c5, .int .i64 0, .bool false] 88)
           have rowf := heap_last w5 (.cells #[.int .i64 ni, .int .i64 kind, .slice A5 n5 c5, .int .i64 0, .bool false] 88)
           rw [hW] at hal rowf
           have hfx : FrAt W w.heap.size w5.heap.size ⟨ni, kind, body, 0, false⟩ := ⟨⟨_, rowf, Kd.R_below (Kd.R_lower O5.out HSZ4.out) hal⟩, P5.out.below.size, HBB.out, HSH.out⟩
           have hnx : ¬ w5.heap.size ∈ bs3 := fun hx => by obtain ⟨f, hf⟩ := P5.out.frs.mem hx; have := hf.lt; omega
           refine (hold_any (P5.out.later hal) hfx hnx (fun A hA a ha e => by have := P5.out.sh.slice_lt A hA a ha; omega) (by have := HL3.out; have := HFEW.out; omega)).mono ?_
           rintro e w6 ⟨rfl, hk6, v6, hp6⟩
           have P6 := Hide.mk hp6
           have K6 := Hide.mk (K5.out.trans ((K8.of_below (w := w) hal).trans hk6))
           clear hW hal rowf hfx hnx hp6 hk6))
      go_ret2
      rw [HRR.out]
      exact ⟨rfl, ⟨F4, v6, _, P6.out⟩, K6.out⟩
    · rw [if_pos h2] at hR
      have q : (e2 != 0) = true := by simp [h2]
      have HRR := Hide.mk hR.symm
      clear hR ha h2
      go_enter Tryz.func13, Tryz.ntmps13
      go_wp2_with (first
        | (go_at_call 52
           with_reducible refine HRM.out.mono ?_
           rintro e w3 ⟨rfl, F3, v3, bs3, hp3, hl3, _, hk3⟩
           have P3 := Hide.mk hp3
           have HL3 := Hide.mk hl3
           have K3 := Hide.mk hk3
           have k0 : w3.cell? ⟨b, 0, none⟩ = some (.pointer (some ⟨ps, 0, none⟩)) := cell_of hp3.row
           have HI3 := Hide.mk (HI.out.keep hk3)
           have HA0 := alloc_any kind A c body w3 F3 p1.S hp3.sh HOK2.out HI3.out.in_ HBB.out
           rw [HAE.out, hp3.ep] at HA0
           have HA := Hide.mk HA0
           clear HA0
           clear hp3 hl3 hk3)
        | (go_at_call 20
           with_reducible refine HA.out.mono ?_
           rintro e w4 ⟨rfl, F4, hs, hg⟩
           have P4 := Hide.mk (P3.out.shadow hs hg)
           have K4 := Hide.mk (K3.out.trans (P3.out.k8_goes hg))
           clear hs hg))
      go_ret2
      rw [HRR.out]
      exact ⟨rfl, ⟨F4, v3, bs3, P4.out⟩, K4.out⟩
  · rw [if_pos h1] at hR
    have q : (e1 != 0) = true := by simp [h1]
    have HRR := Hide.mk hR.symm
    clear hR h1
    go_enter Tryz.func13, Tryz.ntmps13
    go_wp2_with (first
      | (go_at_call 52
         with_reducible refine HRM.out.mono ?_
         rintro e w3 ⟨rfl, F3, v3, bs3, hp3, hl3, _, hk3⟩
         have P3 := Hide.mk hp3
         have HL3 := Hide.mk hl3
         have K3 := Hide.mk hk3
         clear hp3 hl3 hk3))
    go_ret2
    rw [HRR.out]
    exact ⟨rfl, ⟨F3, v3, bs3, P3.out⟩, K3.out⟩
theorem palloc_on (h : PAt w wr b ps pd p) (hk : Ok p.S) (hk2 : Ok p.room.1.S) (hfew : p.frames.length ≤ 900) (kind : Int) {A : Option Addr} {c : Nat} {body : List Int} (hr : In8 w wr A body c) (hb : Bytes body) (hsh : body.length ≤ 1000) :
    Calls Tryz.prog 13 #[.pointer (some ⟨b, 0, none⟩), .int .i64 kind, .slice A body.length c] wr fun e w' => e = .returned (.tuple #[.int .i64 (p.alloc kind body).2.1, .int .i64 (p.alloc kind body).2.2]) ∧ PAt w w' b ps pd (p.alloc kind body).1 := (palloc_on8 h hk hk2 hfew kind hr hb hsh).mono fun _ _ q => ⟨q.1, q.2.1⟩
theorem pfree_on8 (h : PAt w wr b ps pd p) (hok : Ok p.S) (hfew : p.frames.length ≤ 900) (id : Int) : Calls Tryz.prog 18 #[.pointer (some ⟨b, 0, none⟩), .int .i64 id] wr fun e w' => e = .returned (.int .i64 (p.free id).2) ∧ PAt w w' b ps pd (p.free id).1 ∧ K8 w wr w' := by
  obtain ⟨F, v, bs, h⟩ := h
  have hlen := h.frs.len
  have H := Hide.mk h
  have HOK := Hide.mk hok
  have HPL := place_any h id (by omega)
  obtain ⟨R, hR⟩ : ∃ R, p.free id = R := ⟨_, rfl⟩
  rw [hR]
  unfold Pl.free at hR
  obtain ⟨S1, E, hfr⟩ : ∃ S1 E, p.S.free id = (S1, E) := ⟨_, _, rfl⟩
  rw [hfr] at hR
  simp only at hR
  have HFE := Hide.mk hfr
  clear hok hfr
  rcases idxF_at (fun f => decide (f.id = id)) p.frames 0 with e | ⟨k, hkl, e, hq⟩
  · rw [show idxF (fun f => decide (f.id = id)) p.frames 0 = p.place id from rfl] at e
    rw [e] at HPL hR
    rw [if_neg (fun h => absurd h.1 (by decide)), if_neg (show ¬ (0 : Int) ≤ -1 by decide)] at hR
    replace HPL := Hide.mk HPL
    by_cases hE : E = 0
    · subst hE
      rw [if_neg (by simp)] at hR
      have HRR := Hide.mk hR.symm
      clear h hR e hlen hfew
      go_enter Tryz.func18, Tryz.ntmps18
      go_wp2_with (first
        | (go_at_call 57
           refine HPL.out.mono ?_
           rintro e w1 ⟨rfl, hb⟩
           have P1 := Hide.mk (H.out.later hb)
           have HK1 := Hide.mk (K8.of_below (w := w) hb)
           have k0 : w1.cell? ⟨b, 0, none⟩ = some (.pointer (some ⟨ps, 0, none⟩)) := cell_of P1.out.row
           have HFR0 := free_any id w1 F p.S P1.out.sh HOK.out
           rw [HFE.out, P1.out.ep] at HFR0
           have HFR := Hide.mk HFR0
           clear HFR0
           clear hb)
        | (go_at_call 24
           with_reducible refine HFR.out.mono ?_
           rintro e w2 ⟨rfl, F2, hs, hg⟩
           have P2 := Hide.mk (P1.out.shadow hs hg)
           have KF := Hide.mk (HK1.out.trans (P1.out.k8_goes hg))
           clear hs hg))
      go_ret
      rw [HRR.out]
      exact ⟨rfl, ⟨F2, v, bs, P2.out⟩, KF.out⟩
    · rw [if_pos hE] at hR
      have q : (E != 0) = true := by simp [hE]
      have HRR := Hide.mk hR.symm
      clear h hR e hlen hfew hE
      go_enter Tryz.func18, Tryz.ntmps18
      go_wp2_with (first
        | (go_at_call 57
           refine HPL.out.mono ?_
           rintro e w1 ⟨rfl, hb⟩
           have P1 := Hide.mk (H.out.later hb)
           have HK1 := Hide.mk (K8.of_below (w := w) hb)
           have k0 : w1.cell? ⟨b, 0, none⟩ = some (.pointer (some ⟨ps, 0, none⟩)) := cell_of P1.out.row
           have HFR0 := free_any id w1 F p.S P1.out.sh HOK.out
           rw [HFE.out, P1.out.ep] at HFR0
           have HFR := Hide.mk HFR0
           clear HFR0
           clear hb)
        | (go_at_call 24
           with_reducible refine HFR.out.mono ?_
           rintro e w2 ⟨rfl, F2, hs, hg⟩
           have P2 := Hide.mk (P1.out.shadow hs hg)
           have KF := Hide.mk (HK1.out.trans (P1.out.k8_goes hg))
           clear hs hg))
      go_ret
      rw [HRR.out]
      exact ⟨rfl, ⟨F2, v, bs, P2.out⟩, KF.out⟩
  · rw [show idxF (fun f => decide (f.id = id)) p.frames 0 = p.place id from rfl, Nat.zero_add] at e
    rw [e] at HPL hR
    rw [Int.toNat_natCast] at hR
    replace HPL := Hide.mk HPL
    have hkb : k < bs.length := by omega
    obtain ⟨g, c0, hvg, _, _, _⟩ := Kd.R_form h.arr (by rw [List.length_map]; omega)
    rw [List.length_map] at hvg
    obtain ⟨c, hc⟩ : ∃ d, c0 = d := ⟨_, rfl⟩
    rw [hc] at hvg
    subst hvg
    have HKL := Hide.mk hkb
    have HKE : Hide (((k + 1 : Nat) : Int) = (k : Int) + 1) := ⟨by omega⟩
    have hki : (k : Int) < (bs.length : Int) := by omega
    have hk0 : ¬ (k : Int) < 0 := by omega
    have hkp : (0 : Int) ≤ (k : Int) := by omega
    have hk1 : (k : Int) ≤ 1000 := by omega
    obtain ⟨x, hx⟩ : ∃ x, bs[k] = x := ⟨_, rfl⟩
    have HXB := Hide.mk hx
    obtain ⟨f, hf⟩ : ∃ f, p.frames.getD k Fr.none = f := ⟨_, rfl⟩
    have HFB := Hide.mk hf
    rw [hf] at hR
    have HX : Hide (∀ w2, PIn w w2 b ps pd F (.slice (some ⟨g, 0, none⟩) bs.length c) bs p → w2.cell? ⟨g, k, none⟩ = some (.pointer (some ⟨x, 0, none⟩))) := ⟨fun w2 hp => by
      obtain ⟨hn, _, hC⟩ := Kd.R_reads' hp.arr
      rw [List.length_map] at hC
      obtain ⟨ad, had, hcx⟩ := at_ptr hC (k : Int) (by omega) hki
      cases had
      have hrd : rdOf none (bs.map some) (k : Int) = some bs[k] := by simp [rdOf, List.getD_eq_getElem?_getD, hkb]
      rw [hrd, Int.toNat_natCast, Go.WideShapes.add_plain, Nat.zero_add, hx] at hcx
      exact hcx⟩
    by_cases hz : 0 < f.pins
    · rw [if_pos ⟨hkp, hz⟩] at hR
      have HRR := Hide.mk hR.symm
      clear h hR e hlen hfew hkl hq hx hf hc
      go_enter Tryz.func18, Tryz.ntmps18
      go_wp2_with (first
        | (go_at_call 57
           refine HPL.out.mono ?_
           rintro e w1 ⟨rfl, hb⟩
           have P1 := Hide.mk (H.out.later hb)
           have HK1 := Hide.mk (K8.of_below (w := w) hb)
           have k2 : w1.cell? ⟨b, 2, none⟩ = some (.slice (some ⟨g, 0, none⟩) bs.length c) := cell_of P1.out.row
           have kx := HX.out _ P1.out
           obtain ⟨vx, hrx, _⟩ := (P1.out.fr HKL.out).ex
           have rwx := hrx
           rw [HXB.out, HFB.out] at rwx
           have k3 : w1.cell? ⟨x, 3, none⟩ = some (.int .i64 f.pins) := cell_of rwx
           have f3 := free_of (i := 3) rwx
           clear hrx rwx
           clear hb))
      go_ret
      rw [HRR.out]
      exact ⟨rfl, ⟨F, _, bs, P1.out⟩, HK1.out⟩
    · rw [if_neg (fun h => hz h.2), if_pos hkp] at hR
      by_cases hE : E = 0
      · subst hE
        rw [if_neg (by simp)] at hR
        have HRR := Hide.mk hR.symm
        clear h hR e hlen hfew hkl hq hx hf hc
        go_enter Tryz.func18, Tryz.ntmps18
        go_wp2_with (first
          | (go_at_call 57
             refine HPL.out.mono ?_
             rintro e w1 ⟨rfl, hb⟩
             have P1 := Hide.mk (H.out.later hb)
             have HK1 := Hide.mk (K8.of_below (w := w) hb)
             have k2 : w1.cell? ⟨b, 2, none⟩ = some (.slice (some ⟨g, 0, none⟩) bs.length c) := cell_of P1.out.row
             have kx := HX.out _ P1.out
             obtain ⟨vx, hrx, _⟩ := (P1.out.fr HKL.out).ex
             have rwx := hrx
             rw [HXB.out, HFB.out] at rwx
             have k3 : w1.cell? ⟨x, 3, none⟩ = some (.int .i64 f.pins) := cell_of rwx
             have f3 := free_of (i := 3) rwx
             clear hrx rwx
             have k0 : w1.cell? ⟨b, 0, none⟩ = some (.pointer (some ⟨ps, 0, none⟩)) := cell_of P1.out.row
             have HFR0 := free_any id w1 F p.S P1.out.sh HOK.out
             rw [HFE.out, P1.out.ep] at HFR0
             have HFR := Hide.mk HFR0
             clear HFR0
             clear hb)
          | (go_at_call 24
             with_reducible refine HFR.out.mono ?_
             rintro e w2 ⟨rfl, F2, hs, hg⟩
             have P2 := Hide.mk (P1.out.shadow hs hg)
             have KF := Hide.mk (HK1.out.trans (P1.out.k8_goes hg))
             have k2b : w2.cell? ⟨b, 2, none⟩ = some (.slice (some ⟨g, 0, none⟩) bs.length c) := cell_of P2.out.row
             have HDL0 := delete_any k P2.out.arr HKL.out
             rw [HKE.out] at HDL0
             have HDL := Hide.mk HDL0
             clear HDL0
             clear hs hg)
          | (go_at_call 58
             with_reducible refine HDL.out.mono ?_
             rintro e w4 ⟨rfl, ho4, hg4⟩
             have hz4 := P2.out.frs.erase k
             have nd4 := P2.out.nodup.sublist (List.eraseIdx_sublist bs k)
             obtain ⟨d2, f2, hp4, hk4⟩ := P2.out.restored (v1 := .slice (some ⟨g, 0, none⟩) (bs.length - 1) c) hg4 ho4 (.inl rfl) nd4 hz4 (fun x hx => .inl (List.mem_of_mem_eraseIdx hx))
             have P4 := Hide.mk hp4
             have KD := Hide.mk (KF.out.trans hk4)
             clear ho4 hg4 hz4 nd4 hp4 hk4))
        go_ret
        rw [HRR.out]
        exact ⟨rfl, ⟨F2, _, _, P4.out⟩, KD.out⟩
      · rw [if_pos hE] at hR
        have q : (E != 0) = true := by simp [hE]
        have HRR := Hide.mk hR.symm
        clear h hR e hlen hfew hkl hq hx hf hc hE
        go_enter Tryz.func18, Tryz.ntmps18
        go_wp2_with (first
          | (go_at_call 57
             refine HPL.out.mono ?_
             rintro e w1 ⟨rfl, hb⟩
             have P1 := Hide.mk (H.out.later hb)
             have HK1 := Hide.mk (K8.of_below (w := w) hb)
             have k2 : w1.cell? ⟨b, 2, none⟩ = some (.slice (some ⟨g, 0, none⟩) bs.length c) := cell_of P1.out.row
             have kx := HX.out _ P1.out
             obtain ⟨vx, hrx, _⟩ := (P1.out.fr HKL.out).ex
             have rwx := hrx
             rw [HXB.out, HFB.out] at rwx
             have k3 : w1.cell? ⟨x, 3, none⟩ = some (.int .i64 f.pins) := cell_of rwx
             have f3 := free_of (i := 3) rwx
             clear hrx rwx
             have k0 : w1.cell? ⟨b, 0, none⟩ = some (.pointer (some ⟨ps, 0, none⟩)) := cell_of P1.out.row
             have HFR0 := free_any id w1 F p.S P1.out.sh HOK.out
             rw [HFE.out, P1.out.ep] at HFR0
             have HFR := Hide.mk HFR0
             clear HFR0
             clear hb)
          | (go_at_call 24
             with_reducible refine HFR.out.mono ?_
             rintro e w2 ⟨rfl, F2, hs, hg⟩
             have P2 := Hide.mk (P1.out.shadow hs hg)
             have KF := Hide.mk (HK1.out.trans (P1.out.k8_goes hg))
             clear hs hg))
        go_ret
        rw [HRR.out]
        exact ⟨rfl, ⟨F2, _, bs, P2.out⟩, KF.out⟩
end
end Go.Proofs.YtplkndmkchpcdaaGreat.Pool
end
section
namespace Go.Proofs.YtplkndmkchpcdaaGreat.Pool
open Go.RowKit Go.Sort Go.Shelf YtplkndmkchpcdaaGreatW.PrintWords YtplkndmkchpcdaaGreatW.PrintLast YtplkndmkchpcdaaGreatW.PrintMore MapFn Disk Page Num Bitset Sh
set_option maxHeartbeats 8000000
set_option maxRecDepth 100000
section
variable {w wr w1 w' : World} {b ps pd : Nat} {p : Pl}
def sortL (l : List Int) : List Int := l.mergeSort fun x y => decide (x ≤ y)
theorem sort_own {base : Nat} {ok : Nat → Prop} {v : Value} {l : List Int} (h : Kd.R (Kd.int .i64) 3 wr base ok v l) (hl : l.length ≤ 100000) :
    Calls Tryz.prog 56 #[v] wr fun e w' => e = .returned (.tuple #[]) ∧ Kd.R (Kd.int .i64) 3 w' base ok v (sortL l) ∧ wr.grownBy w' v.ownBlock := by
  have hs : (sortL l).length = l.length := List.length_mergeSort l
  cases l with
  | nil =>
    obtain ⟨A, c, rfl⟩ := Kd.R_slice h
    refine (AnyM.slices_Sort_int_none Tryz.sortA A c wr).mono ?_
    rintro e w' ⟨rfl, rfl⟩
    exact ⟨rfl, by rw [show sortL [] = [] from List.mergeSort_nil]; exact h, ⟨rfl, rfl, rfl, Nat.le_refl _, fun _ _ _ => rfl⟩⟩
  | cons x r =>
    have ho := Kd.own_of_R (enc := Value.int .i64) (h1 := fun _ => rfl) h
    rcases ho.2 with ⟨_, e⟩ | ⟨g, cap, cur, rfl, hb, hrow, hn, hm, hsz, ht⟩
    · simp at e
    · refine (AnyM.slices_Sort_int Tryz.sortA g 0 cap (x :: r) wr (holds_of_blockI hrow (by rw [Nat.mul_one] at ht; exact ht)) (lt_of_row hrow) (by omega)).mono ?_
      rintro e w' ⟨rfl, n, os, rfl⟩
      refine ⟨rfl, Kd.R_of_own (enc := Value.int .i64) (h1 := fun _ => rfl) ?_ h.1, grownBy_sortedI _⟩
      have := ownsRow_sortedI (w := wr) (n := n) (os := os) (ss := x :: r) (ts := sortL (x :: r)) hs hb hrow hn hm hsz
      rw [hs]
      exact this
theorem held_on {w0 : World} (h : PAt w w0 b ps pd p) (hfew : p.frames.length ≤ 900) : Calls Tryz.prog 16 #[.pointer (some ⟨b, 0, none⟩)] w0 fun e w' => ∃ A c, e = .returned (.slice A p.held.length c) ∧ In .i64 w' A p.held c ∧ (∀ a, A = some a → w0.heap.size ≤ a.block) ∧ PAt w w' b ps pd p := by
  obtain ⟨F, v, bs, h⟩ := h
  have hlen := h.frs.len
  obtain ⟨A, c, hv, hC⟩ := h.slice
  have H := Hide.mk h
  have HC := Hide.mk hC
  have HL := Hide.mk hlen
  have hn : bs.length ≤ 900 := by omega
  obtain ⟨L, hL⟩ : ∃ L, p.frames.map (·.id) = L := ⟨_, rfl⟩
  have hLl : L.length = bs.length := by rw [← hL, List.length_map]; omega
  have HE := Hide.mk hL
  have HLL := Hide.mk hLl
  subst hv
  have c2 : w0.cell? ⟨b, 2, none⟩ = some (.slice A bs.length c) := cell_of h.row
  clear h hlen hC hfew hL hLl
  go_enter Tryz.func16, Tryz.ntmps16
  go_wp2
  go_loopw [3, 13] (fun v3 v13 wx => ∃ (i : Nat) (A3 : Option Addr) (c3 : Nat), v13 = .int .i64 (i : Int) ∧ v3 = .slice A3 i c3 ∧ Hide (i ≤ bs.length) ∧ Hide (Kd.R (Kd.int .i64) 3 wx w0.heap.size (fun _ => True) (.slice A3 i c3) (L.take i)) ∧ Hide (Below w0.heap.size w0 wx)) (fun _ v13 _ => bs.length - (intOf v13).toNat)
  case atStart => exact ⟨0, none, 0, by first | rfl | simp, rfl, ⟨Nat.zero_le _⟩, ⟨Kd.R_nil _ _ _ _ _⟩, ⟨Below.refl _ _⟩⟩
  case round =>
    obtain ⟨i, A3, c3, rfl, rfl, hi, hO, hB⟩ := hrel
    by_cases hlt0 : i < bs.length
    · have hlt : (i : Int) < (bs.length : Int) := by omega
      obtain ⟨ad, rfl, hcell⟩ := at_ptr (Kd.C_below HC.out hB.out) (i : Int) (by omega) hlt
      rw [Int.toNat_natCast] at hcell
      have hfr := H.out.fr hlt0
      have hil : i < L.length := by rw [HLL.out]; exact hlt0
      have hid : (p.frames.getD i Fr.none).id = L[i] := by
        have hf : i < p.frames.length := by have := HL.out; omega
        rw [List.getD_eq_getElem?_getD, List.getElem?_eq_getElem hf]
        have : L[i]? = (p.frames.map (·.id))[i]? := by rw [HE.out]
        rw [List.getElem?_map, List.getElem?_eq_getElem hf, List.getElem?_eq_getElem hil] at this
        simpa using this.symm
      have hrd : rdOf none (bs.map some) (i : Int) = some bs[i] := by simp [rdOf, List.getD_eq_getElem?_getD, hlt0]
      rw [hrd] at hcell
      obtain ⟨vx, hrx, _⟩ := hfr.ex
      rw [hid] at hrx
      have NX : Hide (L.take (i + 1) = L.take i ++ [L[i]]) := ⟨by rw [List.take_add_one, List.getElem?_eq_getElem hil]; rfl⟩
      have HTL : Hide ((L.take i).length = i) := ⟨by rw [List.length_take]; omega⟩
      generalize bs[i] = x at *
      generalize L[i] = y at *
      have hcell2 : wr.cell? (ad.add i) = some (.pointer (some ⟨x, 0, none⟩)) := hcell
      have kx : wr.cell? ⟨x, 0, none⟩ = some (.int .i64 y) := pw_cell_below hB.out (show w0.cell? ⟨x, 0, none⟩ = some (.int .i64 y) from cell_of hrx)
      have LT := Hide.mk hlt0
      clear hcell hfr hid hrd hrx hlt0 hil
      go_wp2_with ((with_reducible refine gate_builtin (b := .append) (xs := #[.tmp 17, .tmp 22]) rfl ?_); at_builtin
                   refine Kd.R_append (Kd.int .i64) (w0 := wr) w0.heap.size rfl (.tmp 17) (.tmp 22) 38 3 (.int .i64 0) 8 rfl Tryz.underlying38 infoI rfl (by decide) (by omega) (.slice A3 i c3) (L.take i) y [.int .i64 y] (fun _ => True) (fun _ => False) rfl rfl rfl (fun _ h => h.elim) (fun _ _ => trivial) hO.out (Below.refl _ _) hB.out.size (by rw [HTL.out]; omega) ?_
                   intro v4 w4 ho hb hg hat
                   rw [← NX.out] at ho
                   obtain ⟨A4, c4, hv4⟩ := Kd.R_slice ho
                   have hl4 : (L.take (i + 1)).length = i + 1 := by rw [NX.out, List.length_append, HTL.out]; rfl
                   rw [hl4] at hv4
                   subst hv4
                   have O4 := Hide.mk ho
                   have B4 := Hide.mk hb
                   clear ho hb hg hat hl4)
      go_roundw
      case rel => exact ⟨i + 1, A4, c4, by go_num, rfl, ⟨by have := LT.out; omega⟩, O4, ⟨hB.out.trans B4.out⟩⟩
      case measure => have := LT.out; simp [intOf]; omega
    · have hlt : ¬ (i : Int) < (bs.length : Int) := by omega
      have E := Hide.mk (show i = bs.length by have := hi.out; omega)
      have hO2 := hO.out
      rw [E.out, ← HLL.out, List.take_length] at hO2
      have HSO0 := sort_own hO2 (by rw [HLL.out]; omega)
      rw [HLL.out, ← E.out] at HSO0
      have HSO := Hide.mk HSO0
      clear hlt0 hO2 HSO0
      go_wp2_with (go_at_call 56; refine HSO.out.mono ?_; rintro e w5 ⟨rfl, ho, hg⟩; have O5 := Hide.mk ho; have G5 := Hide.mk hg; clear ho hg)
      go_ret
      obtain ⟨A6, c6, hv6, hi6, hge6⟩ := In.of_own O5.out
      have hsl : (sortL L).length = i := by rw [E.out, ← HLL.out]; exact List.length_mergeSort L
      have hh : p.held = sortL L := by unfold Pl.held; rw [HE.out]; rfl
      rw [hsl] at hv6
      cases hv6
      have hbw : Below w0.heap.size w0 w5 := hB.out.grown G5.out hB.out.size (fun k hk => by cases A3 with | none => cases hk | some a => cases hk; exact hge6 a rfl)
      exact ⟨A3, c3, by rw [hh, hsl]; rfl, by rw [hh]; exact hi6, hge6, F, _, bs, H.out.later hbw⟩
theorem hits_on (h : PAt w wr b ps pd p) : Calls Tryz.prog 41 #[.pointer (some ⟨b, 0, none⟩)] wr fun e w' => e = .returned (.int .i64 p.hits) ∧ w' = wr := by
  obtain ⟨F, v, bs, h⟩ := h
  have c3 : wr.cell? ⟨b, 3, none⟩ = some (.int .i64 p.hits) := cell_of h.row
  clear h
  go_enter Tryz.func41, Tryz.ntmps41
  go_wp2
  go_ret
  exact ⟨rfl, rfl⟩
theorem misses_on (h : PAt w wr b ps pd p) : Calls Tryz.prog 42 #[.pointer (some ⟨b, 0, none⟩)] wr fun e w' => e = .returned (.int .i64 p.misses) ∧ w' = wr := by
  obtain ⟨F, v, bs, h⟩ := h
  have c4 : wr.cell? ⟨b, 4, none⟩ = some (.int .i64 p.misses) := cell_of h.row
  clear h
  go_enter Tryz.func42, Tryz.ntmps42
  go_wp2
  go_ret
  exact ⟨rfl, rfl⟩
theorem pnew_on {S : Sh} (h : On w wr ps pd S) (n : Int) (h1 : 1 ≤ n) (h2 : n ≤ 64) : Calls Tryz.prog 12 #[.pointer (some ⟨ps, 0, none⟩), .int .i64 n] wr fun e w' => ∃ b, e = .returned (.tuple #[.pointer (some ⟨b, 0, none⟩), .int .i64 0]) ∧ PAt w w' b ps pd (Pl.new S n) := by
  obtain ⟨⟨F, hs, ep, epd, ho⟩, hb⟩ := h
  refine (poolnew_any n hs ep epd ho hb h1 h2).mono ?_
  rintro e w2 ⟨b, rfl, hp⟩
  exact ⟨b, rfl, F, _, _, hp⟩
theorem PAt.below (h : PAt w wr b ps pd p) : Below w.heap.size w wr := by obtain ⟨_, _, _, h⟩ := h; exact h.below
theorem PAt.later (h : PAt w wr b ps pd p) (hb : Below wr.heap.size wr w') : PAt w w' b ps pd p := by obtain ⟨F, v, bs, h⟩ := h; exact ⟨F, v, bs, h.later hb⟩
end
end Go.Proofs.YtplkndmkchpcdaaGreat.Pool
end
section
namespace Go.Proofs.YtplkndmkchpcdaaGreat.Pool
open Go.RowKit YtplkndmkchpcdaaGreatW.PrintWords YtplkndmkchpcdaaGreatW.PrintLast YtplkndmkchpcdaaGreatW.PrintMore MapFn Disk Page Num Bitset Sh
set_option maxHeartbeats 8000000
set_option maxRecDepth 100000
section
variable {w wr w1 w' : World} {b ps pd : Nat} {p : Pl}
theorem pset_on8 (h : PAt w wr b ps pd p) (hg : Good p) (id kind : Int) {A : Option Addr} {c : Nat} {body : List Int} (hr : In8 w wr A body c) (hb : Bytes body) (hsh : body.length ≤ 1000) :
    Calls Tryz.prog 36 #[.pointer (some ⟨b, 0, none⟩), .int .i64 id, .int .i64 kind, .slice A body.length c] wr fun e w' => e = .returned (.int .i64 (p.set id kind body).2) ∧ PAt w w' b ps pd (p.set id kind body).1 ∧ K8 w wr w' := by
  have HF0 := fetch_on h hg id
  have HI := Hide.mk hr
  have HBB := Hide.mk hb
  have HSH := Hide.mk hsh
  obtain ⟨R, hR⟩ : ∃ R, p.set id kind body = R := ⟨_, rfl⟩
  rw [hR]
  unfold Pl.set at hR
  obtain ⟨p2, e2, hfe⟩ : ∃ p2 e2, p.fetch id = (p2, e2) := ⟨_, _, rfl⟩
  rw [hfe] at HF0 hR
  simp only at HF0 hR
  obtain ⟨nb, hnb⟩ : ∃ n, body.length = n := ⟨_, rfl⟩
  rw [hnb]
  have HNN := Hide.mk hnb
  clear h hg hfe hr hb hsh
  by_cases h0 : e2 = 0
  · subst h0
    rw [if_neg (by simp)] at hR
    simp only [ptrOf_ok] at HF0
    have HF := Hide.mk HF0
    clear HF0
    by_cases h1 : sealE kind 1 body.length = 0
    · rw [if_neg (by simpa using h1)] at hR
      have HE1 := Hide.mk h1
      have HRR := Hide.mk hR.symm
      clear hR h1 hnb
      go_enter Tryz.func36, Tryz.ntmps36
      go_wp2_with (first
        | (go_at_call 55
           with_reducible refine HF.out.mono ?_
           rintro e w2 ⟨F2, v2, bs2, x, rfl, hp, hlast, hk8⟩
           have K2 := Hide.mk hk8
           obtain ⟨bs0, hbs⟩ := hlast trivial
           rw [hbs] at hp
           have P2 := Hide.mk hp
           have I2 := Hide.mk (HI.out.keep hk8)
           have HSE0 := seal_ok kind 1 A c body w2 I2.out.in_.reads HBB.out HE1.out
           rw [HNN.out] at HSE0
           have HSE := Hide.mk HSE0
           clear hp hlast hbs hk8 HSE0)
        | (go_at_call 64
           with_reducible refine HSE.out.mono ?_
           rintro e w3 ⟨v3, rfl, _, hb⟩
           obtain ⟨z3, hz3⟩ : ∃ z, v3 = z := ⟨_, rfl⟩
           subst hz3
           have P3 := Hide.mk (P2.out.later hb)
           have I3 := Hide.mk (I2.out.keep (K8.of_below (w := w) hb))
           have K3 := Hide.mk (K2.out.trans (K8.of_below (w := w) hb))
           have HCL0 := Given.clone_any A c body w3 I3.out.in_.reads I3.out.in_.room (by have := HSH.out; omega)
           rw [HNN.out] at HCL0
           have HCL := Hide.mk HCL0
           clear hb HCL0)
        | (go_at_call 54
           with_reducible refine HCL.out.mono ?_
           rintro e w5 ⟨v5, rfl, ho, hb⟩
           obtain ⟨A5, c5, hv5, _, _⟩ := In.of_own ho
           rw [HNN.out] at hv5
           subst hv5
           have P5 := Hide.mk (P3.out.later hb)
           have O5 := Hide.mk ho
           have HSZ3 := Hide.mk P3.out.below.size
           have K5 := Hide.mk (K3.out.trans (K8.of_below (w := w) hb))
           obtain ⟨vb, hrow, _⟩ := P5.out.last.1.ex
           have HROW := Hide.mk hrow
           have f1 := free_of (i := 1) hrow
           have k1 : w5.cell? ⟨x, 1, none⟩ = some (.int .i64 p2.last.kind) := cell_of hrow
           have hs1 := set_row (i := 1) hrow (.int .i64 kind)
           have f2 := free_of (i := 2) hs1
           have k2 : w5.cell? ⟨x, 2, none⟩ = some vb := cell_of hrow
           have k2b : (w5.setCell ⟨x, 1, none⟩ (.int .i64 kind)).cell? ⟨x, 2, none⟩ = some vb := by rw [cell_of hs1]; simp
           have hs2 := set_row (i := 2) hs1 (.slice A5 nb c5)
           have f4 := free_of (i := 4) hs2
           have k4 : w5.cell? ⟨x, 4, none⟩ = some (.bool p2.last.dirty) := cell_of hrow
           have k4b : ((w5.setCell ⟨x, 1, none⟩ (.int .i64 kind)).setCell ⟨x, 2, none⟩ (.slice A5 nb c5)).cell? ⟨x, 4, none⟩ = some (.bool p2.last.dirty) := by rw [cell_of hs2]; simp
           clear ho hb hrow hs1 hs2))
      go_ret
      rw [HRR.out]
      have hs1 := set_row (i := 1) HROW.out (.int .i64 kind)
      have hs2 := set_row (i := 2) hs1 (.slice A5 nb c5)
      have hs4 := set_row (i := 4) hs2 (.bool true)
      have hm : Moves [x] w5 (((w5.setCell ⟨x, 1, none⟩ (.int .i64 kind)).setCell ⟨x, 2, none⟩ (.slice A5 nb c5)).setCell ⟨x, 4, none⟩ (.bool true)) := ((Moves.of_grown (set_cell_grown _)).trans (Moves.of_grown (set_cell_grown _))).trans (Moves.of_grown (set_cell_grown _))
      refine ⟨rfl, ⟨F2, v2, _, P5.out.set_last hm ⟨⟨.slice A5 nb c5, by simpa using hs4, ?_⟩, P5.out.last.1.ge, HBB.out, HSH.out⟩⟩, K5.out.trans (K8.of_moves hm fun y hy => by simp only [List.mem_singleton] at hy; subst hy; exact ⟨P5.out.last.1.ge, fun c t f hq hc => ne_of_types hc HROW.out hq.2.2.2 rfl⟩)⟩
      refine R_moves (Kd.R_lower O5.out HSZ3.out) hm fun g hgo hgs => ?_
      simp only [List.mem_singleton] at hgs
      subst hgs
      obtain ⟨cells, hc⟩ := typed O5.out g hgo
      exact ne_of_types hc HROW.out (by decide) rfl
    · rw [if_pos h1] at hR
      have HE1 := Hide.mk h1
      obtain ⟨es, hes⟩ : ∃ z, sealE kind 1 body.length = z := ⟨_, rfl⟩
      rw [hes] at hR h1
      have HES := Hide.mk hes
      have q : (es != 0) = true := by simp [h1]
      have HRR := Hide.mk hR.symm
      clear hR h1 hnb hes
      go_enter Tryz.func36, Tryz.ntmps36
      go_wp2_with (first
        | (go_at_call 55
           with_reducible refine HF.out.mono ?_
           rintro e w2 ⟨F2, v2, bs2, x, rfl, hp, hlast, hk8⟩
           have K2 := Hide.mk hk8
           obtain ⟨bs0, hbs⟩ := hlast trivial
           have P2 := Hide.mk hp
           have I2 := Hide.mk (HI.out.keep hk8)
           have HSE0 := seal_bad kind 1 A c body.length w2 HE1.out
           rw [HES.out, HNN.out] at HSE0
           have HSE := Hide.mk HSE0
           clear hp hlast hbs hk8 HSE0)
        | (go_at_call 64
           with_reducible refine HSE.out.mono ?_
           rintro e w3 ⟨rfl, hb⟩
           have P3 := Hide.mk (P2.out.later hb)
           have I3 := Hide.mk (I2.out.keep (K8.of_below (w := w) hb))
           have K3 := Hide.mk (K2.out.trans (K8.of_below (w := w) hb))
           clear hb))
      go_ret
      rw [HRR.out]
      exact ⟨rfl, ⟨F2, v2, bs2, P3.out⟩, K3.out⟩
  · rw [if_pos h0] at hR
    have q : (e2 != 0) = true := by simp [h0]
    simp only [ptrOf_bad h0] at HF0
    have HF := Hide.mk HF0
    have HRR := Hide.mk hR.symm
    clear HF0 hR h0 hnb
    go_enter Tryz.func36, Tryz.ntmps36
    go_wp2_with (first
      | (go_at_call 55
         with_reducible refine HF.out.mono ?_
         rintro e w2 ⟨F2, v2, bs2, x, rfl, hp, hlast, hk8⟩
         have K2 := Hide.mk hk8
         have P2 := Hide.mk hp
         clear hp hlast))
    go_ret
    rw [HRR.out]
    exact ⟨rfl, ⟨F2, v2, bs2, P2.out⟩, K2.out⟩
theorem pset_on (h : PAt w wr b ps pd p) (hg : Good p) (id kind : Int) {A : Option Addr} {c : Nat} {body : List Int} (hr : In8 w wr A body c) (hb : Bytes body) (hsh : body.length ≤ 1000) :
    Calls Tryz.prog 36 #[.pointer (some ⟨b, 0, none⟩), .int .i64 id, .int .i64 kind, .slice A body.length c] wr fun e w' => e = .returned (.int .i64 (p.set id kind body).2) ∧ PAt w w' b ps pd (p.set id kind body).1 := (pset_on8 h hg id kind hr hb hsh).mono fun _ _ q => ⟨q.1, q.2.1⟩
end
end Go.Proofs.YtplkndmkchpcdaaGreat.Pool
end
