/- The words, and the contracts of the functions that are reached, one behind the other. -/
import Derived.Shelf.SlIterI.Nil
import Derived.Shelf.SortM.Plain
import Derived.Shelf.SortM.SortNone
import Derived.Ground.GgzProg
import Derived.Ground.SlgmProg
import Derived.Test.YtgmkbcoahilkhaaGreatProg
import Derived.Lib.SlBytesConst
import Derived.Shelf.SlicesE.Delete
import Derived.Ground.SlgnProg
import Derived.Lib.OwnBridge
import Derived.Sort.OwnSortedInts
import Derived.Test.YtgmkbcoahilkhaaGreatPHC
section
namespace Go.Proofs.YtgmkbcoahilkhaaGreat.Sh
open Go.RowKit Go.Proofs.YtgmkbcoahilkhaaGreatW.PrintWords Go.Proofs.YtgmkbcoahilkhaaGreatW.PrintLast Go.Proofs.YtgmkbcoahilkhaaGreatW.PrintMore Go.Proofs.YtgmkbcoahilkhaaGreat.MapFn Go.Proofs.YtgmkbcoahilkhaaGreat.Disk Go.Proofs.YtgmkbcoahilkhaaGreat.Bitset Go.Proofs.YtgmkbcoahilkhaaGreat.Page Go.Proofs.YtgmkbcoahilkhaaGreat.PShadowPlays Go.Proofs.YtgmkbcoahilkhaaGreat.Num
set_option linter.unusedVariables false
set_option linter.unusedSimpArgs false
set_option maxHeartbeats 8000000
set_option maxRecDepth 100000
theorem bytes_bytes {r : Root} (h : r.check = 0) : Bytes r.bytes := by
  intro x hx
  unfold Root.bytes at hx
  rcases List.mem_append.1 hx with h1 | h1
  · rcases List.mem_append.1 h1 with h2 | h2
    · exact body_bytes h x h2
    · simp only [tailL, List.mem_cons, List.not_mem_nil, or_false] at h2
      rcases h2 with rfl | rfl | rfl | rfl <;> (unfold IsByte; omega)
  · exact putN_bytes _ _ x h1
def T164_3 : Bool × List (List Nat × List Nat) := (true, [([], []), ([0], [0]), ([], []), ([2], [2]), ([1, 3], [1, 3]), ([4], [4]), ([5, 4], [5])])
def B164_3 : List Nat := [0, 1, 0, 4, 15, 31, 63]
end Go.Proofs.YtgmkbcoahilkhaaGreat.Sh
end
section
namespace Go.Proofs.YtgmkbcoahilkhaaGreat.Sh
open Go.RowKit Go.Proofs.YtgmkbcoahilkhaaGreatW.PrintWords Go.Proofs.YtgmkbcoahilkhaaGreatW.PrintLast Go.Proofs.YtgmkbcoahilkhaaGreatW.PrintMore Go.Proofs.YtgmkbcoahilkhaaGreat.MapFn Go.Proofs.YtgmkbcoahilkhaaGreat.Disk Go.Proofs.YtgmkbcoahilkhaaGreat.Bitset Go.Proofs.YtgmkbcoahilkhaaGreat.Page Go.Proofs.YtgmkbcoahilkhaaGreat.PShadowPlays Go.Proofs.YtgmkbcoahilkhaaGreat.Num
set_option linter.unusedVariables false
set_option linter.unusedSimpArgs false
set_option maxHeartbeats 8000000
set_option maxRecDepth 100000
def bestOf (a b : List Int) : Nat → Root × Int
  | 0 => (⟨-1, 0, 0, 0, [], []⟩, -1)
  | 1 => Root.better (⟨-1, 0, 0, 0, [], []⟩, -1) 0 a
  | _ => Root.better (Root.better (⟨-1, 0, 0, 0, [], []⟩, -1) 0 a) 1 b
end Go.Proofs.YtgmkbcoahilkhaaGreat.Sh
end
section
namespace Go.Proofs.YtgmkbcoahilkhaaGreat.Sh
open Go.RowKit Go.Proofs.YtgmkbcoahilkhaaGreatW.PrintWords Go.Proofs.YtgmkbcoahilkhaaGreatW.PrintLast Go.Proofs.YtgmkbcoahilkhaaGreatW.PrintMore Go.Proofs.YtgmkbcoahilkhaaGreat.MapFn Go.Proofs.YtgmkbcoahilkhaaGreat.Disk Go.Proofs.YtgmkbcoahilkhaaGreat.Bitset Go.Proofs.YtgmkbcoahilkhaaGreat.Page Go.Proofs.YtgmkbcoahilkhaaGreat.PShadowPlays Go.Proofs.YtgmkbcoahilkhaaGreat.Num
set_option linter.unusedVariables false
set_option linter.unusedSimpArgs false
set_option maxHeartbeats 8000000
set_option maxRecDepth 100000
def T72_8 : Bool × List (List Nat × List Nat) := (true, [([], []), ([0], [0]), ([1], [1]), ([2], [2]), ([3, 2], [2, 3]), ([2], [2]), ([5, 2, 2], [2, 5]), ([4, 6, 2], [2, 4, 6]), ([2, 7], [2, 7])])
def B72_8 : List Nat := [0, 1, 3, 7, 15, 7, 39, 127, 255]
end Go.Proofs.YtgmkbcoahilkhaaGreat.Sh
end
section
namespace Go.Proofs.YtgmkbcoahilkhaaGreat.Sh
open Go.RowKit Go.Proofs.YtgmkbcoahilkhaaGreatW.PrintWords Go.Proofs.YtgmkbcoahilkhaaGreatW.PrintLast Go.Proofs.YtgmkbcoahilkhaaGreatW.PrintMore Go.Proofs.YtgmkbcoahilkhaaGreat.MapFn Go.Proofs.YtgmkbcoahilkhaaGreat.Disk Go.Proofs.YtgmkbcoahilkhaaGreat.Bitset Go.Proofs.YtgmkbcoahilkhaaGreat.Page Go.Proofs.YtgmkbcoahilkhaaGreat.PShadowPlays Go.Proofs.YtgmkbcoahilkhaaGreat.Num
set_option linter.unusedVariables false
set_option linter.unusedSimpArgs false
set_option maxHeartbeats 8000000
set_option maxRecDepth 100000
theorem open_body (b : List Int) : (openL b).2.2.1 = [] ∨ ∃ n, (openL b).2.2.1 = (b.drop 6).take n := by
  unfold openL
  repeat' split
  all_goals first | exact .inl rfl | exact .inr ⟨_, rfl⟩
theorem open_body_bytes {b : List Int} (h : Bytes b) : Bytes (openL b).2.2.1 := by
  rcases open_body b with e | ⟨n, e⟩
  · rw [e]; intro x hx; cases hx
  · rw [e]; exact fun x hx => h x (List.mem_of_mem_drop (List.mem_of_mem_take hx))
theorem ShAt.beside {b : List Nat} {w w' : World} {F : Foot} {s : Sh} (h : ShAt w F s) (hm : Moves b w w') (ho : ∀ x ∈ F.own, ¬ x ∈ b) (hs : ∀ A ∈ F.slices, ∀ a, A = some a → ¬ a.block ∈ b) : ShAt w' F s :=
  ⟨(hm.block F.p (h.lts _ (by simp [Foot.own])) (ho _ (by simp [Foot.own]))).trans h.row, h.disk.moves hm (ho _ (by simp [Foot.own])) (ho _ (by simp [Foot.own])) (ho _ (by simp [Foot.own])),
   h.tables.moves hm (hs _ (by simp [Foot.slices])), h.maps.moves hm (hs _ (by simp [Foot.slices])), h.was.moves hm (hs _ (by simp [Foot.slices])), h.used.moves hm (hs _ (by simp [Foot.slices])), h.fresh.moves hm (hs _ (by simp [Foot.slices])), tab_moves h.table hm (ho _ (by simp [Foot.own])), h.ne, h.off⟩
theorem gatherF_cons (kind n : Int) (ns : List Int) (i : Nat) (D : DiskSt) (out : List Int) : Sh.gatherF kind (n :: ns) i D out = if D.at_ n ≠ 0 then (D, [], D.at_ n)
    else if (openL (D.get n)).2.2.2 ≠ 0 ∨ (openL (D.get n)).1 ≠ kind ∨ (openL (D.get n)).2.1 ≠ i then (D.read, [], 4)
    else Sh.gatherF kind ns (i + 1) D.read (out ++ (openL (D.get n)).2.2.1) := by rw [Sh.gatherF]
end Go.Proofs.YtgmkbcoahilkhaaGreat.Sh
end
section
namespace Go.Proofs.YtgmkbcoahilkhaaGreat.Sh
open Go.RowKit Go.Proofs.YtgmkbcoahilkhaaGreatW.PrintWords Go.Proofs.YtgmkbcoahilkhaaGreatW.PrintLast Go.Proofs.YtgmkbcoahilkhaaGreatW.PrintMore Go.Proofs.YtgmkbcoahilkhaaGreat.MapFn Go.Proofs.YtgmkbcoahilkhaaGreat.Disk Go.Proofs.YtgmkbcoahilkhaaGreat.Bitset Go.Proofs.YtgmkbcoahilkhaaGreat.Page Go.Proofs.YtgmkbcoahilkhaaGreat.PShadowPlays Go.Proofs.YtgmkbcoahilkhaaGreat.Num
set_option linter.unusedVariables false
set_option linter.unusedSimpArgs false
set_option maxHeartbeats 8000000
set_option maxRecDepth 100000
def boolE : Enc Bool where
  E := Value.bool
  D x := .lit (.bool x)
  R v := match v with
    | .bool x => some (.lit (.bool x), [])
    | _ => none
  ok _ := True
  put x _ := rfl
  inv v d ps h := by
    split at h
    · rename_i x
      cases h
      exact ⟨x, trivial, rfl, rfl⟩
    · cases h
  inj x y h := by injection h with h1; injection h1
abbrev MapT (w : World) (b : Nat) (m : Int → Option Bool) : Prop := MapFn.MapFn Tryz.prog 3 boolE w b m
section
variable {w : World} {ops : Array Oper} {rest : List Oper} {o : Oper} {a : Act} {Q : Exit → Act → World → Prop}
end
structure Seen (w : World) (b : Nat) (f : Int → Bool) : Prop where
  ex : ∃ m, MapT w b m ∧ (∀ j, (m j).getD false = f j) ∧ ∀ j, (m j).isSome = true → 0 ≤ j ∧ j < (4096 : Nat)
theorem Seen.kept {w w' : World} {b : Nat} {f : Int → Bool} {row : Option Nat} (h : Seen w b f) (hg : w.grownBy w' row) (hne : some b ≠ row) : Seen w' b f := by
  obtain ⟨m, h1, h2, h3⟩ := h.ex
  exact ⟨m, h1.kept hg hne, h2, h3⟩
theorem Seen.lt {w : World} {b : Nat} {f : Int → Bool} (h : Seen w b f) : b < w.heap.size := h.ex.choose_spec.1.lt
theorem Seen.below {w w' : World} {b : Nat} {f : Int → Bool} (h : Seen w b f) (hb : Below w.heap.size w w') : Seen w' b f := h.kept (row := none) ((Moves.of_below hb []).grown _) (by simp)
theorem Seen.made (w : World) : Seen (w.alloc (.map #[] 0)) w.heap.size (fun _ => false) := ⟨fun _ => none, MapFn.MapFn.made w Tryz.prog 3 boolE, fun _ => rfl, fun j h => by cases h⟩
theorem zeroB (w : World) : (zeroValue 4).run Tryz.prog w = .ok (boolE.E false) w := Tryz.zeroValue4 w
theorem Seen.look {w : World} {b : Nat} {f : Int → Bool} (h : Seen w b f) {j : Int} (hj : MapFn.wf j) : (Instr.lookup 145 (.map (some b)) (.int .i64 j) false).run Tryz.prog w = .ok (.bool (f j)) w := by
  obtain ⟨m, h1, h2, h3⟩ := h.ex
  have := h1.look (C := boolE) (t := 145) Tryz.underlying3 Tryz.underlying145 (zeroB _) trivial hj
  rw [h2 j] at this
  exact this
theorem Seen.put {w : World} {b : Nat} {f : Int → Bool} (h : Seen w b f) {j : Int} (h0 : 0 ≤ j) (h1 : j < 4096) :
    ∃ w', (Instr.mapUpdate 145 (.map (some b)) (.int .i64 j) (.bool true)).run Tryz.prog w = .ok () w' ∧ Seen w' b (fun i => decide (i = j) || f i) ∧ w.grownBy w' (some b) := by
  obtain ⟨m, hm, h2, h3⟩ := h.ex
  obtain ⟨w', hr, hm', hg⟩ := hm.store (C := boolE) (t := 145) Tryz.underlying3 Tryz.underlying145 (wf_small h0 h1) (x := true) trivial h3 (by unfold maxLen; omega)
  refine ⟨w', hr, ⟨_, hm', fun i => ?_, fun i hi => ?_⟩, hg⟩
  · unfold upd
    by_cases c : i = j
    · rw [if_pos c]; simp [c]
    · rw [if_neg c, h2 i]; simp [c]
  · unfold upd at hi
    by_cases c : i = j
    · rw [c]; exact ⟨h0, h1⟩
    · rw [if_neg c] at hi; exact h3 i hi
end Go.Proofs.YtgmkbcoahilkhaaGreat.Sh
end
section
namespace Go.Proofs.YtgmkbcoahilkhaaGreat.Sh
open Go.RowKit Go.Proofs.YtgmkbcoahilkhaaGreatW.PrintWords Go.Proofs.YtgmkbcoahilkhaaGreatW.PrintLast Go.Proofs.YtgmkbcoahilkhaaGreatW.PrintMore Go.Proofs.YtgmkbcoahilkhaaGreat.MapFn Go.Proofs.YtgmkbcoahilkhaaGreat.Disk Go.Proofs.YtgmkbcoahilkhaaGreat.Bitset Go.Proofs.YtgmkbcoahilkhaaGreat.Page Go.Proofs.YtgmkbcoahilkhaaGreat.PShadowPlays Go.Proofs.YtgmkbcoahilkhaaGreat.Num
set_option linter.unusedVariables false
set_option linter.unusedSimpArgs false
set_option maxHeartbeats 16000000
set_option maxRecDepth 100000
def T30_15 : Bool × List (List Nat × List Nat) := (true, [([], []), ([0], [0]), ([1], [1]), ([2], [2]), ([2], [2]), ([4, 2], [2, 4]), ([5, 2], [2, 5]), ([6, 2], [2, 6]), ([7, 2], [2, 7]), ([2], [2]), ([3, 8, 9, 2, 2], [2, 3, 8, 9]), ([10, 2], [2, 10]), ([2, 11], [2, 11])])
def B30_15 : List Nat := [0, 1, 3, 7, 7, 23, 55, 119, 247, 7, 1023, 2047, 4095]
structure Same (D E : DiskSt) : Prop where
  get : E.get = D.get
  blocks : E.blocks = D.blocks
theorem Same.refl (D : DiskSt) : Same D D := ⟨rfl, rfl⟩
theorem Same.read {D E : DiskSt} (h : Same D E) : Same D E.read := ⟨h.get, h.blocks⟩
end Go.Proofs.YtgmkbcoahilkhaaGreat.Sh
end
section
namespace Go.Proofs.YtgmkbcoahilkhaaGreat.Sh
open Go.RowKit Go.Proofs.YtgmkbcoahilkhaaGreat.Disk Go.Proofs.YtgmkbcoahilkhaaGreat.Page Go.Proofs.YtgmkbcoahilkhaaGreat.Num Go.Proofs.YtgmkbcoahilkhaaGreat.Bitset
set_option linter.unusedVariables false
def Root.same (a b : Root) : Bool := decide (a.epoch = b.epoch) && decide (a.blocks = b.blocks) && decide (a.next = b.next) && decide (a.start = b.start) && decide (a.tables = b.tables) && decide (a.maps = b.maps)
def Sh.same (a b : Sh) : Bool := a.root.same b.root && decide (a.was = b.was) && decide (a.used = b.used) && decide (a.table = b.table) && decide (a.start = b.start) && decide (a.fresh = b.fresh) && (a.dirty == b.dirty) && (a.bad == b.bad)
def bitsByte (k j : Nat) : Int := ((List.range 8).map fun t => if 3 ≤ 8 * j + t ∧ 8 * j + t < k + 3 then (2 : Int) ^ (7 - t) else 0).sum
def filled (n k : Nat) : Sh :=
  { D := DiskSt.new n, root := firstRoot n, was := [0], used := 224 :: List.replicate ((n + 7) / 8 - 1) 0, table := 0 :: (List.range k).map fun i => ((3 + i : Nat) : Int), start := 0,
    fresh := (List.range ((n + 7) / 8)).map (bitsByte k), dirty := decide (0 < k), bad := false }
def allocTo (s : Sh) (t : Sh) (id : Int) (e : Int) : Bool :=
  match s.qalloc 5 0 with
  | some (s', i, e') => s'.same t && decide (i = id) && decide (e' = e)
  | none => false
def fillsAt (n : Nat) : Bool := (List.range (n - 3)).all fun k => allocTo (filled n k) (filled n (k + 1)) ((k + 1 : Nat) : Int) 0
def formatsAt (n : Nat) : Bool :=
  match Sh.qformat n with
  | some (s, e) => s.same (filled n 0) && decide (e = 0)
  | none => false
def afterAt (n : Nat) : Bool :=
  let s := filled n (n - 3)
  allocTo s s 0 10 && (match s.qcommit with | some (s', e) => s'.same s && decide (e = 10) | none => false) && decide (s.ids.length = n - 3) && s.dirty &&
  (let a := s.free 1
   let b := a.1.free 2
   decide (a.2 = 0) && decide (b.2 = 0) &&
   (match b.1.qcommit with
    | some (c, e) => decide (e = 0) && decide (c.usedN = n - 1) &&
      (match c.qalloc 5 0 with
       | some (d, _, e) => decide (e = 0) && allocTo d d 0 10 && decide (d.abort.2 = 0) && decide (d.abort.1.ids.length = n - 5)
       | none => false)
    | none => false))
end Go.Proofs.YtgmkbcoahilkhaaGreat.Sh
end
section
namespace Go.Proofs.YtgmkbcoahilkhaaGreat.Sh
open Go.RowKit Go.Proofs.YtgmkbcoahilkhaaGreat.Disk Go.Proofs.YtgmkbcoahilkhaaGreat.Page Go.Proofs.YtgmkbcoahilkhaaGreat.Num Go.Proofs.YtgmkbcoahilkhaaGreat.Bitset
set_option linter.unusedVariables false
def DiskSt.crash0 (D : DiskSt) : DiskSt := { D.settled with down := false, done := false, fails := -1 }
def awF : Sh × Int := Sh.format (DiskSt.new 20)
def awA : Sh × Int × Int := awF.1.alloc 5 [120]
def awC : Sh × Int := awA.1.commit
def awO : Sh × Int := Sh.open_ (DiskSt.crash0 awC.1.D)
def awR : Sh × Int × List Int × Int := awO.1.read 1
theorem aw_format : decide (awF.2 = 0) && decide (awF.1.D.ops = 5) = true := by decide +kernel
end Go.Proofs.YtgmkbcoahilkhaaGreat.Sh
end
section
namespace Go.Proofs.YtgmkbcoahilkhaaGreat.Sh
open Go.RowKit Go.Proofs.YtgmkbcoahilkhaaGreat.Disk Go.Proofs.YtgmkbcoahilkhaaGreat.Page Go.Proofs.YtgmkbcoahilkhaaGreat.Num Go.Proofs.YtgmkbcoahilkhaaGreat.Bitset Go.Proofs.YtgmkbcoahilkhaaGreat.MapFn
set_option linter.unusedVariables false
structure DB (D : DiskSt) : Prop where
  safe : ∀ j l, D.safe j = some l → Bytes l
  loose : ∀ j l, D.loose j = some l → Bytes l
theorem zeros_bytes : Bytes zeros := by
  intro x hx
  simp only [zeros, List.mem_replicate] at hx
  rw [hx.2]
  exact ⟨by decide, by decide⟩
theorem DB.get {D : DiskSt} (h : DB D) (n : Int) : Bytes (D.get n) := by
  unfold DiskSt.get
  cases h1 : D.loose n with
  | some l => exact h.loose n l h1
  | none =>
    cases h2 : D.safe n with
    | some l => exact h.safe n l h2
    | none => exact zeros_bytes
theorem DB.new (n : Int) : DB (DiskSt.new n) := ⟨(fun j l h => by cases h), (fun j l h => by cases h)⟩
theorem DB.of {D E : DiskSt} (h : DB D) (h1 : E.safe = D.safe) (h2 : E.loose = D.loose) : DB E := ⟨by rw [h1]; exact h.safe, by rw [h2]; exact h.loose⟩
theorem DB.read {D : DiskSt} (h : DB D) : DB D.read := h.of rfl rfl
theorem merge_bytes {ms ml : Int → Option (List Int)} (h1 : ∀ j l, ms j = some l → Bytes l) (h2 : ∀ j l, ml j = some l → Bytes l) : ∀ j l, mergeM ms ml j = some l → Bytes l := by
  intro j l h
  unfold mergeM at h
  cases hm : ml j with
  | some y => rw [hm] at h; cases h; exact h2 j _ hm
  | none => rw [hm] at h; exact h1 j l h
theorem DB.settled {D : DiskSt} (h : DB D) : DB D.settled := ⟨merge_bytes h.safe h.loose, (fun j l h => by cases h)⟩
theorem DB.step {D : DiskSt} (h : DB D) {act : DiskSt → DiskSt} (ha : ∀ E, DB E → DB (act E)) : DB (D.step act).1 := by
  have ho : DB D.op := h.of rfl rfl
  have hf : ∀ E, DB E → DB E.fail1 := fun E h => h.of rfl rfl
  have hd : ∀ E, DB E → DB E.dead := fun E h => h.of rfl rfl
  unfold DiskSt.step
  repeat' split
  all_goals first | exact ho | exact hf _ ho | exact ha _ ho | exact ha _ (hf _ ho) | exact hd _ (ha _ ho) | exact hd _ (ha _ (hf _ ho)) | exact hd _ ho | exact hd _ (hf _ ho)
theorem DB.sync {D : DiskSt} (h : DB D) : DB D.sync.1 := by
  unfold DiskSt.sync
  split
  · exact h
  · exact h.step fun E he => he.settled
theorem DB.write {D : DiskSt} (h : DB D) (n : Int) {l : List Int} (hb : Bytes l) : DB (D.write n l).1 := by
  unfold DiskSt.write
  split
  · exact h
  · split
    · exact h
    · exact h.step fun E he => ⟨he.safe, fun j x hx => by
        simp only [DiskSt.wrote, upd] at hx
        by_cases c : j = n
        · rw [if_pos c] at hx; cases hx; exact hb
        · rw [if_neg c] at hx; exact he.loose j x hx⟩
theorem DB.wr {s : Sh} (h : DB s.D) (n : Int) {b : List Int} (hb : Bytes b) : DB (s.wr n b).1.D := h.write n hb
theorem DB.shsync {s : Sh} (h : DB s.D) : DB s.sync.1.D := h.sync
theorem DB.layF (kind : Int) (bl : List Int) : ∀ (ps : List (List Int)) (i : Nat) (s : Sh), DB s.D → (∀ p ∈ ps, Bytes p) → DB (Sh.layF kind bl ps i s).1.D
  | [], _, s, h, _ => h
  | p :: ps, i, s, h, hb => by
    rw [layF_cons]
    split
    · exact h
    · rename_i hs
      have hp : Bytes (sealL kind i p) := seal_bytes (hb p (by simp)) (by simpa using hs)
      split
      · exact h.wr _ hp
      · exact DB.layF kind bl ps (i + 1) _ (h.wr _ hp) (fun q hq => hb q (by simp [hq]))
theorem DB.crown {s : Sh} (h : DB s.D) (r : Root) : DB (s.crown r).1.D := by
  unfold Sh.crown
  split
  · exact h.shsync
  · split
    · exact h.shsync
    · rename_i hk
      have hb : Bytes r.bytes := bytes_bytes (by simpa using hk)
      split
      · exact h.shsync.wr _ hb
      · exact (h.shsync.wr _ hb).shsync
theorem DB.place {s : Sh} (h : DB s.D) (id n : Int) {b : List Int} (hb : Bytes b) : DB (s.place id n b).1.D := by
  unfold Sh.place
  split
  · exact h.wr _ hb
  · exact h.wr _ hb
theorem DB.alloc {s : Sh} (h : DB s.D) (kind : Int) {b : List Int} (hb : Bytes b) : DB (s.alloc kind b).1.D := by
  unfold Sh.alloc
  split
  · exact h
  · split
    · exact h
    · split
      · exact h
      · rename_i hs
        split
        · exact h
        · simp only
          split
          · exact h.place _ _ (seal_bytes hb (by simpa using hs))
          · exact h.place _ _ (seal_bytes hb (by simpa using hs))
theorem DB.shwrite {s : Sh} (h : DB s.D) (id kind : Int) {b : List Int} (hb : Bytes b) : DB (s.write id kind b).1.D := by
  unfold Sh.write
  split
  · exact h
  · split
    · exact h
    · rename_i hs
      split
      · exact h.place _ _ (seal_bytes hb (by simpa using hs))
      · split
        · exact h
        · exact h.place _ _ (seal_bytes hb (by simpa using hs))
theorem DB.commit {s : Sh} (h : DB s.D) : DB s.commit.1.D := by
  unfold Sh.commit
  split
  · exact h
  · split
    · exact h
    · simp only
      split
      · exact h
      · split
        · exact h
        · rename_i l _ _
          have h1 := DB.layF 1 (s.next (splitL 246 (wordsL (s.table.drop 1))).length l).tables (splitL 246 (wordsL (s.table.drop 1))) 0 s h (splitL_bytes (wordsL_bytes _))
          split
          · exact h1
          · have h2 := DB.layF 2 (s.next (splitL 246 (wordsL (s.table.drop 1))).length l).maps (splitL 246 (usedL (s.next (splitL 246 (wordsL (s.table.drop 1))).length l) s.table)) 0 _ h1 (splitL_bytes (usedL_bytes _ _))
            split
            · exact h2
            · split
              · exact h2.crown _
              · exact h2.crown _
theorem DB.format {D : DiskSt} (h : DB D) : DB (Sh.format D).1.D := by
  have key : ∀ (U : List (List Int)) (m : List Int) (s0 : Sh) (r : Root), DB s0.D → (∀ p ∈ U, Bytes p) → DB (if (s0.lay 2 U m).2 ≠ 0 then s0.lay 2 U m else if ((s0.lay 2 U m).1.crown r).2 ≠ 0 then (s0.lay 2 U m).1.crown r else (((s0.lay 2 U m).1.crown r).1.settle r, 0)).1.D := by
    intro U m s0 r h0 hU
    have h1 : DB (s0.lay 2 U m).1.D := DB.layF 2 m U 0 s0 h0 hU
    split
    · exact h1
    · split
      · exact h1.crown _
      · exact h1.crown _
  have hU := splitL_bytes (n := 246) (usedL_bytes (firstRoot D.blocks) [0])
  unfold Sh.format
  split
  · exact h
  · split
    · exact h.write 1 zeros_bytes
    · refine key _ _ _ _ (h.write 1 zeros_bytes) hU
theorem DB.same {D E : DiskSt} (h : DB D) (hs : ∀ j, E.safe j = D.safe j) (hl : ∀ j, E.loose j = D.loose j) : DB E := ⟨(fun j l e => h.safe j l (by rw [← hs]; exact e)), (fun j l e => h.loose j l (by rw [← hl]; exact e))⟩
def bytesB (l : List Int) : Bool := l.all fun x => decide (0 ≤ x) && decide (x < 256)
theorem bytesB_ok {l : List Int} (h : bytesB l = true) : Bytes l := by
  intro x hx
  simp only [bytesB, List.all_eq_true, Bool.and_eq_true, decide_eq_true_eq] at h
  exact h x hx
def tabB (l : List Int) : Bool := decide (0 < l.length) && decide (l.length ≤ 3001) && l.all fun n => decide (0 ≤ n) && decide (n < 4096)
theorem tabB_ok {l : List Int} (h : tabB l = true) : 0 < l.length ∧ l.length ≤ 3001 ∧ ∀ n ∈ l, 0 ≤ n ∧ n < 4096 := by
  simp only [tabB, List.all_eq_true, Bool.and_eq_true, decide_eq_true_eq] at h
  exact ⟨h.1.1, h.1.2, h.2⟩
def okB (s : Sh) : Bool := decide (s.used.length ≤ 512) && bytesB s.used && decide (s.fresh.length ≤ 512) && bytesB s.fresh && tabB s.table && tabB s.was && decide (0 ≤ s.root.blocks) && decide (s.root.blocks ≤ 4096) &&
  decide (0 ≤ s.root.epoch) && decide (s.root.epoch ≤ 1099511627776) && decide (s.root.tables.length ≤ 1000) && decide (s.root.maps.length ≤ 1000)
theorem okB_ok {s : Sh} (h : okB s = true) : Ok s := by
  simp only [okB, Bool.and_eq_true, decide_eq_true_eq] at h
  obtain ⟨⟨⟨⟨⟨⟨⟨⟨⟨⟨⟨h1, h2⟩, h3⟩, h4⟩, h5⟩, h6⟩, h7⟩, h8⟩, h9⟩, h10⟩, h11⟩, h12⟩ := h
  exact ⟨⟨h1, bytesB_ok h2⟩, ⟨h3, bytesB_ok h4⟩, tabB_ok h5, tabB_ok h6, ⟨h7, h8⟩, ⟨h9, h10⟩, ⟨h11, h12⟩⟩
def nxB (s : Sh) : Bool := decide (1 ≤ mapsOf s.root.blocks) &&
  match s.lowest ((splitL 246 (wordsL (s.table.drop 1))).length + mapsOf s.root.blocks) with
  | none => true
  | some l => decide ((s.next (splitL 246 (wordsL (s.table.drop 1))).length l).check = 0)
theorem Ok.on {s : Sh} (h : Ok s) (D : DiskSt) : Ok (s.on D) := ⟨h.used, h.fresh, h.table, h.was, h.blocks, h.epoch, h.tabs⟩
theorem roots_D (D : DiskSt) : ∃ n, (roots D).1 = { D with reads := n } := by
  unfold roots
  split
  · exact ⟨D.reads, rfl⟩
  · split
    · exact ⟨_, rfl⟩
    · exact ⟨_, rfl⟩
theorem gatherF_D (kind : Int) : ∀ (bl : List Int) (i : Nat) (D : DiskSt) (out : List Int), ∃ n, (Sh.gatherF kind bl i D out).1 = { D with reads := n }
  | [], i, D, out => ⟨D.reads, rfl⟩
  | b :: ns, i, D, out => by
    rw [gatherF_cons]
    split
    · exact ⟨D.reads, rfl⟩
    · split
      · exact ⟨_, rfl⟩
      · obtain ⟨n, h⟩ := gatherF_D kind ns (i + 1) D.read (out ++ (openL (D.get b)).2.2.1)
        exact ⟨n, by rw [h]; rfl⟩
theorem open_D (D : DiskSt) : ∃ n, (Sh.open_ D).1.D = { D with reads := n } := by
  obtain ⟨n1, h1⟩ := roots_D D
  have h2 : ∃ n, (gather (roots D).1 1 (roots D).2.1.tables).1 = { D with reads := n } := by
    obtain ⟨n, h⟩ := gatherF_D 1 (roots D).2.1.tables 0 (roots D).1 []
    exact ⟨n, by unfold gather; rw [h, h1]⟩
  have h3 : ∃ n, (gather (gather (roots D).1 1 (roots D).2.1.tables).1 2 (roots D).2.1.maps).1 = { D with reads := n } := by
    obtain ⟨n2, h2⟩ := h2
    obtain ⟨n, h⟩ := gatherF_D 2 (roots D).2.1.maps 0 (gather (roots D).1 1 (roots D).2.1.tables).1 []
    refine ⟨n, ?_⟩
    show (Sh.gatherF 2 (roots D).2.1.maps 0 (gather (roots D).1 1 (roots D).2.1.tables).1 []).1 = _
    rw [h, h2]
  unfold Sh.open_
  simp only
  split
  · exact ⟨n1, h1⟩
  · split
    · exact h2
    · split
      · exact h3
      · split
        · exact h3
        · split
          · exact h3
          · exact h3
theorem DB.open_ {D : DiskSt} (h : DB D) : DB (Sh.open_ D).1.D := by
  obtain ⟨n, e⟩ := open_D D
  rw [e]
  exact h.of rfl rfl
end Go.Proofs.YtgmkbcoahilkhaaGreat.Sh
end
section
namespace Go.Proofs
open Go.Shelf
def Tryz.keysA_ren : Go.Shelf.Ren := ⟨fun | 7 => 113 | 10 => 166 | n => n, fun | 23 => 75 | 26 => 3 | 3 => 110 | 28 => 149 | 0 => 0 | 27 => 148 | 33 => 198 | 4 => 4 | n => n, fun | n => n⟩
def Tryz.sortedA_ren : Go.Shelf.Ren := ⟨fun | 6 => 112 | 8 => 165 | 9 => 52 | 11 => 203 | 13 => 100 | 12 => 99 | 23 => 157 | 24 => 158 | 14 => 148 | 15 => 149 | 16 => 150 | 17 => 151 | 18 => 152 | 19 => 153 | 20 => 154 | 21 => 155 | 22 => 156 | 25 => 192 | 26 => 193 | 27 => 194 | 28 => 195 | 29 => 196 | 30 => 197 | 31 => 211 | n => n, fun | 26 => 3 | 28 => 149 | 24 => 38 | 0 => 0 | 3 => 3 | 37 => 53 | 48 => 189 | 50 => 191 | 4 => 4 | 40 => 182 | 39 => 181 | 45 => 138 | 5 => 5 | 9 => 9 | 51 => 221 | 55 => 225 | 57 => 241 | 58 => 215 | 33 => 198 | n => n, fun | n => n⟩
def Tryz.sortA_ren : Go.Shelf.Ren := ⟨fun | 5 => 52 | 8 => 100 | 7 => 99 | 19 => 157 | 20 => 158 | 10 => 148 | 11 => 149 | 12 => 150 | 13 => 151 | 14 => 152 | 15 => 153 | 16 => 154 | 17 => 155 | 18 => 156 | 30 => 192 | 31 => 193 | 32 => 194 | 33 => 195 | 34 => 196 | 35 => 197 | 40 => 211 | n => n, fun | 23 => 38 | 25 => 3 | 3 => 3 | 32 => 53 | 22 => 38 | 0 => 0 | 44 => 189 | 46 => 191 | 4 => 4 | 36 => 182 | 35 => 181 | 41 => 138 | 5 => 5 | 9 => 9 | 53 => 221 | 57 => 225 | 63 => 241 | 64 => 215 | n => n, fun | n => n⟩
theorem Tryz.sortA : Go.Proofs.SlLaysM.n5 Tryz.prog Tryz.sortA_ren := {
  mixed := by kernel_rfl
  f5 := ⟨Tryz.f52.name, by decide, Tryz.func52.trans (congrArg some (by kernel_rfl))⟩
  f7 := ⟨Tryz.f99.name, by decide, Tryz.func99.trans (congrArg some (by kernel_rfl))⟩
  f8 := Tryz.func100.trans (congrArg some (by kernel_rfl))
  f10 := ⟨Tryz.f148.name, by decide, Tryz.func148.trans (congrArg some (by kernel_rfl))⟩
  f11 := ⟨Tryz.f149.name, by decide, Tryz.func149.trans (congrArg some (by kernel_rfl))⟩
  f12 := ⟨Tryz.f150.name, by decide, Tryz.func150.trans (congrArg some (by kernel_rfl))⟩
  f13 := ⟨Tryz.f151.name, by decide, Tryz.func151.trans (congrArg some (by kernel_rfl))⟩
  f14 := ⟨Tryz.f152.name, by decide, Tryz.func152.trans (congrArg some (by kernel_rfl))⟩
  f15 := ⟨Tryz.f153.name, by decide, Tryz.func153.trans (congrArg some (by kernel_rfl))⟩
  f16 := ⟨Tryz.f154.name, by decide, Tryz.func154.trans (congrArg some (by kernel_rfl))⟩
  f17 := ⟨Tryz.f155.name, by decide, Tryz.func155.trans (congrArg some (by kernel_rfl))⟩
  f18 := ⟨Tryz.f156.name, by decide, Tryz.func156.trans (congrArg some (by kernel_rfl))⟩
  f19 := Tryz.func157.trans (congrArg some (by kernel_rfl))
  f20 := Tryz.func158.trans (congrArg some (by kernel_rfl))
  f30 := ⟨Tryz.f192.name, by decide, Tryz.func192.trans (congrArg some (by kernel_rfl))⟩
  f31 := Tryz.func193.trans (congrArg some (by kernel_rfl))
  f32 := Tryz.func194.trans (congrArg some (by kernel_rfl))
  f33 := ⟨Tryz.f195.name, by decide, Tryz.func195.trans (congrArg some (by kernel_rfl))⟩
  f34 := ⟨Tryz.f196.name, by decide, Tryz.func196.trans (congrArg some (by kernel_rfl))⟩
  f35 := ⟨Tryz.f197.name, by decide, Tryz.func197.trans (congrArg some (by kernel_rfl))⟩
  f40 := ⟨Tryz.f211.name, by decide, Tryz.func211.trans (congrArg some (by kernel_rfl))⟩
  t0 := Tryz.underlying0
  a0 := Tryz.isAgg0
  z0 := Tryz.sizeOf0
  v0 := Tryz.zeroValue0
  t3 := Tryz.underlying3
  a3 := Tryz.isAgg3
  z3 := Tryz.sizeOf3
  v3 := Tryz.zeroValue3
  t4 := Tryz.underlying4
  a4 := Tryz.isAgg4
  z4 := Tryz.sizeOf4
  v4 := Tryz.zeroValue4
  t5 := Tryz.underlying5
  a5 := Tryz.isAgg5
  z5 := Tryz.sizeOf5
  v5 := Tryz.zeroValue5
  t9 := Tryz.underlying9
  a9 := Tryz.isAgg9
  z9 := Tryz.sizeOf9
  v9 := Tryz.zeroValue9
  t22 := Tryz.underlying38
  a22 := Tryz.isAgg38
  z22 := Tryz.sizeOf38
  v22 := Tryz.zeroValue38
  t23 := Tryz.underlying38
  a23 := Tryz.isAgg38
  z23 := Tryz.sizeOf38
  v23 := Tryz.zeroValue38
  t25 := Tryz.underlying3
  a25 := Tryz.isAgg3
  z25 := Tryz.sizeOf3
  v25 := Tryz.zeroValue3
  t32 := Tryz.underlying53
  a32 := Tryz.isAgg53
  z32 := Tryz.sizeOf53
  v32 := Tryz.zeroValue53
  t35 := Tryz.underlying181
  a35 := Tryz.isAgg181
  z35 := Tryz.sizeOf181
  v35 := Tryz.zeroValue181
  t36 := Tryz.underlying182
  a36 := Tryz.isAgg182
  z36 := Tryz.sizeOf182
  v36 := Tryz.zeroValue182
  t41 := Tryz.underlying138
  a41 := Tryz.isAgg138
  z41 := Tryz.sizeOf138
  v41 := Tryz.zeroValue138
  t44 := Tryz.underlying189
  a44 := Tryz.isAgg189
  z44 := Tryz.sizeOf189
  v44 := Tryz.zeroValue189
  t46 := Tryz.underlying191
  a46 := Tryz.isAgg191
  z46 := Tryz.sizeOf191
  v46 := Tryz.zeroValue191
  t53 := Tryz.underlying221
  a53 := Tryz.isAgg221
  z53 := Tryz.sizeOf221
  v53 := Tryz.zeroValue221
  t57 := Tryz.underlying225
  a57 := Tryz.isAgg225
  z57 := Tryz.sizeOf225
  v57 := Tryz.zeroValue225
  t63 := Tryz.underlying241
  a63 := Tryz.isAgg241
  z63 := Tryz.sizeOf241
  v63 := Tryz.zeroValue241
  t64 := Tryz.underlying215
  a64 := Tryz.isAgg215
  z64 := Tryz.sizeOf215
  v64 := Tryz.zeroValue215 }
end Go.Proofs
end
section
namespace Go.Proofs.YtgmkbcoahilkhaaGreat.Disk
open Go.RowKit Go.Maps Go.Sort Go.Shelf Go.Proofs.YtgmkbcoahilkhaaGreatW.PrintWords Go.Proofs.YtgmkbcoahilkhaaGreat.MapFn
set_option linter.unusedVariables false
set_option maxHeartbeats 4000000
set_option maxRecDepth 100000
def looseL (D : DiskSt) : List Int := ((List.range D.blocks.toNat).map fun (i : Nat) => (i : Int)).filter fun j => (D.loose j).isSome
section
variable {p ms ml : Nat} {D : DiskSt} {w : World}
end
end Go.Proofs.YtgmkbcoahilkhaaGreat.Disk
end
section
namespace Go.Proofs.YtgmkbcoahilkhaaGreat.Disk
open Go.RowKit Go.Maps Go.Proofs.YtgmkbcoahilkhaaGreatW.PrintWords Go.Proofs.YtgmkbcoahilkhaaGreat.MapFn
set_option linter.unusedVariables false
set_option maxHeartbeats 4000000
set_option maxRecDepth 100000
def DiskSt.reset (D : DiskSt) : DiskSt := { D.settled with down := false, done := false, fails := -1 }
section
variable {p ms ml : Nat} {D : DiskSt} {w : World}
end
end Go.Proofs.YtgmkbcoahilkhaaGreat.Disk
end
section
namespace Go.Proofs.YtgmkbcoahilkhaaGreat.Sh
open Go.RowKit Go.Proofs.YtgmkbcoahilkhaaGreatW.PrintWords Go.Proofs.YtgmkbcoahilkhaaGreatW.PrintLast Go.Proofs.YtgmkbcoahilkhaaGreatW.PrintMore Go.Proofs.YtgmkbcoahilkhaaGreat.MapFn Go.Proofs.YtgmkbcoahilkhaaGreat.Disk Go.Proofs.YtgmkbcoahilkhaaGreat.Bitset Go.Proofs.YtgmkbcoahilkhaaGreat.Page Go.Proofs.YtgmkbcoahilkhaaGreat.PShadowPlays Go.Proofs.YtgmkbcoahilkhaaGreat.Num
set_option linter.unusedVariables false
set_option linter.unusedSimpArgs false
set_option maxHeartbeats 16000000
set_option maxRecDepth 100000
theorem C_of_rowF {w : World} {g : Nat} {l : List Int} {t : TypeId} {fr : Nat × Nat} (h : w.heap[g]? = some (.cells (encB l) t fr)) (hl : l.length ≤ 9223372036854775807) : Kd.C (Kd.int .u8) w (some ⟨g, 0, none⟩) l.length l := by
  refine Kd.C_of_reads (enc := Value.int .u8) (d := (0 : Int)) (h1 := fun _ => rfl) ⟨rfl, hl, fun _ => ⟨_, rfl, fun j hj => ?_⟩⟩
  rw [Go.WideShapes.add_plain, Nat.zero_add, cell_of h]
  show (l.map (Value.int .u8)).toArray[j]? = _
  rw [List.getElem?_toArray, List.getElem?_map]
  simp [List.getD_eq_getElem?_getD, hj]
theorem _root_.Go.RowKit.Below.moves_low {B : Nat} {l : List Nat} {a b c : World} (h : Below B a b) (k : Moves l b c) (hl : ∀ x ∈ l, B ≤ x) (hB : B ≤ a.heap.size) : Below B a c :=
  ⟨k.os.trans h.os, k.tape.trans h.tape, k.output.trans h.output, Nat.le_trans h.size k.size, fun j hj => (k.block j (Nat.lt_of_lt_of_le (Nat.lt_of_lt_of_le hj hB) h.size) (fun hm => by have := hl j hm; omega)).trans (h.block j hj)⟩
theorem DB.reset {D : DiskSt} (h : DB D) : DB D.reset := h.settled.of rfl rfl
end Go.Proofs.YtgmkbcoahilkhaaGreat.Sh
end
section
namespace Go.Proofs.YtgmkbcoahilkhaaGreat.Sh
open Go.RowKit Go.Proofs.YtgmkbcoahilkhaaGreatW.PrintWords Go.Proofs.YtgmkbcoahilkhaaGreatW.PrintLast Go.Proofs.YtgmkbcoahilkhaaGreatW.PrintMore Go.Proofs.YtgmkbcoahilkhaaGreat.MapFn Go.Proofs.YtgmkbcoahilkhaaGreat.Disk Go.Proofs.YtgmkbcoahilkhaaGreat.Bitset Go.Proofs.YtgmkbcoahilkhaaGreat.Page Go.Proofs.YtgmkbcoahilkhaaGreat.Num
set_option linter.unusedVariables false
set_option maxHeartbeats 4000000
structure On (w wr : World) (p pd : Nat) (s : Sh) : Prop where
  ex : ∃ F : Foot, ShAt wr F s ∧ F.p = p ∧ F.pd = pd ∧ ∀ x ∈ F.own, w.heap.size ≤ x
  below : Below w.heap.size w wr
section
variable {w wr w' : World} {p pd : Nat} {s : Sh}
theorem On.later (h : On w wr p pd s) (hb : Below wr.heap.size wr w') : On w w' p pd s := by
  obtain ⟨⟨F, hs, hp, hpd, ho⟩, hbl⟩ := h
  exact ⟨⟨F, hs.below hb, hp, hpd, ho⟩, hbl.trans (hb.mono hbl.size)⟩
theorem On.in_ {k : IntKind} {A : Option Addr} {l : List Int} {c : Nat} (h : On w wr p pd s) (hi : In k w A l c) : In k wr A l c := hi.below h.below
theorem On.wide {k : IntKind} {A : Option Addr} {l : List Int} {c : Nat} (h : On w wr p pd s) (hi : InW k w A l c) : InW k wr A l c := hi.below h.below
structure DOn (w wr : World) (pd : Nat) (D : DiskSt) : Prop where
  ex : ∃ ms ml, DiskAt wr pd ms ml D ∧ w.heap.size ≤ pd ∧ w.heap.size ≤ ms ∧ w.heap.size ≤ ml
  below : Below w.heap.size w wr
theorem On.disk (h : On w wr p pd s) : DOn w wr pd s.D := by
  obtain ⟨⟨F, hs, rfl, rfl, ho⟩, hbl⟩ := h
  exact ⟨⟨F.ms, F.ml, hs.disk, ho _ (by simp [Foot.own]), ho _ (by simp [Foot.own]), ho _ (by simp [Foot.own])⟩, hbl⟩
theorem new_on (n : Int) (w : World) : Calls Tryz.prog 10 #[.int .i64 n] w fun en w' => ∃ pd, en = .returned (.pointer (some ⟨pd, 0, none⟩)) ∧ DOn w w' pd (DiskSt.new n) := by
  refine (new_any n w).mono ?_
  rintro e w1 ⟨p, ms, ml, rfl, hd, hb, h1, h2, h3⟩
  exact ⟨p, rfl, ⟨ms, ml, hd, h1, h2, h3⟩, hb⟩
theorem format_on {D : DiskSt} (h : DOn w wr pd D) (hN : 0 ≤ D.blocks ∧ D.blocks ≤ 4096) :
    Calls Tryz.prog 9 #[.pointer (some ⟨pd, 0, none⟩)] wr fun en w' => ∃ p, en = .returned (.tuple #[ptrOf (Sh.format D).2 p, .int .i64 (Sh.format D).2]) ∧ On w w' p pd (Sh.format D).1 := by
  obtain ⟨⟨ms, ml, hd, h1, h2, h3⟩, hb⟩ := h
  refine (format_any pd ms ml D wr hd hN).mono ?_
  rintro e w1 ⟨F, rfl, hs, hbn⟩
  refine ⟨F.p, rfl, ⟨F, hs, rfl, hbn.epd, fun x hx => ?_⟩, ?_⟩
  · rcases hbn.own x hx with q | q
    · simp only [List.mem_cons, List.not_mem_nil, or_false] at q
      omega
    · exact Nat.le_trans hb.size q
  · exact hb.moves_low hbn.moves (fun x hx => by simp only [List.mem_cons, List.not_mem_nil, or_false] at hx; omega) (Nat.le_refl _)
end
end Go.Proofs.YtgmkbcoahilkhaaGreat.Sh
end
section
namespace Go.Proofs.YtgmkbcoahilkhaaGreat.Sh
open Go.RowKit Go.Proofs.YtgmkbcoahilkhaaGreatW.PrintWords Go.Proofs.YtgmkbcoahilkhaaGreatW.PrintLast Go.Proofs.YtgmkbcoahilkhaaGreatW.PrintMore Go.Proofs.YtgmkbcoahilkhaaGreat.MapFn Go.Proofs.YtgmkbcoahilkhaaGreat.Disk Go.Proofs.YtgmkbcoahilkhaaGreat.Bitset Go.Proofs.YtgmkbcoahilkhaaGreat.Page
set_option linter.unusedVariables false
set_option linter.unusedSimpArgs false
set_option maxHeartbeats 8000000
set_option maxRecDepth 100000
theorem block_facts {s : Sh} (hk : Ok s) {id : Int} (h : (s.block id).2 = 0) : 1 ≤ id ∧ id < (s.table.length : Int) ∧ 0 ≤ (s.block id).1 ∧ (s.block id).1 < 4096 ∧ (s.block id).1 = s.table.getD id.toNat 0 ∧ (s.block id).1 ≠ 0 := by
  unfold Sh.block at h ⊢
  split at h
  · exact absurd h (by assumption)
  · rename_i h1
    rw [if_neg h1]
    split at h
    · cases h
    · rename_i h2
      rw [if_neg h2]
      have hlt : id.toNat < s.table.length := by omega
      have := hk.table.2.2 (s.table.getD id.toNat 0) (by rw [List.getD_eq_getElem?_getD, List.getElem?_eq_getElem hlt]; exact List.getElem_mem hlt)
      exact ⟨by omega, by omega, this.1, this.2, rfl, fun e => h2 (.inr (.inr e))⟩
theorem shwrite_any (id kind : Int) (A : Option Addr) (c : Nat) (body : List Int) (w : World) (F : Foot) (s : Sh) (h : ShAt w F s) (hk : Ok s) (hr : InW .u8 w A body c) (hb : Bytes body) :
    Calls Tryz.prog 29 #[.pointer (some ⟨F.p, 0, none⟩), .int .i64 id, .int .i64 kind, .slice A body.length c] w fun en w' => en = .returned (.int .i64 (s.write id kind body).2) ∧ ∃ F', ShAt w' F' (s.write id kind body).1 ∧ Goes F F' w w' := by
  have HBL := Hide.mk (block_any id h)
  have HS := Hide.mk h
  have HK := Hide.mk hk
  have HR := Hide.mk hr
  have HB := Hide.mk hb
  have HFR : Hide (Small s.fresh ∧ Bytes s.fresh) := ⟨⟨by have := hk.fresh.1; unfold Small; omega, hk.fresh.2⟩⟩
  obtain ⟨R, hR⟩ : ∃ R, s.write id kind body = R := ⟨_, rfl⟩
  rw [hR]
  unfold Sh.write at hR
  have hbf := fun e => block_facts hk (id := id) e
  obtain ⟨x, e0, hx⟩ : ∃ x e, s.block id = (x, e) := ⟨_, _, rfl⟩
  rw [hx] at HBL hR hbf
  simp only at HBL hR hbf
  clear h hk hr hb hx
  by_cases h0 : e0 = 0
  · subst h0
    rw [if_neg (by simp)] at hR
    obtain ⟨q1, q2, q3, q4, q5, q6⟩ := hbf rfl
    obtain ⟨k, hk0⟩ : ∃ k : Nat, id = (k : Int) := ⟨id.toNat, by omega⟩
    subst hk0
    have HID5 : Hide (k ≤ 5000) := ⟨by have := HK.out.table.2.1; omega⟩
    have HX := Hide.mk (wf_small q3 q4)
    clear hbf q1 q2 q3 q4 q5 q6
    by_cases h1 : sealE kind (k : Int) body.length = 0
    · rw [if_neg (by simpa using h1)] at hR
      have HSE := Hide.mk (seal_ok kind (k : Int) A c body w HR.out.reads HB.out h1)
      obtain ⟨fx, hfx⟩ : ∃ b, hasL s.fresh x = b := ⟨_, rfl⟩
      have HXE := Hide.mk hfx
      rw [hfx] at hR
      cases fx
      · rw [if_neg (by simp)] at hR
        cases hl : s.lowest 1 with
        | none =>
          rw [hl] at hR
          simp only at hR
          have HL := Hide.mk hl
          have HRR := Hide.mk hR.symm
          clear hR hl h1 hfx
          go_enter Tryz.func29, Tryz.ntmps29
          go_wp2_with (first
            | (go_at_call 64
               with_reducible refine HBL.out.mono ?_
               rintro e w0 ⟨rfl, hw0⟩
               have hw1 := hw0.symm
               subst hw1)
            | (go_at_call 60
               with_reducible refine HSE.out.mono ?_
               rintro e w4 ⟨v4, rfl, ho, hb4⟩
               obtain ⟨A4, c4, hv, hi4, hge4⟩ := In.of_own ho
               obtain ⟨n4, hn4⟩ : ∃ n, (sealL kind (k : Int) body).length = n := ⟨_, rfl⟩
               rw [hn4] at hv
               subst hv
               have S4 := Hide.mk (HS.out.below hb4)
               have B4 := Hide.mk hb4
               have I4 := Hide.mk hi4
               have HN4 := Hide.mk hn4
               have c12 := S4.out.cells.c12
               have HHS0 := has_any S4.out.fresh.inB HFR.out.1 HFR.out.2 x
               rw [HXE.out] at HHS0
               have HHS := Hide.mk HHS0
               clear ho hb4 hi4 hge4 hn4 HHS0)
            | (go_at_call 71
               with_reducible refine HHS.out.mono ?_
               rintro e w5 ⟨rfl, hd⟩
               have S5 := Hide.mk (S4.out.below hd.below)
               have B5 := Hide.mk (B4.out.trans (hd.below.mono B4.out.size))
               have I5 := Hide.mk (I4.out.below hd.below)
               have HLO := Hide.mk (lowest_any 1 (by omega) F s w5 S5.out HK.out)
               clear hd)
            | (go_at_call 61
               refine HLO.out.mono ?_
               rintro e w6 ⟨v6, rfl, ho, hb6⟩
               rw [HL.out] at ho ⊢
               have B6 := Hide.mk (B5.out.trans (hb6.mono B5.out.size))
               have S6 := Hide.mk (S5.out.below hb6)
               clear ho hb6))
          go_ret
          rw [HRR.out]
          exact ⟨rfl, F, S6.out, Goes.below B6.out⟩
        | some l =>
          rw [hl] at hR
          have hlf := lowest_facts HK.out hl
          obtain ⟨x0, rfl⟩ : ∃ x0, l = [x0] := List.length_eq_one_iff.1 hlf.1
          have hx0b := hlf.2 x0 (by simp)
          simp only [List.getD_cons_zero] at hR
          obtain ⟨sp, ep, hPL⟩ : ∃ sp ep, s.place k x0 (sealL kind (k : Int) body) = (sp, ep) := ⟨_, _, rfl⟩
          rw [hPL] at hR
          have HPLE := Hide.mk hPL
          have HWX := Hide.mk (wf_small hx0b.1 hx0b.2)
          have HL := Hide.mk hl
          have HRR := Hide.mk hR.symm
          clear hR hl h1 hlf hx0b hPL hfx
          go_enter Tryz.func29, Tryz.ntmps29
          go_wp2_with (first
            | (go_at_call 64
               with_reducible refine HBL.out.mono ?_
               rintro e w0 ⟨rfl, hw0⟩
               have hw1 := hw0.symm
               subst hw1)
            | (go_at_call 60
               with_reducible refine HSE.out.mono ?_
               rintro e w4 ⟨v4, rfl, ho, hb4⟩
               obtain ⟨A4, c4, hv, hi4, hge4⟩ := In.of_own ho
               obtain ⟨n4, hn4⟩ : ∃ n, (sealL kind (k : Int) body).length = n := ⟨_, rfl⟩
               rw [hn4] at hv
               subst hv
               have S4 := Hide.mk (HS.out.below hb4)
               have B4 := Hide.mk hb4
               have I4 := Hide.mk hi4
               have HN4 := Hide.mk hn4
               have c12 := S4.out.cells.c12
               have HHS0 := has_any S4.out.fresh.inB HFR.out.1 HFR.out.2 x
               rw [HXE.out] at HHS0
               have HHS := Hide.mk HHS0
               clear ho hb4 hi4 hge4 hn4 HHS0)
            | (go_at_call 71
               with_reducible refine HHS.out.mono ?_
               rintro e w5 ⟨rfl, hd⟩
               have S5 := Hide.mk (S4.out.below hd.below)
               have B5 := Hide.mk (B4.out.trans (hd.below.mono B4.out.size))
               have I5 := Hide.mk (I4.out.below hd.below)
               have HLO := Hide.mk (lowest_any 1 (by omega) F s w5 S5.out HK.out)
               clear hd)
            | (go_at_call 61
               refine HLO.out.mono ?_
               rintro e w6 ⟨v6, rfl, ho, hb6⟩
               rw [HL.out] at ho ⊢
               obtain ⟨A6, c6, hv6, hi6, hge6⟩ := In.of_own ho
               have hv6' : v6 = .slice A6 1 c6 := hv6
               subst hv6'
               obtain ⟨g6, off6, hA6, hc6⟩ := at_one hi6.reads
               subst hA6
               have B6 := Hide.mk (B5.out.trans (hb6.mono B5.out.size))
               have S6 := Hide.mk (S5.out.below hb6)
               have I6 := Hide.mk (I5.out.below hb6)
               have HPL0 := place_any k x0 A4 c4 (sealL kind (k : Int) body) w6 F s S6.out HK.out HWX.out I6.out.reads HID5.out
               rw [HPLE.out, HN4.out] at HPL0
               have HPL := Hide.mk HPL0
               clear HPL0
               clear ho hb6 hi6 hge6 hv6)
            | (go_at_call 62
               with_reducible refine HPL.out.mono ?_
               rintro e w7 ⟨rfl, F7, hs7, hg7⟩
               have S7 := Hide.mk hs7
               have G7 := Hide.mk hg7
               clear hs7 hg7))
          go_ret
          rw [HRR.out]
          exact ⟨rfl, F7, S7.out, (Goes.below B6.out).trans G7.out⟩
      · rw [if_pos rfl] at hR
        obtain ⟨sp, ep, hPL⟩ : ∃ sp ep, s.place k x (sealL kind (k : Int) body) = (sp, ep) := ⟨_, _, rfl⟩
        rw [hPL] at hR
        have HPLE := Hide.mk hPL
        have HWX := HX
        have HRR := Hide.mk hR.symm
        clear hR h1 hPL hfx
        go_enter Tryz.func29, Tryz.ntmps29
        go_wp2_with (first
          | (go_at_call 64
             with_reducible refine HBL.out.mono ?_
             rintro e w0 ⟨rfl, hw0⟩
             have hw1 := hw0.symm
             subst hw1)
          | (go_at_call 60
             with_reducible refine HSE.out.mono ?_
             rintro e w4 ⟨v4, rfl, ho, hb4⟩
             obtain ⟨A4, c4, hv, hi4, hge4⟩ := In.of_own ho
             obtain ⟨n4, hn4⟩ : ∃ n, (sealL kind (k : Int) body).length = n := ⟨_, rfl⟩
             rw [hn4] at hv
             subst hv
             have S4 := Hide.mk (HS.out.below hb4)
             have B4 := Hide.mk hb4
             have I4 := Hide.mk hi4
             have HN4 := Hide.mk hn4
             have c12 := S4.out.cells.c12
             have HHS0 := has_any S4.out.fresh.inB HFR.out.1 HFR.out.2 x
             rw [HXE.out] at HHS0
             have HHS := Hide.mk HHS0
             clear ho hb4 hi4 hge4 hn4 HHS0)
          | (go_at_call 71
             with_reducible refine HHS.out.mono ?_
             rintro e w5 ⟨rfl, hd⟩
             have S5 := Hide.mk (S4.out.below hd.below)
             have B5 := Hide.mk (B4.out.trans (hd.below.mono B4.out.size))
             have I5 := Hide.mk (I4.out.below hd.below)
             have HPL0 := place_any k x A4 c4 (sealL kind (k : Int) body) w5 F s S5.out HK.out HWX.out I5.out.reads HID5.out
             rw [HPLE.out, HN4.out] at HPL0
             have HPL := Hide.mk HPL0
             clear HPL0
             clear hd)
          | (go_at_call 62
             with_reducible refine HPL.out.mono ?_
             rintro e w7 ⟨rfl, F7, hs7, hg7⟩
             have S7 := Hide.mk hs7
             have G7 := Hide.mk hg7
             clear hs7 hg7))
        go_ret
        rw [HRR.out]
        exact ⟨rfl, F7, S7.out, (Goes.below B5.out).trans G7.out⟩
    · rw [if_pos h1] at hR
      have HSE := Hide.mk (seal_bad kind (k : Int) A c body.length w h1)
      obtain ⟨E, hE⟩ : ∃ E, sealE kind (k : Int) body.length = E := ⟨_, rfl⟩
      rw [hE] at HSE hR h1
      have q2 : (E != 0) = true := by simp [h1]
      have HRR := Hide.mk hR.symm
      clear hR h1 hE
      go_enter Tryz.func29, Tryz.ntmps29
      go_wp2_with (first
        | (go_at_call 64
           with_reducible refine HBL.out.mono ?_
           rintro e w0 ⟨rfl, hw0⟩
           have hw1 := hw0.symm
           subst hw1)
        | (go_at_call 60
           with_reducible refine HSE.out.mono ?_
           rintro e w4 ⟨rfl, hb4⟩
           have B4 := Hide.mk hb4
           clear hb4))
      go_ret
      rw [HRR.out]
      exact ⟨rfl, F, HS.out.below B4.out, Goes.below B4.out⟩
  · rw [if_pos h0] at hR
    have q : (e0 != 0) = true := by simp [h0]
    have HRR := Hide.mk hR.symm
    clear h0 hR hbf
    go_enter Tryz.func29, Tryz.ntmps29
    go_wp2_with (first
      | (go_at_call 64
         with_reducible refine HBL.out.mono ?_
         rintro e w0 ⟨rfl, hw0⟩
         have hw1 := hw0.symm
         subst hw1))
    go_ret
    rw [HRR.out]
    exact ⟨rfl, F, HS.out, Goes.refl _ _⟩
section
variable {w wr w' : World} {p pd : Nat} {s : Sh}
end
end Go.Proofs.YtgmkbcoahilkhaaGreat.Sh
end
section
namespace Go.Proofs.YtgmkbcoahilkhaaGreat.Pool
open Go.RowKit Go.Proofs.YtgmkbcoahilkhaaGreatW.PrintWords Go.Proofs.YtgmkbcoahilkhaaGreat.MapFn Go.Proofs.YtgmkbcoahilkhaaGreat.Disk Go.Proofs.YtgmkbcoahilkhaaGreat.Page Go.Proofs.YtgmkbcoahilkhaaGreat.Num Go.Proofs.YtgmkbcoahilkhaaGreat.Bitset Go.Proofs.YtgmkbcoahilkhaaGreat.Sh
set_option linter.unusedVariables false
set_option maxHeartbeats 4000000
set_option maxRecDepth 100000
structure Fr where
  id : Int
  kind : Int
  body : List Int
  pins : Int
  dirty : Bool
structure Pl where
  S : Sh
  most : Int
  frames : List Fr
  hits : Int
  misses : Int
def idxF (q : Fr → Bool) : List Fr → Nat → Int
  | [], _ => -1
  | f :: r, i => if q f = true then (i : Int) else idxF q r (i + 1)
def Pl.place (p : Pl) (id : Int) : Int := idxF (fun f => decide (f.id = id)) p.frames 0
def Fr.none : Fr := ⟨0, 0, [], 0, false⟩
def Pl.flush (p : Pl) (k : Nat) : Pl × Int :=
  let f := p.frames.getD k Fr.none
  if f.dirty = false then (p, 0)
  else if (p.S.write f.id f.kind f.body).2 ≠ 0 then ({ p with S := (p.S.write f.id f.kind f.body).1 }, (p.S.write f.id f.kind f.body).2)
  else ({ p with S := (p.S.write f.id f.kind f.body).1, frames := p.frames.set k { f with dirty := false } }, 0)
def Pl.free_ (p : Pl) : Int := idxF (fun f => decide (f.pins = 0)) p.frames 0
def Pl.room (p : Pl) : Pl × Int :=
  if (p.frames.length : Int) < p.most then (p, 0)
  else if p.free_ < 0 then (p, 14)
  else if (p.flush p.free_.toNat).2 ≠ 0 then p.flush p.free_.toNat
  else ({ (p.flush p.free_.toNat).1 with frames := (p.flush p.free_.toNat).1.frames.eraseIdx p.free_.toNat }, 0)
def Pl.hold (p : Pl) (f : Fr) : Pl := { p with frames := p.frames ++ [f] }
def Pl.fetch (p : Pl) (id : Int) : Pl × Int :=
  if 0 ≤ p.place id then (({ p with hits := wrap64 (p.hits + 1), frames := p.frames.eraseIdx (p.place id).toNat } : Pl).hold (p.frames.getD (p.place id).toNat Fr.none), 0)
  else
    let a := ({ p with misses := wrap64 (p.misses + 1) } : Pl).room
    if a.2 ≠ 0 then a
    else if (a.1.S.read id).2.2.2 ≠ 0 then ({ a.1 with S := (a.1.S.read id).1 }, (a.1.S.read id).2.2.2)
    else (({ a.1 with S := (a.1.S.read id).1 } : Pl).hold ⟨id, (a.1.S.read id).2.1, (a.1.S.read id).2.2.1, 0, false⟩, 0)
def Pl.last (p : Pl) : Fr := p.frames.getD (p.frames.length - 1) Fr.none
def Pl.setLast (p : Pl) (f : Fr) : Pl := { p with frames := p.frames.set (p.frames.length - 1) f }
def Pl.get (p : Pl) (id : Int) : Pl × Int × List Int × Int :=
  if (p.fetch id).2 ≠ 0 then ((p.fetch id).1, 0, [], (p.fetch id).2)
  else ((p.fetch id).1, (p.fetch id).1.last.kind, (p.fetch id).1.last.body, 0)
def Pl.set (p : Pl) (id kind : Int) (body : List Int) : Pl × Int :=
  if (p.fetch id).2 ≠ 0 then p.fetch id
  else if sealE kind 1 body.length ≠ 0 then ((p.fetch id).1, sealE kind 1 body.length)
  else ((p.fetch id).1.setLast { (p.fetch id).1.last with kind := kind, body := body, dirty := true }, 0)
def Pl.alloc (p : Pl) (kind : Int) (body : List Int) : Pl × Int × Int :=
  if p.room.2 ≠ 0 then (p.room.1, 0, p.room.2)
  else
    let a := p.room.1.S.alloc kind body
    if a.2.2 ≠ 0 then ({ p.room.1 with S := a.1 }, 0, a.2.2)
    else (({ p.room.1 with S := a.1 } : Pl).hold ⟨a.2.1, kind, body, 0, false⟩, a.2.1, 0)
def Pl.free (p : Pl) (id : Int) : Pl × Int :=
  if 0 ≤ p.place id ∧ 0 < (p.frames.getD (p.place id).toNat Fr.none).pins then (p, 14)
  else if (p.S.free id).2 ≠ 0 then ({ p with S := (p.S.free id).1 }, (p.S.free id).2)
  else ({ p with S := (p.S.free id).1, frames := if 0 ≤ p.place id then p.frames.eraseIdx (p.place id).toNat else p.frames }, 0)
def Pl.pin (p : Pl) (id : Int) : Pl × Int :=
  if (p.fetch id).2 ≠ 0 then p.fetch id
  else ((p.fetch id).1.setLast { (p.fetch id).1.last with pins := wrap64 ((p.fetch id).1.last.pins + 1) }, 0)
def Pl.unpin (p : Pl) (id : Int) : Pl × Int :=
  if p.place id < 0 then (p, 8)
  else if (p.frames.getD (p.place id).toNat Fr.none).pins = 0 then (p, 15)
  else ({ p with frames := p.frames.set (p.place id).toNat { p.frames.getD (p.place id).toNat Fr.none with pins := wrap64 ((p.frames.getD (p.place id).toNat Fr.none).pins - 1) } }, 0)
def Pl.held (p : Pl) : List Int := (p.frames.map (·.id)).mergeSort fun x y => decide (x ≤ y)
def Pl.new (S : Sh) (most : Int) : Pl := ⟨S, most, [], 0, 0⟩
def encP (o : Option Nat) : Value := .pointer (o.map fun n => ⟨n, 0, Option.none⟩)
theorem encP_one (o : Option Nat) : (encP o).oneCell' = true := rfl
def kdP : Kd (Option Nat) := Kd.scalar encP encP_one
structure FrAt (w : World) (base : Nat) (x : Nat) (f : Fr) : Prop where
  ex : ∃ v, w.heap[x]? = some (.cells #[.int .i64 f.id, .int .i64 f.kind, v, .int .i64 f.pins, .bool f.dirty] 85 (0, 0)) ∧ Kd.R (Kd.int .u8) 5 w base (fun _ => True) v f.body
  ge : base ≤ x
  bytes : Bytes f.body
  short : f.body.length ≤ 1000
structure Zip {α β : Type} (R : α → β → Prop) (l : List α) (m : List β) : Prop where
  len : l.length = m.length
  at_ : ∀ (i : Nat) (a : α) (b : β), l[i]? = some a → m[i]? = some b → R a b
section
variable {α β : Type} {R S : α → β → Prop} {l : List α} {m : List β}
theorem Zip.nil (R : α → β → Prop) : Zip R [] [] := ⟨rfl, fun i a b h => by simp at h⟩
theorem Zip.imp (h : Zip R l m) (f : ∀ a, a ∈ l → ∀ b, R a b → S a b) : Zip S l m := ⟨h.len, fun i a b h1 h2 => f a (List.mem_of_getElem? h1) b (h.at_ i a b h1 h2)⟩
theorem Zip.snoc (h : Zip R l m) {a : α} {b : β} (hr : R a b) : Zip R (l ++ [a]) (m ++ [b]) := by
  refine ⟨by simp [h.len], fun i x y h1 h2 => ?_⟩
  have hl := h.len
  rcases Nat.lt_or_ge i l.length with q | q
  · rw [List.getElem?_append_left q] at h1
    rw [List.getElem?_append_left (by omega)] at h2
    exact h.at_ i x y h1 h2
  · rw [List.getElem?_append_right q] at h1
    rw [List.getElem?_append_right (by omega)] at h2
    rcases Nat.eq_zero_or_pos (i - l.length) with e | e
    · rw [e] at h1
      rw [show i - m.length = 0 by omega] at h2
      simp at h1 h2
      rw [← h1, ← h2]
      exact hr
    · rw [List.getElem?_eq_none (by simp; omega)] at h1
      cases h1
theorem Zip.erase (h : Zip R l m) (i : Nat) : Zip R (l.eraseIdx i) (m.eraseIdx i) := by
  refine ⟨by rw [List.length_eraseIdx, List.length_eraseIdx, h.len], fun j x y h1 h2 => ?_⟩
  rw [List.getElem?_eraseIdx] at h1 h2
  split at h1
  · rename_i q
    rw [if_pos q] at h2
    exact h.at_ _ x y h1 h2
  · rename_i q
    rw [if_neg q] at h2
    exact h.at_ _ x y h1 h2
theorem Zip.mem (h : Zip R l m) {a : α} (ha : a ∈ l) : ∃ b, R a b := by
  obtain ⟨i, hi, rfl⟩ := List.mem_iff_getElem.1 ha
  have hm : i < m.length := by have := h.len; omega
  exact ⟨m[i], h.at_ i _ _ (List.getElem?_eq_getElem hi) (List.getElem?_eq_getElem hm)⟩
end
structure PIn (w wr : World) (b ps pd : Nat) (F : Foot) (v : Value) (bs : List Nat) (p : Pl) : Prop where
  sh : ShAt wr F p.S
  ep : F.p = ps
  epd : F.pd = pd
  row : wr.heap[b]? = some (.cells #[.pointer (some ⟨ps, 0, none⟩), .int .i64 p.most, v, .int .i64 p.hits, .int .i64 p.misses] 80 (0, 0))
  arr : Kd.R kdP 81 wr w.heap.size (fun _ => True) v (bs.map some)
  nodup : bs.Nodup
  frs : Zip (FrAt wr w.heap.size) bs p.frames
  own : ∀ x ∈ F.own, w.heap.size ≤ x
  bge : w.heap.size ≤ b
  off : ∀ A ∈ F.slices, ∀ a, A = some a → a.block ≠ b ∧ ¬ a.block ∈ bs ∧ v.ownBlock ≠ some a.block
  below : Below w.heap.size w wr
def PAt (w wr : World) (b ps pd : Nat) (p : Pl) : Prop := ∃ F v bs, PIn w wr b ps pd F v bs p
section
variable {w wr w' : World} {b ps pd : Nat} {F : Foot} {v : Value} {bs : List Nat} {p : Pl}
theorem R_moves {k : IntKind} {e : TypeId} {base : Nat} {ok : Nat → Prop} {v : Value} {l : List Int} {s : List Nat} (h : Kd.R (Kd.int k) e wr base ok v l) (hm : Moves s wr w') (ho : ∀ g, v.ownBlock = some g → ¬ g ∈ s) : Kd.R (Kd.int k) e w' base ok v l := by
  have h1 : Kd.R (Kd.int k) e wr base (fun g => v.ownBlock = some g) v l := Kd.R_of_own (enc := Value.int k) (h1 := fun _ => rfl) (Kd.own_of_R (enc := Value.int k) (h1 := fun _ => rfl) h) (fun _ h => h)
  exact Kd.R_mono (Kd.R_step h1 (fun g hg hlt => hm.block g hlt (ho g hg))) (fun g hg => h.1 g hg)
theorem RP_moves {e : TypeId} {base : Nat} {ok : Nat → Prop} {v : Value} {l : List (Option Nat)} {s : List Nat} (h : Kd.R kdP e wr base ok v l) (hm : Moves s wr w') (ho : ∀ g, v.ownBlock = some g → ¬ g ∈ s) : Kd.R kdP e w' base ok v l := by
  have h1 : Kd.R kdP e wr base (fun g => v.ownBlock = some g) v l := Kd.R_of_own (enc := encP) (h1 := encP_one) (Kd.own_of_R (enc := encP) (h1 := encP_one) h) (fun _ h => h)
  exact Kd.R_mono (Kd.R_step h1 (fun g hg hlt => hm.block g hlt (ho g hg))) (fun g hg => h.1 g hg)
theorem typed {α : Type} {d : Kd α} {e : TypeId} {base : Nat} {ok : Nat → Prop} {v : Value} {l : List α} (h : Kd.R d e wr base ok v l) (g : Nat) (hg : v.ownBlock = some g) : ∃ cells, wr.heap[g]? = some (.cells cells e (0, 0)) := by
  obtain ⟨inner, ho⟩ := Kd.R_own h
  exact own_typed ho g hg
theorem ne_of_types {x y : Nat} {c c' : Array Value} {t t' : TypeId} {f f' : Nat × Nat} (h : wr.heap[x]? = some (.cells c t f)) (h' : wr.heap[y]? = some (.cells c' t' f')) (hne : t ≠ t') : x ≠ y := by
  rintro rfl
  rw [h] at h'
  injection h' with h1
  injection h1 with _ h2 _
  exact hne h2
theorem own_types {s : Sh} (h : ShAt wr F s) {y : Nat} {c : Array Value} {t : TypeId} {f : Nat × Nat} (hy : wr.heap[y]? = some (.cells c t f)) (h1 : t ≠ 70) (h2 : t ≠ 77) (h3 : t ≠ 3) : ¬ y ∈ F.own := by
  intro hm
  simp only [Foot.own, List.mem_cons, List.not_mem_nil, or_false] at hm
  rcases hm with e | e | e | e | e
  · exact ne_of_types hy h.row h1 e
  · exact ne_of_types hy h.disk.row h2 e
  · exact row_ne_map hy h.disk.safe e
  · exact row_ne_map hy h.disk.loose e
  · obtain ⟨cells, hc⟩ := typed h.table F.g rfl
    exact ne_of_types hy hc h3 e
theorem FrAt.moves {base x : Nat} {f : Fr} {s : List Nat} (h : FrAt wr base x f) (hm : Moves s wr w') (hx : ¬ x ∈ s) (ho : ∀ y ∈ s, ∀ c f, wr.heap[y]? ≠ some (.cells c 5 f)) : FrAt w' base x f := by
  obtain ⟨v, hr, hb⟩ := h.ex
  refine ⟨⟨v, (hm.block x (lt_of_row hr) hx).trans hr, R_moves hb hm fun g hg hgs => ?_⟩, h.ge, h.bytes, h.short⟩
  obtain ⟨cells, hc⟩ := typed hb g hg
  exact ho g hgs _ _ hc
theorem FrAt.below {base x : Nat} {f : Fr} (h : FrAt wr base x f) (hb : Below wr.heap.size wr w') : FrAt w' base x f := h.moves (Moves.of_below hb []) (by simp) (by simp)
theorem FrAt.lt {base x : Nat} {f : Fr} (h : FrAt wr base x f) : x < wr.heap.size := by obtain ⟨_, hr, _⟩ := h.ex; exact lt_of_row hr
theorem fr_off {s : Sh} (hs : ShAt wr F s) {base x : Nat} {f : Fr} (h : FrAt wr base x f) : ¬ x ∈ F.own := by
  obtain ⟨_, hr, _⟩ := h.ex
  exact own_types hs hr (by decide) (by decide) (by decide)
theorem PIn.fr_ne (h : PIn w wr b ps pd F v bs p) {base x : Nat} {f : Fr} (hf : FrAt wr base x f) : x ≠ b ∧ v.ownBlock ≠ some x := by
  obtain ⟨_, hr, _⟩ := hf.ex
  refine ⟨ne_of_types hr h.row (by decide), fun e => ?_⟩
  obtain ⟨cells, hc⟩ := typed h.arr x e
  exact ne_of_types hr hc (by decide) rfl
theorem PIn.b_off (h : PIn w wr b ps pd F v bs p) : ¬ b ∈ F.own ∧ v.ownBlock ≠ some b := by
  refine ⟨own_types h.sh h.row (by decide) (by decide) (by decide), fun e => ?_⟩
  obtain ⟨cells, hc⟩ := typed h.arr b e
  exact ne_of_types h.row hc (by decide) rfl
theorem PIn.arr_off (h : PIn w wr b ps pd F v bs p) (g : Nat) (hg : v.ownBlock = some g) : ¬ g ∈ F.own := by
  obtain ⟨cells, hc⟩ := typed h.arr g hg
  exact own_types h.sh hc (by decide) (by decide) (by decide)
theorem own_no8 {s : Sh} (h : ShAt wr F s) : ∀ y ∈ F.own, ∀ c f, wr.heap[y]? ≠ some (.cells c 5 f) := fun y hy c f hc => own_types h hc (by decide) (by decide) (by decide) hy
def Ours (b : Nat) (v : Value) (bs : List Nat) (n x : Nat) : Prop := x = b ∨ v.ownBlock = some x ∨ x ∈ bs ∨ n ≤ x
theorem PIn.ours_no8 (h : PIn w wr b ps pd F v bs p) {x : Nat} (hx : Ours b v bs wr.heap.size x) : ∀ c f, wr.heap[x]? ≠ some (.cells c 5 f) := by
  intro c f hc
  rcases hx with rfl | e | e | e
  · exact ne_of_types hc h.row (by decide) rfl
  · obtain ⟨cells, hr⟩ := typed h.arr x e
    exact ne_of_types hc hr (by decide) rfl
  · obtain ⟨f, hf⟩ := h.frs.mem e
    obtain ⟨_, hr, _⟩ := hf.ex
    exact ne_of_types hc hr (by decide) rfl
  · have := lt_of_row hc
    omega
theorem PIn.ours_off (h : PIn w wr b ps pd F v bs p) {x : Nat} (hx : Ours b v bs wr.heap.size x) : ¬ x ∈ F.own := by
  rcases hx with rfl | e | e | e
  · exact h.b_off.1
  · exact h.arr_off x e
  · obtain ⟨f, hf⟩ := h.frs.mem e
    exact fr_off h.sh hf
  · intro hm
    have := h.sh.lts x hm
    omega
theorem PIn.ours_ge (h : PIn w wr b ps pd F v bs p) {x : Nat} (hx : Ours b v bs wr.heap.size x) : w.heap.size ≤ x := by
  rcases hx with rfl | e | e | e
  · exact h.bge
  · exact Kd.R_base h.arr x e
  · obtain ⟨f, hf⟩ := h.frs.mem e
    exact hf.ge
  · exact Nat.le_trans h.below.size e
theorem PIn.ours_slice (h : PIn w wr b ps pd F v bs p) {x : Nat} (hx : Ours b v bs wr.heap.size x) {A : Option Addr} (hA : A ∈ F.slices) {a : Addr} (ha : A = some a) : a.block ≠ x := by
  obtain ⟨h1, h2, h3⟩ := h.off A hA a ha
  rintro rfl
  rcases hx with e | e | e | e
  · exact h1 e
  · exact h3 e
  · exact h2 e
  · have := h.sh.slice_lt A hA a ha
    omega
theorem PIn.later (h : PIn w wr b ps pd F v bs p) (hb : Below wr.heap.size wr w') : PIn w w' b ps pd F v bs p :=
  ⟨h.sh.below hb, h.ep, h.epd, (hb.block b (lt_of_row h.row)).trans h.row, Kd.R_below h.arr hb, h.nodup, h.frs.imp fun x _ f hf => hf.below hb, h.own, h.bge, h.off, h.below.trans (hb.mono h.below.size)⟩
theorem PIn.shadow {F' : Foot} {s' : Sh} (h : PIn w wr b ps pd F v bs p) (hs : ShAt w' F' s') (hg : Goes F F' wr w') : PIn w w' b ps pd F' v bs { p with S := s' } :=
  ⟨hs, hg.p.trans h.ep, hg.pd.trans h.epd, (hg.moves.block b (lt_of_row h.row) h.b_off.1).trans h.row, RP_moves h.arr hg.moves h.arr_off, h.nodup,
   h.frs.imp fun x hx f hf => hf.moves hg.moves (fr_off h.sh hf) (own_no8 h.sh), fun x hx => by
    rcases hg.own x hx with q | q
    · exact h.own x q
    · exact Nat.le_trans h.below.size q, h.bge, fun A hA a ha => by
    rcases hg.sl A hA with q | q
    · exact h.off A q a ha
    · have hge := q a ha
      refine ⟨fun e => ?_, fun e => ?_, fun e => ?_⟩
      · have := lt_of_row h.row
        omega
      · obtain ⟨f, hf⟩ := h.frs.mem e
        have := hf.lt
        omega
      · have := Kd.R_lt h.arr _ e
        omega, h.below.moves_low hg.moves h.own (Nat.le_refl _)⟩
theorem PIn.turn {p' : Pl} {v' : Value} {bs' : List Nat} {s : List Nat} (h : PIn w wr b ps pd F v bs p) (hm : Moves s wr w') (hs : ∀ x ∈ s, Ours b v bs wr.heap.size x)
    (hr : w'.heap[b]? = some (.cells #[.pointer (some ⟨ps, 0, none⟩), .int .i64 p'.most, v', .int .i64 p'.hits, .int .i64 p'.misses] 80 (0, 0)))
    (ha : Kd.R kdP 81 w' w.heap.size (fun _ => True) v' (bs'.map some)) (hn : bs'.Nodup) (hf : Zip (FrAt w' w.heap.size) bs' p'.frames) (hS : p'.S = p.S)
    (hv : ∀ g, v'.ownBlock = some g → v.ownBlock = some g ∨ wr.heap.size ≤ g) (hb : ∀ x ∈ bs', x ∈ bs ∨ wr.heap.size ≤ x ∨ ∀ A ∈ F.slices, ∀ a, A = some a → a.block ≠ x) : PIn w w' b ps pd F v' bs' p' := by
  refine ⟨?_, h.ep, h.epd, hr, ha, hn, hf, h.own, h.bge, fun A hA a hAa => ⟨(h.off A hA a hAa).1, fun e => ?_, fun e => ?_⟩, h.below.moves_low hm (fun x hx => h.ours_ge (hs x hx)) (Nat.le_refl _)⟩
  · rw [hS]
    exact h.sh.beside hm (fun x hx hxs => h.ours_off (hs x hxs) hx) (fun A hA a ha hxs => h.ours_slice (hs _ hxs) hA ha rfl)
  · rcases hb _ e with q | q | q
    · exact (h.off A hA a hAa).2.1 q
    · have := h.sh.slice_lt A hA a hAa
      omega
    · exact q A hA a hAa rfl
  · rcases hv _ e with q | q
    · exact (h.off A hA a hAa).2.2 q
    · have := h.sh.slice_lt A hA a hAa
      omega
theorem PIn.fr_keep (h : PIn w wr b ps pd F v bs p) {s : List Nat} (hm : Moves s wr w') (hs : ∀ x ∈ s, Ours b v bs wr.heap.size x) {base x : Nat} {f : Fr} (hf : FrAt wr base x f) (hx : ¬ x ∈ s) : FrAt w' base x f := hf.moves hm hx (fun y hy => h.ours_no8 (hs y hy))
structure K8 (w wr w' : World) : Prop where
  size : wr.heap.size ≤ w'.heap.size
  block : ∀ x, x < wr.heap.size → (x < w.heap.size ∨ ∃ cs fr, wr.heap[x]? = some (.cells cs 5 fr)) → w'.heap[x]? = wr.heap[x]?
theorem K8.refl (w wr : World) : K8 w wr wr := ⟨Nat.le_refl _, fun _ _ _ => rfl⟩
theorem K8.trans {w'' : World} (h : K8 w wr w') (k : K8 w w' w'') : K8 w wr w'' := ⟨Nat.le_trans h.size k.size, fun x hx ht => by
  rw [← h.block x hx ht]
  refine k.block x (Nat.lt_of_lt_of_le hx h.size) ?_
  rcases ht with q | ⟨cs, fr, q⟩
  · exact .inl q
  · exact .inr ⟨cs, fr, (h.block x hx (.inr ⟨cs, fr, q⟩)).trans q⟩⟩
theorem K8.of_below (hb : Below wr.heap.size wr w') : K8 w wr w' := ⟨hb.size, fun x hx _ => hb.block x hx⟩
theorem K8.of_moves {s : List Nat} (hm : Moves s wr w') (hs : ∀ x ∈ s, w.heap.size ≤ x ∧ ∀ c f, wr.heap[x]? ≠ some (.cells c 5 f)) : K8 w wr w' := ⟨hm.size, fun x hx ht => hm.block x hx fun hm => by
  obtain ⟨h1, h2⟩ := hs x hm
  rcases ht with q | ⟨cs, fr, q⟩
  · omega
  · exact h2 _ _ q⟩
theorem PIn.k8_goes {F' : Foot} (h : PIn w wr b ps pd F v bs p) (hg : Goes F F' wr w') : K8 w wr w' := K8.of_moves hg.moves fun x hx => ⟨h.own x hx, own_no8 h.sh x hx⟩
theorem PIn.k8_ours {s : List Nat} (h : PIn w wr b ps pd F v bs p) (hm : Moves s wr w') (hs : ∀ x ∈ s, Ours b v bs wr.heap.size x) : K8 w wr w' := K8.of_moves hm fun x hx => ⟨h.ours_ge (hs x hx), h.ours_no8 (hs x hx)⟩
structure In8 (w wr : World) (A : Option Addr) (l : List Int) (c : Nat) : Prop where
  in_ : InW .u8 wr A l c
  at_ : ∀ a, A = some a → l ≠ [] → a.block < w.heap.size ∨ ∃ cs fr, wr.heap[a.block]? = some (.cells cs 5 fr)
theorem In8.keep {A : Option Addr} {l : List Int} {c : Nat} (h : In8 w wr A l c) (k : K8 w wr w') : In8 w w' A l c := by
  refine ⟨⟨?_, h.in_.room, fun a ha hne => Nat.lt_of_lt_of_le (h.in_.lt a ha hne) k.size⟩, fun a ha hne => ?_⟩
  · cases A with
    | none =>
      cases l with
      | nil => exact Kd.C_nil _ _
      | cons x r =>
        obtain ⟨ad, e, _⟩ := Kd.at_int h.in_.reads 0 (by omega) (by simp only [List.length_cons]; omega)
        cases e
    | some ad =>
      refine Kd.C_of_reads (enc := Value.int .u8) (d := (0 : Int)) (h1 := fun _ => rfl) ⟨rfl, h.in_.reads.2.1, fun _ => ⟨_, rfl, fun j hj => ?_⟩⟩
      obtain ⟨ad', e, hc⟩ := Kd.at_int h.in_.reads (j : Int) (by omega) (by omega)
      cases e
      have hne : l ≠ [] := fun e => by rw [e] at hj; exact absurd hj (by simp)
      rw [Int.toNat_natCast] at hc
      rw [World.cell?_of_block (k.block _ (by rw [Sh.add_block]; exact h.in_.lt ad rfl hne) (by rw [Sh.add_block]; exact h.at_ ad rfl hne)), hc]
      simp [rd, List.getD_eq_getElem?_getD]
  · rcases h.at_ a ha hne with q | ⟨cs, fr, q⟩
    · exact .inl q
    · exact .inr ⟨cs, fr, (k.block _ (h.in_.lt a ha hne) (.inr ⟨cs, fr, q⟩)).trans q⟩
end
end Go.Proofs.YtgmkbcoahilkhaaGreat.Pool
end
section
namespace Go.Proofs
open Go.Shelf
def Tryz.deleteF_ren : Go.Shelf.Ren := ⟨fun | 45 => 54 | n => n, fun | 22 => 78 | 23 => 81 | 3 => 3 | 4 => 4 | 0 => 0 | n => n, fun | n => n⟩
theorem Tryz.deleteF : Go.Proofs.SlLaysE.n45 Tryz.prog Tryz.deleteF_ren := {
  mixed := by kernel_rfl
  f45 := ⟨Tryz.f54.name, by decide, Tryz.func54.trans (congrArg some (by kernel_rfl))⟩
  t0 := Tryz.underlying0
  a0 := Tryz.isAgg0
  z0 := Tryz.sizeOf0
  v0 := Tryz.zeroValue0
  t3 := Tryz.underlying3
  a3 := Tryz.isAgg3
  z3 := Tryz.sizeOf3
  v3 := Tryz.zeroValue3
  t4 := Tryz.underlying4
  a4 := Tryz.isAgg4
  z4 := Tryz.sizeOf4
  v4 := Tryz.zeroValue4
  t22 := Tryz.underlying78
  a22 := Tryz.isAgg78
  z22 := Tryz.sizeOf78
  v22 := Tryz.zeroValue78
  a23 := Tryz.isAgg81
  z23 := Tryz.sizeOf81 }
end Go.Proofs
end
section
namespace Go.Proofs.YtgmkbcoahilkhaaGreat.Pool
open Go.RowKit Go.Sort Go.Shelf Go.Lib Go.Proofs.YtgmkbcoahilkhaaGreatW.PrintWords Go.Proofs.YtgmkbcoahilkhaaGreatW.PrintLast Go.Proofs.YtgmkbcoahilkhaaGreatW.PrintMore Go.Proofs.YtgmkbcoahilkhaaGreat.MapFn Go.Proofs.YtgmkbcoahilkhaaGreat.Disk Go.Proofs.YtgmkbcoahilkhaaGreat.Page Go.Proofs.YtgmkbcoahilkhaaGreat.Num Go.Proofs.YtgmkbcoahilkhaaGreat.Bitset Go.Proofs.YtgmkbcoahilkhaaGreat.Sh
set_option linter.unusedVariables false
set_option linter.unusedSimpArgs false
set_option maxHeartbeats 8000000
set_option maxRecDepth 100000
def T101_1 : Bool × List (List Nat × List Nat) := (true, [([], []), ([0], [0]), ([1], [1]), ([2], [2]), ([], []), ([3, 4], [3, 4]), ([5, 0, 1, 2, 3, 4, 5], [5])])
def B101_1 : List Nat := [0, 1, 3, 7, 0, 31, 63]
theorem tab101_1 : rtab .any (opsOf Tryz.f101 1) = T101_1 := by kernel_rfl
theorem bits101_1 : waitsOk T101_1.2 B101_1 = true := by kernel_rfl
theorem at_ptr {w : World} {A : Option Addr} {n : Nat} {xs : List (Option Nat)} (h : kdP.C w A n xs) (i : Int) (h0 : 0 ≤ i) (h1 : i < n) : ∃ ad, A = some ad ∧ w.cell? (ad.add i.toNat) = some (encP (rdOf none xs i)) :=
  ReadsOf.at_ (Kd.reads_of_C (enc := encP) (d := (none : Option Nat)) (h1 := encP_one) h) i h0 h1
theorem place1_any {w : World} {base x bid : Nat} {f : Fr} {id : Int} (hf : FrAt w base x f) (hid : w.cell? ⟨bid, 0, none⟩ = some (.int .i64 id)) :
    Calls Tryz.prog 101 #[.pointer (some ⟨x, 0, none⟩), .pointer (some ⟨bid, 0, none⟩)] w fun e w' => e = .returned (.bool (decide (f.id = id))) ∧ Below w.heap.size w w' := by
  obtain ⟨v, hr, _⟩ := hf.ex
  have KC : w.drew.cell? ⟨x, 0, none⟩ = some (.int .i64 f.id) ∧ w.drew.cell? ⟨bid, 0, none⟩ = some (.int .i64 id) := ⟨cell_of hr, hid⟩
  clear hf hid hr
  go_enter Tryz.func101, Tryz.ntmps101
  go_wp2
  refine start_ (n := 7) (S := fun w' => w'.cell? ⟨x, 0, none⟩ = some (.int .i64 f.id) ∧ w'.cell? ⟨bid, 0, none⟩ = some (.int .i64 id)) (ds := []) #[false, false, false, false, false, false, false] (by kernel_rfl) rfl rfl KC (fun hHeld => ?_); refine with_tabW tab101_1 bits101_1 (fun HT_ HW_ => ?_)
  refine pure_ (i := 0) (N := some 4) (v := ?_) (a' := ?_) #[true, false, false, false, false, false, false] rfl rfl (any_of HT_.out (by kernel_rfl)) (fun _ _ _ h => h) (Or.inl ⟨by rfl, ?_⟩) ?_ ?_
  rotate_left
  · intro w'
    go_simp
    with_reducible rfl
  rotate_left
  · simp only [Act.put, List.setIfInBounds_toArray, List.set_cons_zero, List.set_cons_succ, i64_w, i32_w]
    rfl
  refine pure_ (i := 1) (N := some 5) (v := ?_) (a' := ?_) #[true, true, false, false, false, false, false] rfl rfl (any_of HT_.out (by kernel_rfl)) (fun _ _ _ h => h) (Or.inl ⟨by rfl, ?_⟩) ?_ ?_
  rotate_left
  · intro w'
    go_simp
    with_reducible rfl
  rotate_left
  · simp only [Act.put, List.setIfInBounds_toArray, List.set_cons_zero, List.set_cons_succ, i64_w, i32_w]
    rfl
  refine pure_ (i := 2) (N := some 6) (v := ?_) (a' := ?_) #[true, true, true, false, false, false, false] rfl rfl (any_of HT_.out (by kernel_rfl)) (fun _ _ _ h => h) (Or.inl ⟨by rfl, ?_⟩) ?_ ?_
  rotate_left
  · intro w'
    go_simp
    with_reducible rfl
  rotate_left
  · simp only [Act.put, List.setIfInBounds_toArray, List.set_cons_zero, List.set_cons_succ, i64_w, i32_w]
    rfl
  refine take_ (i := 3) (N := some 7) (v := ?_) (a' := ?_) #[true, true, true, true, false, false, false] rfl rfl (take_ofW HT_.out HW_.out (by kernel_rfl)) (fun _ _ _ h => h) (Or.inl ⟨by rfl, ?_⟩) hHeld ?_ ?_
  rotate_left
  · intro w' hS'
    have s1 := hS'.1
    go_simp
    rfl
  rotate_left
  · simp only [Act.put, List.setIfInBounds_toArray, List.set_cons_zero, List.set_cons_succ, i64_w, i32_w]
    rfl
  refine take_ (i := 4) (N := some 8) (v := ?_) (a' := ?_) #[true, true, true, true, true, false, false] rfl rfl (take_ofW HT_.out HW_.out (by kernel_rfl)) (fun _ _ _ h => h) (Or.inl ⟨by rfl, ?_⟩) hHeld ?_ ?_
  rotate_left
  · intro w' hS'
    have s1 := hS'.2
    go_simp
    rfl
  rotate_left
  · simp only [Act.put, List.setIfInBounds_toArray, List.set_cons_zero, List.set_cons_succ, i64_w, i32_w]
    rfl
  refine pure_ (i := 5) (N := some 9) (v := ?_) (a' := ?_) #[true, true, true, true, true, true, false] rfl rfl (any_of HT_.out (by kernel_rfl)) (fun _ _ _ h => h) (Or.inl ⟨by rfl, ?_⟩) ?_ ?_
  rotate_left
  · intro w'
    go_simp
    with_reducible rfl
  rotate_left
  · simp only [Act.put, List.setIfInBounds_toArray, List.set_cons_zero, List.set_cons_succ, i64_w, i32_w]
    rfl
  refine pure_ (i := 6) (N := some 3) (v := ?_) (a' := ?_) #[true, true, true, true, true, true, true] rfl rfl (any_of HT_.out (by kernel_rfl)) (fun _ _ _ h => h) (Or.inl ⟨by rfl, ?_⟩) ?_ ?_
  rotate_left
  · intro w'
    go_simp
    with_reducible rfl
  rotate_left
  · simp only [Act.put, List.setIfInBounds_toArray, List.set_cons_zero, List.set_cons_succ, i64_w, i32_w]
    rfl
  refine done_ (done_of HT_.out (by kernel_rfl)) ?_
  clear KC hHeld
  go_wp2
  go_ret
  exact ⟨by congr 2, below_drew (Below.refl _ _)⟩
theorem room1_any {w : World} {base x : Nat} {f : Fr} (hf : FrAt w base x f) :
    Calls Tryz.prog 97 #[.pointer (some ⟨x, 0, none⟩)] w fun e w' => e = .returned (.bool (decide (f.pins = 0))) ∧ Below w.heap.size w w' := by
  obtain ⟨v, hr, _⟩ := hf.ex
  have c3 : w.cell? ⟨x, 3, none⟩ = some (.int .i64 f.pins) := cell_of hr
  clear hf hr
  go_enter Tryz.func97, Tryz.ntmps97
  go_wp2
  go_ret
  exact ⟨by congr 2, Below.refl _ _⟩
theorem index_place {base : Nat} (bs : List Nat) (fs : List Fr) (A : Option Addr) (c : Nat) (w : World) (hC : kdP.C w A bs.length (bs.map some)) (hz : Zip (FrAt w base) bs fs) (hn : bs.length ≤ 100000) (bid : Nat) (id : Int) (hid : w.cell? ⟨bid, 0, none⟩ = some (.int .i64 id)) :
    Calls Tryz.prog 96 #[.slice A bs.length c, .func (.func 101) #[] #[.pointer (some ⟨bid, 0, none⟩)]] w fun e w' => e = .returned (.int .i64 (idxF (fun f => decide (f.id = id)) fs 0)) ∧ Below w.heap.size w w' := by
  obtain ⟨R, hR⟩ : ∃ R, idxF (fun f => decide (f.id = id)) fs 0 = R := ⟨_, rfl⟩
  rw [hR]
  have HR := Hide.mk hR
  have HC := Hide.mk hC
  have HZ := Hide.mk hz
  clear hR hC hz
  go_enter Tryz.func96, Tryz.ntmps96
  go_wp2
  go_loopw [8] (fun v8 wr => ∃ i : Nat, v8 = .int .i64 (i : Int) ∧ Hide (i ≤ bs.length) ∧ Hide (R = idxF (fun f => decide (f.id = id)) (fs.drop i) i) ∧ Hide (Below w.heap.size w wr)) (fun v8 _ => bs.length - (intOf v8).toNat)
  case atStart => exact ⟨0, by first | rfl | simp, ⟨Nat.zero_le _⟩, ⟨by rw [List.drop_zero]; exact HR.out.symm⟩, ⟨Below.refl _ _⟩⟩
  case round =>
    obtain ⟨i, rfl, hi, hRR, hB⟩ := hrel
    have hn0 := hn
    by_cases hlt0 : i < bs.length
    · have hlt : (i : Int) < (bs.length : Int) := by omega
      obtain ⟨ad, rfl, hcell⟩ := at_ptr (Kd.C_below HC.out hB.out) (i : Int) (by omega) hlt
      rw [Int.toNat_natCast] at hcell
      have hfl : i < fs.length := by have := HZ.out.len; omega
      have hfr := (HZ.out.at_ i _ _ (List.getElem?_eq_getElem hlt0) (List.getElem?_eq_getElem hfl))
      have HF := Hide.mk (fun (W : World) (h : Below w.heap.size w W) => hfr.below h)
      have E1 : Hide (fs.drop i = fs[i] :: fs.drop (i + 1)) := ⟨List.drop_eq_getElem_cons hfl⟩
      have hrd : rdOf none (bs.map some) (i : Int) = some bs[i] := by simp [rdOf, List.getD_eq_getElem?_getD, hlt0]
      rw [hrd] at hcell
      generalize bs[i] = x at *
      generalize fs[i] = f at *
      have hcell2 : wr.cell? (ad.add i) = some (.pointer (some ⟨x, 0, none⟩)) := hcell
      have LT := Hide.mk hlt0
      have hR1 := hRR.out
      rw [E1.out, idxF] at hR1
      have HP := Hide.mk (place1_any (HF.out wr hB.out) (pw_cell_below hB.out (show w.cell? ⟨bid, 0, none⟩ = some (.int .i64 id) from hid)))
      clear hcell hfr hrd hlt0 hfl
      by_cases hq : (fun f => decide (f.id = id)) f = true
      · rw [if_pos hq] at hR1
        have hq2 : decide (f.id = id) = true := by simpa using hq
        have HR1 := Hide.mk hR1
        clear hR1 hRR hq
        go_wp2_with (go_at_call 101; refine HP.out.mono ?_; rintro e w3 ⟨rfl, hb3⟩; have B3 := Hide.mk hb3; clear hb3; rw [hq2])
        go_ret
        exact ⟨by rw [HR1.out]; rfl, hB.out.trans (B3.out.mono hB.out.size)⟩
      · rw [if_neg hq] at hR1
        have hq2 : decide (f.id = id) = false := by simpa using hq
        have HR1 := Hide.mk hR1
        clear hR1 hRR hq
        go_wp2_with (go_at_call 101; refine HP.out.mono ?_; rintro e w3 ⟨rfl, hb3⟩; have B3 := Hide.mk hb3; clear hb3; rw [hq2])
        go_roundw
        case rel => exact ⟨i + 1, by go_num, ⟨by have := LT.out; omega⟩, HR1, ⟨hB.out.trans (B3.out.mono hB.out.size)⟩⟩
        case measure => have := LT.out; simp [intOf]; omega
    · have hlt : ¬ (i : Int) < (bs.length : Int) := by omega
      have E := Hide.mk (show i = bs.length by have := hi.out; omega)
      clear hlt0
      go_wp2
      go_ret
      exact ⟨by rw [hRR.out, E.out, HZ.out.len, List.drop_length]; rfl, hB.out⟩
theorem index_room {base : Nat} (bs : List Nat) (fs : List Fr) (A : Option Addr) (c : Nat) (w : World) (hC : kdP.C w A bs.length (bs.map some)) (hz : Zip (FrAt w base) bs fs) (hn : bs.length ≤ 100000) :
    Calls Tryz.prog 96 #[.slice A bs.length c, .func (.func 97) #[] #[]] w fun e w' => e = .returned (.int .i64 (idxF (fun f => decide (f.pins = 0)) fs 0)) ∧ Below w.heap.size w w' := by
  obtain ⟨R, hR⟩ : ∃ R, idxF (fun f => decide (f.pins = 0)) fs 0 = R := ⟨_, rfl⟩
  rw [hR]
  have HR := Hide.mk hR
  have HC := Hide.mk hC
  have HZ := Hide.mk hz
  clear hR hC hz
  go_enter Tryz.func96, Tryz.ntmps96
  go_wp2
  go_loopw [8] (fun v8 wr => ∃ i : Nat, v8 = .int .i64 (i : Int) ∧ Hide (i ≤ bs.length) ∧ Hide (R = idxF (fun f => decide (f.pins = 0)) (fs.drop i) i) ∧ Hide (Below w.heap.size w wr)) (fun v8 _ => bs.length - (intOf v8).toNat)
  case atStart => exact ⟨0, by first | rfl | simp, ⟨Nat.zero_le _⟩, ⟨by rw [List.drop_zero]; exact HR.out.symm⟩, ⟨Below.refl _ _⟩⟩
  case round =>
    obtain ⟨i, rfl, hi, hRR, hB⟩ := hrel
    have hn0 := hn
    by_cases hlt0 : i < bs.length
    · have hlt : (i : Int) < (bs.length : Int) := by omega
      obtain ⟨ad, rfl, hcell⟩ := at_ptr (Kd.C_below HC.out hB.out) (i : Int) (by omega) hlt
      rw [Int.toNat_natCast] at hcell
      have hfl : i < fs.length := by have := HZ.out.len; omega
      have hfr := (HZ.out.at_ i _ _ (List.getElem?_eq_getElem hlt0) (List.getElem?_eq_getElem hfl))
      have HF := Hide.mk (fun (W : World) (h : Below w.heap.size w W) => hfr.below h)
      have E1 : Hide (fs.drop i = fs[i] :: fs.drop (i + 1)) := ⟨List.drop_eq_getElem_cons hfl⟩
      have hrd : rdOf none (bs.map some) (i : Int) = some bs[i] := by simp [rdOf, List.getD_eq_getElem?_getD, hlt0]
      rw [hrd] at hcell
      generalize bs[i] = x at *
      generalize fs[i] = f at *
      have hcell2 : wr.cell? (ad.add i) = some (.pointer (some ⟨x, 0, none⟩)) := hcell
      have LT := Hide.mk hlt0
      have hR1 := hRR.out
      rw [E1.out, idxF] at hR1
      have HP := Hide.mk (room1_any (HF.out wr hB.out))
      clear hcell hfr hrd hlt0 hfl
      by_cases hq : (fun f => decide (f.pins = 0)) f = true
      · rw [if_pos hq] at hR1
        have hq2 : decide (f.pins = 0) = true := by simpa using hq
        have HR1 := Hide.mk hR1
        clear hR1 hRR hq
        go_wp2_with (go_at_call 97; refine HP.out.mono ?_; rintro e w3 ⟨rfl, hb3⟩; have B3 := Hide.mk hb3; clear hb3; rw [hq2])
        go_ret
        exact ⟨by rw [HR1.out]; rfl, hB.out.trans (B3.out.mono hB.out.size)⟩
      · rw [if_neg hq] at hR1
        have hq2 : decide (f.pins = 0) = false := by simpa using hq
        have HR1 := Hide.mk hR1
        clear hR1 hRR hq
        go_wp2_with (go_at_call 97; refine HP.out.mono ?_; rintro e w3 ⟨rfl, hb3⟩; have B3 := Hide.mk hb3; clear hb3; rw [hq2])
        go_roundw
        case rel => exact ⟨i + 1, by go_num, ⟨by have := LT.out; omega⟩, HR1, ⟨hB.out.trans (B3.out.mono hB.out.size)⟩⟩
        case measure => have := LT.out; simp [intOf]; omega
    · have hlt : ¬ (i : Int) < (bs.length : Int) := by omega
      have E := Hide.mk (show i = bs.length by have := hi.out; omega)
      clear hlt0
      go_wp2
      go_ret
      exact ⟨by rw [hRR.out, E.out, HZ.out.len, List.drop_length]; rfl, hB.out⟩
theorem info81 : (Tryz.prog.info? 81).map (·.size) = some 1 := by kernel_rfl
theorem delete_any {w : World} {base g cap : Nat} {ok : Nat → Prop} {bs : List Nat} (i : Nat) (h : Kd.R kdP 81 w base ok (.slice (some ⟨g, 0, none⟩) bs.length cap) (bs.map some)) (hi : i < bs.length) :
    Calls Tryz.prog 54 #[.slice (some ⟨g, 0, none⟩) bs.length cap, .int .i64 (i : Int), .int .i64 ((i + 1 : Nat) : Int)] w fun e w' => e = .returned (.slice (some ⟨g, 0, none⟩) (bs.length - 1) cap) ∧ Kd.R kdP 81 w' base ok (.slice (some ⟨g, 0, none⟩) (bs.length - 1) cap) ((bs.eraseIdx i).map some) ∧ w.grownBy w' (some g) := by
  have ho0 := Kd.own_of_R (enc := encP) (h1 := encP_one) h
  have ho : w.ownsRow base 81 1 (.slice (some ⟨g, 0, none⟩) bs.length cap) bs.length ((bs.map some).map encP) := by have := ho0; rw [List.length_map] at this; exact this
  obtain ⟨g', cap', e, hb, hlt, hn, hm, hl, hH⟩ := holds_of_ownsRow ho (by simp)
  cases e
  obtain ⟨i0, hi0, hz⟩ := Option.map_eq_some_iff.1 info81
  have hsz : (bs.map some).toArray.size = bs.length := by simp
  have hD := AnyE.slices_Delete Tryz.deleteF encP encP_one (none : Option Nat) (fun w => Tryz.zeroValue81 w) i0 hi0 hz g 0 cap i (i + 1) (bs.map some).toArray w hH (by rw [hsz]; exact hn) (by unfold maxLen at hm; omega) (by omega) (by rw [hsz]; omega)
  rw [hsz] at hD
  refine hD.mono ?_
  rintro e w' ⟨rfl, q, rfl⟩
  have hy : ((bs.map some).take i ++ (bs.map some).drop (i + 1) ++ List.replicate (i + 1 - i) none).length = bs.length := by simp; omega
  have hr := ownsRow_putRow (q := q) (ys := (bs.map some).take i ++ (bs.map some).drop (i + 1) ++ List.replicate (i + 1 - i) none) (k := bs.length - 1) ho hy (by omega)
  have ht : ((bs.map some).take i ++ (bs.map some).drop (i + 1) ++ List.replicate (i + 1 - i) none).take (bs.length - 1) = (bs.eraseIdx i).map some := by
    rw [List.take_left' (by simp; omega), List.eraseIdx_eq_take_drop_succ, List.map_append, List.map_take, List.map_drop]
  rw [ht] at hr
  have hl2 : (bs.eraseIdx i).length = bs.length - 1 := by rw [List.length_eraseIdx, if_pos hi]
  refine ⟨by rw [show i + 1 - i = 1 by omega], ?_, ?_⟩
  · refine Kd.R_of_own (enc := encP) (h1 := encP_one) ?_ (fun k hk => h.1 k (by simpa [Value.ownBlock] using hk))
    rw [List.length_map, hl2]
    exact hr
  · exact ⟨rfl, rfl, rfl, by simp [putRow, mapBlock, Sort.ahead], fun k hk hne => by
      have hgk : g ≠ k := fun e => hne (by rw [e])
      simp [putRow, mapBlock, Sort.ahead, Array.getElem?_modify, hgk]⟩
end Go.Proofs.YtgmkbcoahilkhaaGreat.Pool
end
section
namespace Go.Proofs.YtgmkbcoahilkhaaGreat.Pool
open Go.RowKit Go.Proofs.YtgmkbcoahilkhaaGreatW.PrintWords Go.Proofs.YtgmkbcoahilkhaaGreatW.PrintLast Go.Proofs.YtgmkbcoahilkhaaGreatW.PrintMore Go.Proofs.YtgmkbcoahilkhaaGreat.MapFn Go.Proofs.YtgmkbcoahilkhaaGreat.Disk Go.Proofs.YtgmkbcoahilkhaaGreat.Page Go.Proofs.YtgmkbcoahilkhaaGreat.Num Go.Proofs.YtgmkbcoahilkhaaGreat.Bitset Go.Proofs.YtgmkbcoahilkhaaGreat.Sh
set_option linter.unusedVariables false
set_option linter.unusedSimpArgs false
set_option maxHeartbeats 8000000
set_option maxRecDepth 100000
theorem infoP : (Tryz.prog.info? 81).map (fun i => (i.zero, i.size, i.bytes)) = some (some (.pointer none), 1, 8) := by kernel_rfl
theorem poolnew_any {w wr : World} {ps pd : Nat} {S : Sh} {F : Foot} (n : Int) (hs : ShAt wr F S) (ep : F.p = ps) (epd : F.pd = pd) (ho : ∀ x ∈ F.own, w.heap.size ≤ x) (hb : Below w.heap.size w wr) (h1 : 1 ≤ n) (h2 : n ≤ 64) :
    Calls Tryz.prog 11 #[.pointer (some ⟨ps, 0, none⟩), .int .i64 n] wr fun e w' => ∃ b, e = .returned (.tuple #[.pointer (some ⟨b, 0, none⟩), .int .i64 0]) ∧ PIn w w' b ps pd F (.slice none 0 0) [] (Pl.new S n) := by
  have q1 : ¬ n < 1 := by omega
  have q2 : ¬ n > 64 := by omega
  have q3 : ¬ (64 : Int) < n := by omega
  have hal := (Below.refl wr.heap.size wr).alloc (Nat.le_refl _) (.cells #[.pointer (some ⟨ps, 0, none⟩), .int .i64 n, .slice none 0 0, .int .i64 0, .int .i64 0] 80)
  have row := heap_last wr (.cells #[.pointer (some ⟨ps, 0, none⟩), .int .i64 n, .slice none 0 0, .int .i64 0, .int .i64 0] 80)
  have FIN := Hide.mk (show PIn w (wr.alloc (.cells #[.pointer (some ⟨ps, 0, none⟩), .int .i64 n, .slice none 0 0, .int .i64 0, .int .i64 0] 80)) wr.heap.size ps pd F (.slice none 0 0) [] (Pl.new S n) from
    ⟨hs.below hal, ep, epd, row, Kd.R_nil _ _ _ _ _, List.nodup_nil, Zip.nil _, ho, hb.size, (fun A hA a ha => ⟨(by have := hs.slice_lt A hA a ha; omega), by simp, by simp [Value.ownBlock]⟩), hb.trans (hal.mono hb.size)⟩)
  clear hs hal row
  go_enter Tryz.func11, Tryz.ntmps11
  go_wp2
  go_ret2
  exact ⟨_, rfl, FIN.out⟩
section
variable {w wr : World} {b ps pd : Nat} {F : Foot} {v : Value} {bs : List Nat} {p : Pl}
theorem PIn.slice (h : PIn w wr b ps pd F v bs p) : ∃ A c, v = .slice A bs.length c ∧ kdP.C wr A bs.length (bs.map some) := by
  obtain ⟨A, c, hv, _, hc⟩ := Kd.R_reads h.arr
  rw [List.length_map] at hv hc
  exact ⟨A, c, hv, hc⟩
theorem place_any (h : PIn w wr b ps pd F v bs p) (id : Int) (hn : bs.length ≤ 100000) :
    Calls Tryz.prog 53 #[.pointer (some ⟨b, 0, none⟩), .int .i64 id] wr fun e w' => e = .returned (.int .i64 (p.place id)) ∧ Below wr.heap.size wr w' := by
  obtain ⟨A, c, rfl, hC⟩ := h.slice
  have hal := (Below.refl wr.heap.size wr).alloc (Nat.le_refl _) (.cells #[.int .i64 id] 3)
  have h2 := h.later hal
  have c2 : (wr.alloc (.cells #[.int .i64 id] 3)).cell? ⟨b, 2, none⟩ = some (.slice A bs.length c) := cell_of h2.row
  have hid : (wr.alloc (.cells #[.int .i64 id] 3)).cell? ⟨wr.heap.size, 0, none⟩ = some (.int .i64 id) := cell_of (heap_last _ _)
  have HI := Hide.mk (index_place bs p.frames A c (wr.alloc (.cells #[.int .i64 id] 3)) (Kd.C_below hC hal) h2.frs hn wr.heap.size id hid)
  have HB := Hide.mk hal
  clear h h2 hC hal hid
  go_enter Tryz.func53, Tryz.ntmps53
  go_wp2_with (go_at_call 96; refine HI.out.mono ?_; rintro e w2 ⟨rfl, hb⟩; have B2 := Hide.mk hb; clear hb)
  go_ret
  exact ⟨rfl, HB.out.trans (B2.out.mono HB.out.size)⟩
theorem hold_any (h : PIn w wr b ps pd F v bs p) {x : Nat} {f : Fr} (hx : FrAt wr w.heap.size x f) (hn : ¬ x ∈ bs) (hxo : ∀ A ∈ F.slices, ∀ a, A = some a → a.block ≠ x) (hl : bs.length ≤ 1000) :
    Calls Tryz.prog 49 #[.pointer (some ⟨b, 0, none⟩), .pointer (some ⟨x, 0, none⟩)] wr fun e w' => e = .returned (.pointer (some ⟨x, 0, none⟩)) ∧ K8 w wr w' ∧ ∃ v', PIn w w' b ps pd F v' (bs ++ [x]) (p.hold f) := by
  obtain ⟨A, c, hv, hC⟩ := h.slice
  have H := Hide.mk h
  have HX := Hide.mk hx
  have HN := Hide.mk hn
  have HXO := Hide.mk hxo
  have HV := Hide.mk hv
  subst hv
  have c2 : wr.cell? ⟨b, 2, none⟩ = some (.slice A bs.length c) := cell_of h.row
  have ARR := Hide.mk h.arr
  have HGE := Hide.mk h.below.size
  clear h hx hn hxo hC
  go_enter Tryz.func49, Tryz.ntmps49
  go_wp2_with ((with_reducible refine gate_builtin (b := .append) (xs := #[.tmp 9, .tmp 11]) rfl ?_); at_builtin
               refine Kd.R_append kdP (w0 := wr) w.heap.size rfl (.tmp 9) (.tmp 11) 78 81 (.pointer none) 8 rfl Tryz.underlying78 infoP rfl (by decide) (by omega) (.slice A bs.length c) (bs.map some) (some x) [.pointer (some ⟨x, 0, none⟩)] (fun _ => True) (fun _ => False) rfl rfl rfl (fun _ h => h.elim) (fun _ _ => trivial) ARR.out (Below.refl _ _) HGE.out (by rw [List.length_map]; omega) ?_
               intro v1 w1 ho hb hg hat
               obtain ⟨A1, c1, hv1⟩ := Kd.R_slice ho
               obtain ⟨n1, hn1⟩ : ∃ n, (bs.map some ++ [some x]).length = n := ⟨_, rfl⟩
               rw [hn1] at hv1
               subst hv1
               have hne : some b ≠ (Value.slice A bs.length c).ownBlock := fun e => H.out.b_off.2 e.symm
               have row1 := (hg.block b (lt_of_row H.out.row) hne).trans H.out.row
               have d2 : w1.cell? ⟨b, 2, none⟩ = some (.slice A bs.length c) := cell_of row1
               have f2 := free_of (i := 2) row1
               have HO := Hide.mk ho
               have HG := Hide.mk hg
               have HAT := Hide.mk hat
               have ROW1 := Hide.mk row1
               clear ho hb hg hat hn1 hne row1)
  go_ret
  have hs2 := set_row (i := 2) ROW1.out (.slice A1 n1 c1)
  have hg2 : w1.grownBy (w1.setCell ⟨b, 2, none⟩ (.slice A1 n1 c1)) (some b) := ⟨rfl, rfl, rfl, by simp, fun q _ hq => heap_setCell_other _ _ _ _ (fun e => hq (by rw [e]))⟩
  have hm : Moves (b :: (Value.slice A bs.length c).ownBlock.toList) wr (w1.setCell ⟨b, 2, none⟩ (.slice A1 n1 c1)) := by
    refine ⟨HG.out.os, HG.out.tape, HG.out.output, Nat.le_trans HG.out.size hg2.size, fun k hk hkn => ?_⟩
    simp only [List.mem_cons, not_or] at hkn
    rw [hg2.block k (Nat.lt_of_lt_of_le hk HG.out.size) (fun e => hkn.1 (Option.some.inj e)), HG.out.block k hk (fun e => hkn.2 (by rw [← e]; simp))]
  have hours : ∀ y ∈ b :: (Value.slice A bs.length c).ownBlock.toList, Ours b (.slice A bs.length c) bs wr.heap.size y := by
    intro y hy
    rcases List.mem_cons.1 hy with e | hy
    · exact .inl e
    · exact .inr (.inl (by simpa using hy))
  have hfar : ∀ y f, FrAt wr w.heap.size y f → ¬ y ∈ b :: (Value.slice A bs.length c).ownBlock.toList := by
    intro y f hf hy
    obtain ⟨n1, n2⟩ := H.out.fr_ne hf
    rcases List.mem_cons.1 hy with e | hy
    · exact n1 e
    · exact n2 (by simpa using hy)
  refine ⟨rfl, H.out.k8_ours hm hours, .slice A1 n1 c1, H.out.turn hm hours ?_ ?_ ?_ ?_ rfl ?_ ?_⟩
  · simpa [Pl.hold] using hs2
  · rw [List.map_append]
    refine RP_moves HO.out (Moves.of_grown hg2) fun g hgo hgs => ?_
    simp only [List.mem_singleton] at hgs
    subst hgs
    obtain ⟨cells, hc⟩ := typed HO.out g hgo
    exact ne_of_types hc ROW1.out (by decide) rfl
  · rw [List.nodup_append]
    refine ⟨H.out.nodup, by simp, fun y hy z hz => ?_⟩
    simp only [List.mem_singleton] at hz
    subst hz
    exact fun e => HN.out (e ▸ hy)
  · exact (H.out.frs.imp fun y _ f hf => H.out.fr_keep hm hours hf (hfar y f hf)).snoc (H.out.fr_keep hm hours HX.out (hfar x f HX.out))
  · intro g hgo
    rcases HAT.out with e | ⟨k, e, hk⟩
    · exact .inl (by rw [← e]; exact hgo)
    · rw [e] at hgo
      cases hgo
      exact .inr hk
  · intro y hy
    rcases List.mem_append.1 hy with q | q
    · exact .inl q
    · simp only [List.mem_singleton] at q
      subst q
      exact .inr (.inr HXO.out)
end
end Go.Proofs.YtgmkbcoahilkhaaGreat.Pool
end
section
namespace Go.Proofs.YtgmkbcoahilkhaaGreat.Pool
open Go.RowKit Go.Proofs.YtgmkbcoahilkhaaGreatW.PrintWords Go.Proofs.YtgmkbcoahilkhaaGreatW.PrintLast Go.Proofs.YtgmkbcoahilkhaaGreatW.PrintMore Go.Proofs.YtgmkbcoahilkhaaGreat.MapFn Go.Proofs.YtgmkbcoahilkhaaGreat.Disk Go.Proofs.YtgmkbcoahilkhaaGreat.Page Go.Proofs.YtgmkbcoahilkhaaGreat.Num Go.Proofs.YtgmkbcoahilkhaaGreat.Bitset Go.Proofs.YtgmkbcoahilkhaaGreat.Sh
set_option linter.unusedVariables false
set_option linter.unusedSimpArgs false
set_option maxHeartbeats 8000000
set_option maxRecDepth 100000
def T98_3 : Bool × List (List Nat × List Nat) := (true, [([], []), ([0], [0]), ([1], [1]), ([2], [2]), ([], []), ([4], [4]), ([5], [5]), ([6], [6]), ([], []), ([8], [8]), ([9], [9]), ([10], [10]), ([], []), ([12], [12]), ([13], [13]), ([14], [14]), ([3, 7, 11, 15], [3, 7, 11, 15]), ([16, 16, 0, 1, 2, 3, 4, 5, 6, 7, 8, 9, 10, 11, 12, 13, 14, 15, 16], [16])])
def B98_3 : List Nat := [0, 1, 3, 7, 0, 16, 48, 112, 0, 256, 768, 1792, 0, 4096, 12288, 28672, 65535, 131071]
theorem tab98_3 : rtab .any (opsOf Tryz.f98 3) = T98_3 := by kernel_rfl
theorem bits98_3 : waitsOk T98_3.2 B98_3 = true := by kernel_rfl
def T48_1 : Bool × List (List Nat × List Nat) := (true, [([], []), ([0], [0]), ([1], [1]), ([2], [2]), ([3], [3]), ([], []), ([5], [5]), ([6], [6]), ([7], [7]), ([4, 8], [4, 8])])
def B48_1 : List Nat := [0, 1, 3, 7, 15, 0, 32, 96, 224, 511]
theorem tab48_1 : rtab .any (opsOf Tryz.f48 1) = T48_1 := by kernel_rfl
theorem bits48_1 : waitsOk T48_1.2 B48_1 = true := by kernel_rfl
theorem idxF_at (q : Fr → Bool) : ∀ (l : List Fr) (i : Nat), idxF q l i = -1 ∨ ∃ k, k < l.length ∧ idxF q l i = ((i + k : Nat) : Int) ∧ q (l.getD k Fr.none) = true
  | [], i => .inl rfl
  | f :: r, i => by
    rw [idxF]
    by_cases h : q f = true
    · rw [if_pos h]
      exact .inr ⟨0, by simp, by simp, by simpa using h⟩
    · rw [if_neg h]
      rcases idxF_at q r (i + 1) with e | ⟨k, hk, e, hq⟩
      · exact .inl e
      · exact .inr ⟨k + 1, by simp; omega, by rw [e]; omega, by simpa using hq⟩
section
variable {w wr w1 w' : World} {b ps pd : Nat} {F : Foot} {v : Value} {bs : List Nat} {p : Pl}
theorem PIn.fr (h : PIn w wr b ps pd F v bs p) {k : Nat} (hk : k < bs.length) : FrAt wr w.heap.size bs[k] (p.frames.getD k Fr.none) := by
  have hf : k < p.frames.length := by have := h.frs.len; omega
  rw [List.getD_eq_getElem?_getD, List.getElem?_eq_getElem hf]
  exact h.frs.at_ k _ _ (List.getElem?_eq_getElem hk) (List.getElem?_eq_getElem hf)
theorem PIn.set_frame (h : PIn w wr b ps pd F v bs p) {k : Nat} (hkl : k < bs.length) {f' : Fr} (hm : Moves [bs[k]] wr w') (hf : FrAt w' w.heap.size bs[k] f') : PIn w w' b ps pd F v bs { p with frames := p.frames.set k f' } := by
  have hx := h.fr hkl
  obtain ⟨n1, n2⟩ := h.fr_ne hx
  have hours : ∀ y ∈ [bs[k]], Ours b v bs wr.heap.size y := fun y hy => by
    simp only [List.mem_singleton] at hy
    subst hy
    exact .inr (.inr (.inl (List.getElem_mem _)))
  refine h.turn hm hours ((hm.block b (lt_of_row h.row) (by simpa using Ne.symm n1)).trans h.row) (RP_moves h.arr hm fun g hg hgs => ?_) h.nodup ⟨by rw [List.length_set]; exact h.frs.len, fun i a c h1 h2 => ?_⟩ rfl (fun g hg => .inl hg) (fun x hx => .inl hx)
  · simp only [List.mem_singleton] at hgs
    subst hgs
    exact n2 hg
  · by_cases e : i = k
    · subst e
      rw [List.getElem?_set_self (by have := h.frs.len; omega)] at h2
      rw [List.getElem?_eq_getElem hkl] at h1
      cases h1
      cases h2
      exact hf
    · rw [List.getElem?_set_ne (Ne.symm e)] at h2
      refine h.fr_keep hm hours (h.frs.at_ i a c h1 h2) fun hy => ?_
      simp only [List.mem_singleton] at hy
      obtain ⟨hi, ha⟩ := List.getElem?_eq_some_iff.1 h1
      rcases Nat.lt_trichotomy i k with q | q | q
      · exact List.pairwise_iff_getElem.1 h.nodup i k hi hkl q (by rw [ha, hy])
      · exact e q
      · exact List.pairwise_iff_getElem.1 h.nodup k i hkl hi q (by rw [ha, hy])
theorem set_cell_grown {p i : Nat} (x : Value) : wr.grownBy (wr.setCell ⟨p, i, none⟩ x) (some p) := ⟨rfl, rfl, rfl, by simp, fun q _ hq => heap_setCell_other _ _ _ _ (fun e => hq (by rw [e]))⟩
theorem PIn.restored (h : PIn w wr b ps pd F v bs p) {v1 : Value} {bs' : List Nat} {fs' : List Fr} (hg : wr.grownBy w1 v.ownBlock) (ho : Kd.R kdP 81 w1 w.heap.size (fun _ => True) v1 (bs'.map some)) (hv : v1.ownBlock = v.ownBlock ∨ ∃ k, v1.ownBlock = some k ∧ wr.heap.size ≤ k)
    (hn : bs'.Nodup) (hz : Zip (FrAt wr w.heap.size) bs' fs') (hb : ∀ x ∈ bs', x ∈ bs ∨ wr.heap.size ≤ x ∨ ∀ A ∈ F.slices, ∀ a, A = some a → a.block ≠ x) :
    w1.cell? ⟨b, 2, none⟩ = some v ∧ w1.frozen? ⟨b, 2, none⟩ = false ∧ PIn w (w1.setCell ⟨b, 2, none⟩ v1) b ps pd F v1 bs' { p with frames := fs' } ∧ K8 w wr (w1.setCell ⟨b, 2, none⟩ v1) := by
  have hne : some b ≠ v.ownBlock := fun e => h.b_off.2 e.symm
  have row1 := (hg.block b (lt_of_row h.row) hne).trans h.row
  have hs2 := set_row (i := 2) row1 v1
  have hg2 := set_cell_grown (wr := w1) (p := b) (i := 2) v1
  have hm : Moves (b :: v.ownBlock.toList) wr (w1.setCell ⟨b, 2, none⟩ v1) := by
    refine ⟨hg.os, hg.tape, hg.output, Nat.le_trans hg.size hg2.size, fun k hk hkn => ?_⟩
    simp only [List.mem_cons, not_or] at hkn
    rw [hg2.block k (Nat.lt_of_lt_of_le hk hg.size) (fun e => hkn.1 (Option.some.inj e)), hg.block k hk (fun e => hkn.2 (by rw [← e]; simp))]
  have hours : ∀ y ∈ b :: v.ownBlock.toList, Ours b v bs wr.heap.size y := by
    intro y hy
    rcases List.mem_cons.1 hy with e | hy
    · exact .inl e
    · exact .inr (.inl (by simpa using hy))
  have hfar : ∀ y f, FrAt wr w.heap.size y f → ¬ y ∈ b :: v.ownBlock.toList := by
    intro y f hf hy
    obtain ⟨n1, n2⟩ := h.fr_ne hf
    rcases List.mem_cons.1 hy with e | hy
    · exact n1 e
    · exact n2 (by simpa using hy)
  refine ⟨cell_of row1, free_of row1, h.turn hm hours (by simpa using hs2) (RP_moves ho (Moves.of_grown hg2) fun g hgo hgs => ?_) hn (hz.imp fun y _ f hf => h.fr_keep hm hours hf (hfar y f hf)) rfl ?_ hb, h.k8_ours hm hours⟩
  · simp only [List.mem_singleton] at hgs
    subst hgs
    obtain ⟨cells, hc⟩ := typed ho g hgo
    exact ne_of_types hc row1 (by decide) rfl
  · intro g hgo
    rcases hv with e | ⟨k, e, hk⟩
    · exact .inl (by rw [← e]; exact hgo)
    · rw [e] at hgo
      cases hgo
      exact .inr hk
theorem flush_any (h : PIn w wr b ps pd F v bs p) (hk : Ok p.S) {k : Nat} (hkl : k < bs.length) :
    Calls Tryz.prog 98 #[.pointer (some ⟨b, 0, none⟩), .pointer (some ⟨bs[k], 0, none⟩)] wr fun e w' => e = .returned (.int .i64 (p.flush k).2) ∧ K8 w wr w' ∧ ∃ F', PIn w w' b ps pd F' v bs (p.flush k).1 := by
  have hfx := h.fr hkl
  have H := Hide.mk h
  obtain ⟨R, hR⟩ : ∃ R, p.flush k = R := ⟨_, rfl⟩
  rw [hR]
  unfold Pl.flush at hR
  have HSET := Hide.mk (fun (W W' : World) (F' : Foot) (S' : Sh) (f' : Fr) (h : PIn w W b ps pd F' v bs { p with S := S' }) (hm : Moves [bs[k]] W W') (hf : FrAt W' w.heap.size bs[k] f') => h.set_frame hkl hm hf)
  obtain ⟨f, hf⟩ : ∃ f, p.frames.getD k Fr.none = f := ⟨_, rfl⟩
  rw [hf] at hfx hR
  obtain ⟨vb, hrow, hbody⟩ := hfx.ex
  obtain ⟨Ab, cb, hvb, hib, _⟩ := In.of_own hbody
  obtain ⟨nb, hnb⟩ : ∃ n, f.body.length = n := ⟨_, rfl⟩
  rw [hnb] at hvb
  subst hvb
  generalize bs[k] = x at *
  have c4 : wr.cell? ⟨x, 4, none⟩ = some (.bool f.dirty) := cell_of hrow
  have HFX0 := Hide.mk hfx
  simp only at hR
  by_cases hd : f.dirty = false
  · rw [if_pos hd] at hR
    rw [hd] at c4
    have HRR := Hide.mk hR.symm
    clear h hfx hR hrow hbody hib
    go_enter Tryz.func98, Tryz.ntmps98
    go_wp2
    go_ret
    rw [HRR.out]
    exact ⟨rfl, K8.refl _ _, F, H.out⟩
  · rw [if_neg hd] at hR
    have hd2 : f.dirty = true := by simpa using hd
    rw [hd2] at c4
    obtain ⟨S', E, hW⟩ : ∃ S' E, p.S.write f.id f.kind f.body = (S', E) := ⟨_, _, rfl⟩
    rw [hW] at hR
    simp only at hR
    have hdr := below_drew (Below.refl wr.heap.size wr)
    have HKD := Hide.mk (K8.of_below (w := w) hdr)
    have HD := Hide.mk (h.later hdr)
    have HFX := Hide.mk (hfx.below hdr)
    have HROWX := Hide.mk (show wr.drew.heap[x]? = _ from hrow)
    have HW0 := shwrite_any f.id f.kind Ab cb f.body wr.drew F p.S HD.out.sh hk (hib.below hdr).wide hfx.bytes
    rw [hW, hnb, h.ep] at HW0
    have HW := Hide.mk HW0
    have KC : wr.drew.cell? ⟨b, 0, none⟩ = some (.pointer (some ⟨ps, 0, none⟩)) ∧ wr.drew.cell? ⟨x, 0, none⟩ = some (.int .i64 f.id) ∧ wr.drew.cell? ⟨x, 1, none⟩ = some (.int .i64 f.kind) ∧ wr.drew.cell? ⟨x, 2, none⟩ = some (.slice Ab nb cb) := ⟨cell_of HD.out.row, cell_of HROWX.out, cell_of HROWX.out, cell_of HROWX.out⟩
    have HRR := Hide.mk hR.symm
    have HBODY := Hide.mk (show Bytes f.body ∧ w.heap.size ≤ x ∧ f.body.length ≤ 1000 from ⟨hfx.bytes, hfx.ge, hfx.short⟩)
    have HNB := Hide.mk hnb
    have HD2 := Hide.mk hd2
    clear h hfx hR hrow hbody hib HW0 hdr hk hW hf hnb hd hd2 HFX0 H
    go_enter Tryz.func98, Tryz.ntmps98
    go_wp2
    refine start_ (n := 18) (S := fun w' => w'.cell? ⟨b, 0, none⟩ = some (.pointer (some ⟨ps, 0, none⟩)) ∧ w'.cell? ⟨x, 0, none⟩ = some (.int .i64 f.id) ∧ w'.cell? ⟨x, 1, none⟩ = some (.int .i64 f.kind) ∧ w'.cell? ⟨x, 2, none⟩ = some (.slice Ab nb cb)) (ds := []) #[false, false, false, false, false, false, false, false, false, false, false, false, false, false, false, false, false, false] (by kernel_rfl) rfl rfl KC (fun hHeld => ?_); refine with_tabW tab98_3 bits98_3 (fun HT_ HW_ => ?_)
    refine pure_ (i := 0) (N := some 11) (v := ?_) (a' := ?_) #[true, false, false, false, false, false, false, false, false, false, false, false, false, false, false, false, false, false] rfl rfl (any_of HT_.out (by kernel_rfl)) (fun _ _ _ h => h) (Or.inl ⟨by rfl, ?_⟩) ?_ ?_
    rotate_left
    · intro w'
      go_simp
      with_reducible rfl
    rotate_left
    · simp only [Act.put, List.setIfInBounds_toArray, List.set_cons_zero, List.set_cons_succ, i64_w, i32_w]
      rfl
    refine pure_ (i := 1) (N := some 12) (v := ?_) (a' := ?_) #[true, true, false, false, false, false, false, false, false, false, false, false, false, false, false, false, false, false] rfl rfl (any_of HT_.out (by kernel_rfl)) (fun _ _ _ h => h) (Or.inl ⟨by rfl, ?_⟩) ?_ ?_
    rotate_left
    · intro w'
      go_simp
      with_reducible rfl
    rotate_left
    · simp only [Act.put, List.setIfInBounds_toArray, List.set_cons_zero, List.set_cons_succ, i64_w, i32_w]
      rfl
    refine pure_ (i := 2) (N := some 13) (v := ?_) (a' := ?_) #[true, true, true, false, false, false, false, false, false, false, false, false, false, false, false, false, false, false] rfl rfl (any_of HT_.out (by kernel_rfl)) (fun _ _ _ h => h) (Or.inl ⟨by rfl, ?_⟩) ?_ ?_
    rotate_left
    · intro w'
      go_simp
      with_reducible rfl
    rotate_left
    · simp only [Act.put, List.setIfInBounds_toArray, List.set_cons_zero, List.set_cons_succ, i64_w, i32_w]
      rfl
    refine take_ (i := 3) (N := some 14) (v := ?_) (a' := ?_) #[true, true, true, true, false, false, false, false, false, false, false, false, false, false, false, false, false, false] rfl rfl (take_ofW HT_.out HW_.out (by kernel_rfl)) (fun _ _ _ h => h) (Or.inl ⟨by rfl, ?_⟩) hHeld ?_ ?_
    rotate_left
    · intro w' hS'
      have s1 := hS'.1
      go_simp
      rfl
    rotate_left
    · simp only [Act.put, List.setIfInBounds_toArray, List.set_cons_zero, List.set_cons_succ, i64_w, i32_w]
      rfl
    refine pure_ (i := 4) (N := some 15) (v := ?_) (a' := ?_) #[true, true, true, true, true, false, false, false, false, false, false, false, false, false, false, false, false, false] rfl rfl (any_of HT_.out (by kernel_rfl)) (fun _ _ _ h => h) (Or.inl ⟨by rfl, ?_⟩) ?_ ?_
    rotate_left
    · intro w'
      go_simp
      with_reducible rfl
    rotate_left
    · simp only [Act.put, List.setIfInBounds_toArray, List.set_cons_zero, List.set_cons_succ, i64_w, i32_w]
      rfl
    refine pure_ (i := 5) (N := some 16) (v := ?_) (a' := ?_) #[true, true, true, true, true, true, false, false, false, false, false, false, false, false, false, false, false, false] rfl rfl (any_of HT_.out (by kernel_rfl)) (fun _ _ _ h => h) (Or.inl ⟨by rfl, ?_⟩) ?_ ?_
    rotate_left
    · intro w'
      go_simp
      with_reducible rfl
    rotate_left
    · simp only [Act.put, List.setIfInBounds_toArray, List.set_cons_zero, List.set_cons_succ, i64_w, i32_w]
      rfl
    refine pure_ (i := 6) (N := some 17) (v := ?_) (a' := ?_) #[true, true, true, true, true, true, true, false, false, false, false, false, false, false, false, false, false, false] rfl rfl (any_of HT_.out (by kernel_rfl)) (fun _ _ _ h => h) (Or.inl ⟨by rfl, ?_⟩) ?_ ?_
    rotate_left
    · intro w'
      go_simp
      with_reducible rfl
    rotate_left
    · simp only [Act.put, List.setIfInBounds_toArray, List.set_cons_zero, List.set_cons_succ, i64_w, i32_w]
      rfl
    refine take_ (i := 7) (N := some 18) (v := ?_) (a' := ?_) #[true, true, true, true, true, true, true, true, false, false, false, false, false, false, false, false, false, false] rfl rfl (take_ofW HT_.out HW_.out (by kernel_rfl)) (fun _ _ _ h => h) (Or.inl ⟨by rfl, ?_⟩) hHeld ?_ ?_
    rotate_left
    · intro w' hS'
      have s1 := hS'.2.1
      go_simp
      rfl
    rotate_left
    · simp only [Act.put, List.setIfInBounds_toArray, List.set_cons_zero, List.set_cons_succ, i64_w, i32_w]
      rfl
    refine pure_ (i := 8) (N := some 19) (v := ?_) (a' := ?_) #[true, true, true, true, true, true, true, true, true, false, false, false, false, false, false, false, false, false] rfl rfl (any_of HT_.out (by kernel_rfl)) (fun _ _ _ h => h) (Or.inl ⟨by rfl, ?_⟩) ?_ ?_
    rotate_left
    · intro w'
      go_simp
      with_reducible rfl
    rotate_left
    · simp only [Act.put, List.setIfInBounds_toArray, List.set_cons_zero, List.set_cons_succ, i64_w, i32_w]
      rfl
    refine pure_ (i := 9) (N := some 20) (v := ?_) (a' := ?_) #[true, true, true, true, true, true, true, true, true, true, false, false, false, false, false, false, false, false] rfl rfl (any_of HT_.out (by kernel_rfl)) (fun _ _ _ h => h) (Or.inl ⟨by rfl, ?_⟩) ?_ ?_
    rotate_left
    · intro w'
      go_simp
      with_reducible rfl
    rotate_left
    · simp only [Act.put, List.setIfInBounds_toArray, List.set_cons_zero, List.set_cons_succ, i64_w, i32_w]
      rfl
    refine pure_ (i := 10) (N := some 21) (v := ?_) (a' := ?_) #[true, true, true, true, true, true, true, true, true, true, true, false, false, false, false, false, false, false] rfl rfl (any_of HT_.out (by kernel_rfl)) (fun _ _ _ h => h) (Or.inl ⟨by rfl, ?_⟩) ?_ ?_
    rotate_left
    · intro w'
      go_simp
      with_reducible rfl
    rotate_left
    · simp only [Act.put, List.setIfInBounds_toArray, List.set_cons_zero, List.set_cons_succ, i64_w, i32_w]
      rfl
    refine take_ (i := 11) (N := some 22) (v := ?_) (a' := ?_) #[true, true, true, true, true, true, true, true, true, true, true, true, false, false, false, false, false, false] rfl rfl (take_ofW HT_.out HW_.out (by kernel_rfl)) (fun _ _ _ h => h) (Or.inl ⟨by rfl, ?_⟩) hHeld ?_ ?_
    rotate_left
    · intro w' hS'
      have s1 := hS'.2.2.1
      go_simp
      rfl
    rotate_left
    · simp only [Act.put, List.setIfInBounds_toArray, List.set_cons_zero, List.set_cons_succ, i64_w, i32_w]
      rfl
    refine pure_ (i := 12) (N := some 23) (v := ?_) (a' := ?_) #[true, true, true, true, true, true, true, true, true, true, true, true, true, false, false, false, false, false] rfl rfl (any_of HT_.out (by kernel_rfl)) (fun _ _ _ h => h) (Or.inl ⟨by rfl, ?_⟩) ?_ ?_
    rotate_left
    · intro w'
      go_simp
      with_reducible rfl
    rotate_left
    · simp only [Act.put, List.setIfInBounds_toArray, List.set_cons_zero, List.set_cons_succ, i64_w, i32_w]
      rfl
    refine pure_ (i := 13) (N := some 24) (v := ?_) (a' := ?_) #[true, true, true, true, true, true, true, true, true, true, true, true, true, true, false, false, false, false] rfl rfl (any_of HT_.out (by kernel_rfl)) (fun _ _ _ h => h) (Or.inl ⟨by rfl, ?_⟩) ?_ ?_
    rotate_left
    · intro w'
      go_simp
      with_reducible rfl
    rotate_left
    · simp only [Act.put, List.setIfInBounds_toArray, List.set_cons_zero, List.set_cons_succ, i64_w, i32_w]
      rfl
    refine pure_ (i := 14) (N := some 25) (v := ?_) (a' := ?_) #[true, true, true, true, true, true, true, true, true, true, true, true, true, true, true, false, false, false] rfl rfl (any_of HT_.out (by kernel_rfl)) (fun _ _ _ h => h) (Or.inl ⟨by rfl, ?_⟩) ?_ ?_
    rotate_left
    · intro w'
      go_simp
      with_reducible rfl
    rotate_left
    · simp only [Act.put, List.setIfInBounds_toArray, List.set_cons_zero, List.set_cons_succ, i64_w, i32_w]
      rfl
    refine take_ (i := 15) (N := some 26) (v := ?_) (a' := ?_) #[true, true, true, true, true, true, true, true, true, true, true, true, true, true, true, true, false, false] rfl rfl (take_ofW HT_.out HW_.out (by kernel_rfl)) (fun _ _ _ h => h) (Or.inl ⟨by rfl, ?_⟩) hHeld ?_ ?_
    rotate_left
    · intro w' hS'
      have s1 := hS'.2.2.2
      go_simp
      rfl
    rotate_left
    · simp only [Act.put, List.setIfInBounds_toArray, List.set_cons_zero, List.set_cons_succ, i64_w, i32_w]
      rfl
    refine one_ (i := 16) (N := some 27) #[true, true, true, true, true, true, true, true, true, true, true, true, true, true, true, true, true, false] rfl rfl (one_of HT_.out (by kernel_rfl)) (by decide) (fun K hK => ?_)
    refine goes_ Tryz.func29 (by kernel_rfl) rfl #[.pointer (some ⟨ps, 0, none⟩), .int .i64 f.id, .int .i64 f.kind, .slice Ab nb cb] (by rfl) rfl rfl (by (try simp only [List.map_toArray, List.map_cons, List.map_nil]); first | done | rfl) ?_
    with_reducible refine HW.out.mono ?_
    rintro e w4 ⟨rfl, F4, hs, hg⟩
    have S4 := Hide.mk hs
    have G4 := Hide.mk hg
    have rb4 := (hg.moves.block b (lt_of_row HD.out.row) HD.out.b_off.1).trans HD.out.row
    have rx4 := (hg.moves.block x (lt_of_row HROWX.out) (fr_off HD.out.sh HFX.out)).trans HROWX.out
    have KC1 := And.intro (show w4.cell? ⟨b, 0, none⟩ = some (.pointer (some ⟨ps, 0, none⟩)) from cell_of rb4) (And.intro (show w4.cell? ⟨x, 0, none⟩ = some (.int .i64 f.id) from cell_of rx4) (And.intro (show w4.cell? ⟨x, 1, none⟩ = some (.int .i64 f.kind) from cell_of rx4) (show w4.cell? ⟨x, 2, none⟩ = some (.slice Ab nb cb) from cell_of rx4)))
    have RX4 := Hide.mk rx4
    refine ⟨_, rfl, ?_⟩
    clear hs hg rb4 rx4
    refine hK.out _ _ KC1 (fun hHeld => ?_)
    clear hK K
    refine norm_ (a' := ?_) ?_ ?_
    rotate_left
    · show Act.put _ (some 27) _ = _
      simp only [Act.put, List.setIfInBounds_toArray, List.set_cons_zero, List.set_cons_succ, i64_w, i32_w]
      rfl
    refine pure_ (i := 17) (N := some 5) (v := ?_) (a' := ?_) #[true, true, true, true, true, true, true, true, true, true, true, true, true, true, true, true, true, true] rfl rfl (any_of HT_.out (by kernel_rfl)) (fun _ _ _ h => h) (Or.inl ⟨by rfl, ?_⟩) ?_ ?_
    rotate_left
    · intro w'
      go_simp
      with_reducible rfl
    rotate_left
    · simp only [Act.put, List.setIfInBounds_toArray, List.set_cons_zero, List.set_cons_succ, i64_w, i32_w]
      rfl
    refine done_ (done_of HT_.out (by kernel_rfl)) ?_
    clear KC KC1 hHeld
    have P4 := Hide.mk (HD.out.shadow S4.out G4.out)
    have HF4 := Hide.mk (HFX.out.moves G4.out.moves (fr_off HD.out.sh HFX.out) (own_no8 HD.out.sh))
    have d4 : w4.cell? ⟨x, 4, none⟩ = some (.bool f.dirty) := cell_of RX4.out
    have f4 := free_of (i := 4) RX4.out
    by_cases hE : E = 0
    · subst hE
      have hR := HRR.out
      rw [if_neg (by simp)] at hR
      have HR1 := Hide.mk hR
      clear hR
      go_wp2
      go_ret
      rw [HR1.out]
      have K4 := Hide.mk (HKD.out.trans ((HD.out.k8_goes G4.out).trans (K8.of_moves (w := w) (Moves.of_grown (set_cell_grown (wr := w4) (p := x) (i := 4) (.bool false))) (fun y hy => by simp only [List.mem_singleton] at hy; subst hy; exact ⟨HBODY.out.2.1, fun c f hc => ne_of_types hc RX4.out (by decide) rfl⟩))))
      refine ⟨rfl, K4.out, F4, ?_⟩
      refine HSET.out w4 _ F4 S' { f with dirty := false } P4.out (Moves.of_grown (set_cell_grown (.bool false))) ?_
      obtain ⟨v5, r5, b5⟩ := HF4.out.ex
      have hs5 := set_row (i := 4) r5 (.bool false)
      refine ⟨⟨v5, by simpa using hs5, R_moves b5 (Moves.of_grown (set_cell_grown (.bool false))) fun g hg hgs => ?_⟩, HBODY.out.2.1, HBODY.out.1, HBODY.out.2.2⟩
      simp only [List.mem_singleton] at hgs
      subst hgs
      obtain ⟨cells, hc⟩ := typed b5 g hg
      exact ne_of_types hc r5 (by decide) rfl
    · have q : (E != 0) = true := by simp [hE]
      have hR := HRR.out
      rw [if_pos hE] at hR
      have HR1 := Hide.mk hR
      clear hR hE
      go_wp2
      go_ret
      rw [HR1.out]
      exact ⟨rfl, HKD.out.trans (HD.out.k8_goes G4.out), F4, P4.out⟩
theorem room_any (h : PIn w wr b ps pd F v bs p) (hk : Ok p.S) (hl : bs.length ≤ 1000) :
    Calls Tryz.prog 48 #[.pointer (some ⟨b, 0, none⟩)] wr fun e w' => e = .returned (.int .i64 p.room.2) ∧ ∃ F' v' bs', PIn w w' b ps pd F' v' bs' p.room.1 ∧ bs'.length ≤ bs.length ∧ (∀ x ∈ bs', x ∈ bs) ∧ K8 w wr w' := by
  obtain ⟨R, hR⟩ : ∃ R, p.room = R := ⟨_, rfl⟩
  rw [hR]
  unfold Pl.room at hR
  have hlen := h.frs.len
  rw [← hlen] at hR
  have hdr := below_drew (Below.refl wr.heap.size wr)
  have HKD := Hide.mk (K8.of_below (w := w) hdr)
  have HD := Hide.mk (h.later hdr)
  obtain ⟨A, c, hv, hC⟩ := h.slice
  have hCd := Kd.C_below hC hdr
  by_cases hlt : (bs.length : Int) < p.most
  · rw [if_pos hlt] at hR
    have HRR := Hide.mk hR.symm
    subst hv
    have KC : wr.drew.cell? ⟨b, 2, none⟩ = some (.slice A bs.length c) ∧ wr.drew.cell? ⟨b, 1, none⟩ = some (.int .i64 p.most) := ⟨cell_of HD.out.row, cell_of HD.out.row⟩
    clear h hR hdr hC hCd hk hlen
    go_enter Tryz.func48, Tryz.ntmps48
    go_wp2
    refine start_ (n := 10) (S := fun w' => w'.cell? ⟨b, 2, none⟩ = some (.slice A bs.length c) ∧ w'.cell? ⟨b, 1, none⟩ = some (.int .i64 p.most)) (ds := []) #[false, false, false, false, false, false, false, false, false, false] (by kernel_rfl) rfl rfl KC (fun hHeld => ?_); refine with_tabW tab48_1 bits48_1 (fun HT_ HW_ => ?_)
    refine pure_ (i := 0) (N := some 5) (v := ?_) (a' := ?_) #[true, false, false, false, false, false, false, false, false, false] rfl rfl (any_of HT_.out (by kernel_rfl)) (fun _ _ _ h => h) (Or.inl ⟨by rfl, ?_⟩) ?_ ?_
    rotate_left
    · intro w'
      go_simp
      with_reducible rfl
    rotate_left
    · simp only [Act.put, List.setIfInBounds_toArray, List.set_cons_zero, List.set_cons_succ, i64_w, i32_w]
      rfl
    refine pure_ (i := 1) (N := some 6) (v := ?_) (a' := ?_) #[true, true, false, false, false, false, false, false, false, false] rfl rfl (any_of HT_.out (by kernel_rfl)) (fun _ _ _ h => h) (Or.inl ⟨by rfl, ?_⟩) ?_ ?_
    rotate_left
    · intro w'
      go_simp
      with_reducible rfl
    rotate_left
    · simp only [Act.put, List.setIfInBounds_toArray, List.set_cons_zero, List.set_cons_succ, i64_w, i32_w]
      rfl
    refine pure_ (i := 2) (N := some 7) (v := ?_) (a' := ?_) #[true, true, true, false, false, false, false, false, false, false] rfl rfl (any_of HT_.out (by kernel_rfl)) (fun _ _ _ h => h) (Or.inl ⟨by rfl, ?_⟩) ?_ ?_
    rotate_left
    · intro w'
      go_simp
      with_reducible rfl
    rotate_left
    · simp only [Act.put, List.setIfInBounds_toArray, List.set_cons_zero, List.set_cons_succ, i64_w, i32_w]
      rfl
    refine take_ (i := 3) (N := some 8) (v := ?_) (a' := ?_) #[true, true, true, true, false, false, false, false, false, false] rfl rfl (take_ofW HT_.out HW_.out (by kernel_rfl)) (fun _ _ _ h => h) (Or.inl ⟨by rfl, ?_⟩) hHeld ?_ ?_
    rotate_left
    · intro w' hS'
      have s1 := hS'.1
      go_simp
      rfl
    rotate_left
    · simp only [Act.put, List.setIfInBounds_toArray, List.set_cons_zero, List.set_cons_succ, i64_w, i32_w]
      rfl
    refine pure_ (i := 4) (N := some 9) (v := ?_) (a' := ?_) #[true, true, true, true, true, false, false, false, false, false] rfl rfl (any_of HT_.out (by kernel_rfl)) (fun _ _ _ h => h) (Or.inl ⟨by rfl, ?_⟩) ?_ ?_
    rotate_left
    · intro w'
      go_simp
      with_reducible rfl
    rotate_left
    · simp only [Act.put, List.setIfInBounds_toArray, List.set_cons_zero, List.set_cons_succ, i64_w, i32_w]
      rfl
    refine pure_ (i := 5) (N := some 10) (v := ?_) (a' := ?_) #[true, true, true, true, true, true, false, false, false, false] rfl rfl (any_of HT_.out (by kernel_rfl)) (fun _ _ _ h => h) (Or.inl ⟨by rfl, ?_⟩) ?_ ?_
    rotate_left
    · intro w'
      go_simp
      with_reducible rfl
    rotate_left
    · simp only [Act.put, List.setIfInBounds_toArray, List.set_cons_zero, List.set_cons_succ, i64_w, i32_w]
      rfl
    refine pure_ (i := 6) (N := some 11) (v := ?_) (a' := ?_) #[true, true, true, true, true, true, true, false, false, false] rfl rfl (any_of HT_.out (by kernel_rfl)) (fun _ _ _ h => h) (Or.inl ⟨by rfl, ?_⟩) ?_ ?_
    rotate_left
    · intro w'
      go_simp
      with_reducible rfl
    rotate_left
    · simp only [Act.put, List.setIfInBounds_toArray, List.set_cons_zero, List.set_cons_succ, i64_w, i32_w]
      rfl
    refine pure_ (i := 7) (N := some 12) (v := ?_) (a' := ?_) #[true, true, true, true, true, true, true, true, false, false] rfl rfl (any_of HT_.out (by kernel_rfl)) (fun _ _ _ h => h) (Or.inl ⟨by rfl, ?_⟩) ?_ ?_
    rotate_left
    · intro w'
      go_simp
      with_reducible rfl
    rotate_left
    · simp only [Act.put, List.setIfInBounds_toArray, List.set_cons_zero, List.set_cons_succ, i64_w, i32_w]
      rfl
    refine take_ (i := 8) (N := some 13) (v := ?_) (a' := ?_) #[true, true, true, true, true, true, true, true, true, false] rfl rfl (take_ofW HT_.out HW_.out (by kernel_rfl)) (fun _ _ _ h => h) (Or.inl ⟨by rfl, ?_⟩) hHeld ?_ ?_
    rotate_left
    · intro w' hS'
      have s1 := hS'.2
      go_simp
      rfl
    rotate_left
    · simp only [Act.put, List.setIfInBounds_toArray, List.set_cons_zero, List.set_cons_succ, i64_w, i32_w]
      rfl
    refine pure_ (i := 9) (N := some 14) (v := ?_) (a' := ?_) #[true, true, true, true, true, true, true, true, true, true] rfl rfl (any_of HT_.out (by kernel_rfl)) (fun _ _ _ h => h) (Or.inl ⟨by rfl, ?_⟩) ?_ ?_
    rotate_left
    · intro w'
      go_simp
      with_reducible rfl
    rotate_left
    · simp only [Act.put, List.setIfInBounds_toArray, List.set_cons_zero, List.set_cons_succ, i64_w, i32_w]
      rfl
    refine done_ (done_of HT_.out (by kernel_rfl)) ?_
    clear hHeld
    clear KC
    go_wp2
    go_ret
    rw [HRR.out]
    exact ⟨rfl, F, _, bs, HD.out, Nat.le_refl _, (fun x hx => hx), HKD.out⟩
  · rw [if_neg hlt] at hR
    have HI0 := index_room bs p.frames A c wr.drew hCd HD.out.frs (by omega)
    rw [show idxF (fun f => decide (f.pins = 0)) p.frames 0 = p.free_ from rfl] at HI0
    rcases idxF_at (fun f => decide (f.pins = 0)) p.frames 0 with e | ⟨k, hkl, e, hq⟩
    · rw [show idxF (fun f => decide (f.pins = 0)) p.frames 0 = p.free_ from rfl] at e
      rw [e] at hR HI0
      rw [if_pos (by decide)] at hR
      have HRR := Hide.mk hR.symm
      have HI := Hide.mk HI0
      subst hv
      have KC : wr.drew.cell? ⟨b, 2, none⟩ = some (.slice A bs.length c) ∧ wr.drew.cell? ⟨b, 1, none⟩ = some (.int .i64 p.most) := ⟨cell_of HD.out.row, cell_of HD.out.row⟩
      clear h hR hdr hC hCd hk hlen e HI0
      go_enter Tryz.func48, Tryz.ntmps48
      go_wp2
      refine start_ (n := 10) (S := fun w' => w'.cell? ⟨b, 2, none⟩ = some (.slice A bs.length c) ∧ w'.cell? ⟨b, 1, none⟩ = some (.int .i64 p.most)) (ds := []) #[false, false, false, false, false, false, false, false, false, false] (by kernel_rfl) rfl rfl KC (fun hHeld => ?_); refine with_tabW tab48_1 bits48_1 (fun HT_ HW_ => ?_)
      refine pure_ (i := 0) (N := some 5) (v := ?_) (a' := ?_) #[true, false, false, false, false, false, false, false, false, false] rfl rfl (any_of HT_.out (by kernel_rfl)) (fun _ _ _ h => h) (Or.inl ⟨by rfl, ?_⟩) ?_ ?_
      rotate_left
      · intro w'
        go_simp
        with_reducible rfl
      rotate_left
      · simp only [Act.put, List.setIfInBounds_toArray, List.set_cons_zero, List.set_cons_succ, i64_w, i32_w]
        rfl
      refine pure_ (i := 1) (N := some 6) (v := ?_) (a' := ?_) #[true, true, false, false, false, false, false, false, false, false] rfl rfl (any_of HT_.out (by kernel_rfl)) (fun _ _ _ h => h) (Or.inl ⟨by rfl, ?_⟩) ?_ ?_
      rotate_left
      · intro w'
        go_simp
        with_reducible rfl
      rotate_left
      · simp only [Act.put, List.setIfInBounds_toArray, List.set_cons_zero, List.set_cons_succ, i64_w, i32_w]
        rfl
      refine pure_ (i := 2) (N := some 7) (v := ?_) (a' := ?_) #[true, true, true, false, false, false, false, false, false, false] rfl rfl (any_of HT_.out (by kernel_rfl)) (fun _ _ _ h => h) (Or.inl ⟨by rfl, ?_⟩) ?_ ?_
      rotate_left
      · intro w'
        go_simp
        with_reducible rfl
      rotate_left
      · simp only [Act.put, List.setIfInBounds_toArray, List.set_cons_zero, List.set_cons_succ, i64_w, i32_w]
        rfl
      refine take_ (i := 3) (N := some 8) (v := ?_) (a' := ?_) #[true, true, true, true, false, false, false, false, false, false] rfl rfl (take_ofW HT_.out HW_.out (by kernel_rfl)) (fun _ _ _ h => h) (Or.inl ⟨by rfl, ?_⟩) hHeld ?_ ?_
      rotate_left
      · intro w' hS'
        have s1 := hS'.1
        go_simp
        rfl
      rotate_left
      · simp only [Act.put, List.setIfInBounds_toArray, List.set_cons_zero, List.set_cons_succ, i64_w, i32_w]
        rfl
      refine pure_ (i := 4) (N := some 9) (v := ?_) (a' := ?_) #[true, true, true, true, true, false, false, false, false, false] rfl rfl (any_of HT_.out (by kernel_rfl)) (fun _ _ _ h => h) (Or.inl ⟨by rfl, ?_⟩) ?_ ?_
      rotate_left
      · intro w'
        go_simp
        with_reducible rfl
      rotate_left
      · simp only [Act.put, List.setIfInBounds_toArray, List.set_cons_zero, List.set_cons_succ, i64_w, i32_w]
        rfl
      refine pure_ (i := 5) (N := some 10) (v := ?_) (a' := ?_) #[true, true, true, true, true, true, false, false, false, false] rfl rfl (any_of HT_.out (by kernel_rfl)) (fun _ _ _ h => h) (Or.inl ⟨by rfl, ?_⟩) ?_ ?_
      rotate_left
      · intro w'
        go_simp
        with_reducible rfl
      rotate_left
      · simp only [Act.put, List.setIfInBounds_toArray, List.set_cons_zero, List.set_cons_succ, i64_w, i32_w]
        rfl
      refine pure_ (i := 6) (N := some 11) (v := ?_) (a' := ?_) #[true, true, true, true, true, true, true, false, false, false] rfl rfl (any_of HT_.out (by kernel_rfl)) (fun _ _ _ h => h) (Or.inl ⟨by rfl, ?_⟩) ?_ ?_
      rotate_left
      · intro w'
        go_simp
        with_reducible rfl
      rotate_left
      · simp only [Act.put, List.setIfInBounds_toArray, List.set_cons_zero, List.set_cons_succ, i64_w, i32_w]
        rfl
      refine pure_ (i := 7) (N := some 12) (v := ?_) (a' := ?_) #[true, true, true, true, true, true, true, true, false, false] rfl rfl (any_of HT_.out (by kernel_rfl)) (fun _ _ _ h => h) (Or.inl ⟨by rfl, ?_⟩) ?_ ?_
      rotate_left
      · intro w'
        go_simp
        with_reducible rfl
      rotate_left
      · simp only [Act.put, List.setIfInBounds_toArray, List.set_cons_zero, List.set_cons_succ, i64_w, i32_w]
        rfl
      refine take_ (i := 8) (N := some 13) (v := ?_) (a' := ?_) #[true, true, true, true, true, true, true, true, true, false] rfl rfl (take_ofW HT_.out HW_.out (by kernel_rfl)) (fun _ _ _ h => h) (Or.inl ⟨by rfl, ?_⟩) hHeld ?_ ?_
      rotate_left
      · intro w' hS'
        have s1 := hS'.2
        go_simp
        rfl
      rotate_left
      · simp only [Act.put, List.setIfInBounds_toArray, List.set_cons_zero, List.set_cons_succ, i64_w, i32_w]
        rfl
      refine pure_ (i := 9) (N := some 14) (v := ?_) (a' := ?_) #[true, true, true, true, true, true, true, true, true, true] rfl rfl (any_of HT_.out (by kernel_rfl)) (fun _ _ _ h => h) (Or.inl ⟨by rfl, ?_⟩) ?_ ?_
      rotate_left
      · intro w'
        go_simp
        with_reducible rfl
      rotate_left
      · simp only [Act.put, List.setIfInBounds_toArray, List.set_cons_zero, List.set_cons_succ, i64_w, i32_w]
        rfl
      refine done_ (done_of HT_.out (by kernel_rfl)) ?_
      clear hHeld
      have k2 := KC.1
      clear KC
      go_wp2_with (first
        | (go_at_call 96
           refine HI.out.mono ?_
           rintro e w2 ⟨rfl, hb⟩
           have B2 := Hide.mk hb
           have P2 := Hide.mk (HD.out.later hb)
           clear hb))
      go_ret
      rw [HRR.out]
      exact ⟨rfl, F, _, bs, P2.out, Nat.le_refl _, (fun x hx => hx), HKD.out.trans (K8.of_below B2.out)⟩
    · rw [show idxF (fun f => decide (f.pins = 0)) p.frames 0 = p.free_ from rfl, Nat.zero_add] at e
      rw [e] at hR HI0
      rw [if_neg (by omega), Int.toNat_natCast] at hR
      have hkb : k < bs.length := by omega
      have HI := Hide.mk HI0
      obtain ⟨g, c0, hvg, _, _, _⟩ := Kd.R_form h.arr (by rw [List.length_map]; omega)
      rw [List.length_map] at hvg
      rw [hvg] at hv
      cases hv
      subst hvg
      have KC : wr.drew.cell? ⟨b, 2, none⟩ = some (.slice (some ⟨g, 0, none⟩) bs.length c) ∧ wr.drew.cell? ⟨b, 1, none⟩ = some (.int .i64 p.most) := ⟨cell_of HD.out.row, cell_of HD.out.row⟩
      obtain ⟨p1, E, hF⟩ : ∃ p1 E, p.flush k = (p1, E) := ⟨_, _, rfl⟩
      rw [hF] at hR
      simp only at hR
      have HFE := Hide.mk hF
      have HOK := Hide.mk hk
      have HKL := Hide.mk hkb
      have HKE : Hide (((k + 1 : Nat) : Int) = (k : Int) + 1) := ⟨by omega⟩
      have HLL := Hide.mk hl
      have hkz : ¬ (k : Int) < 0 := by omega
      have hki : (k : Int) < (bs.length : Int) := by omega
      have hk1 : (k : Int) ≤ 1000 := by omega
      have HRR := Hide.mk hR.symm
      obtain ⟨ad, had, hcx⟩ := at_ptr hCd (k : Int) (by omega) hki
      cases had
      have hrd : rdOf none (bs.map some) (k : Int) = some bs[k] := by simp [rdOf, List.getD_eq_getElem?_getD, hkb]
      rw [hrd, Int.toNat_natCast, Go.WideShapes.add_plain, Nat.zero_add] at hcx
      have HX : Hide (∀ w2, Below wr.drew.heap.size wr.drew w2 → w2.cell? ⟨g, k, none⟩ = some (.pointer (some ⟨bs[k], 0, none⟩))) := ⟨fun w2 hb => pw_cell_below hb hcx⟩
      have HFLU := Hide.mk (fun w2 (hp : PIn w w2 b ps pd F (.slice (some ⟨g, 0, none⟩) bs.length c) bs p) => flush_any hp HOK.out HKL.out)
      generalize bs[k] = x at *
      clear h hR hdr hC hCd hk hlen e HI0 hkl hq hcx hrd hkb hF hl
      by_cases hE : E = 0
      · subst hE
        have hR := HRR.out
        rw [if_neg (by simp)] at hR
        have HR1 := Hide.mk hR
        clear hR
        go_enter Tryz.func48, Tryz.ntmps48
        go_wp2
        refine start_ (n := 10) (S := fun w' => w'.cell? ⟨b, 2, none⟩ = some (.slice (some ⟨g, 0, none⟩) bs.length c) ∧ w'.cell? ⟨b, 1, none⟩ = some (.int .i64 p.most)) (ds := []) #[false, false, false, false, false, false, false, false, false, false] (by kernel_rfl) rfl rfl KC (fun hHeld => ?_); refine with_tabW tab48_1 bits48_1 (fun HT_ HW_ => ?_)
        refine pure_ (i := 0) (N := some 5) (v := ?_) (a' := ?_) #[true, false, false, false, false, false, false, false, false, false] rfl rfl (any_of HT_.out (by kernel_rfl)) (fun _ _ _ h => h) (Or.inl ⟨by rfl, ?_⟩) ?_ ?_
        rotate_left
        · intro w'
          go_simp
          with_reducible rfl
        rotate_left
        · simp only [Act.put, List.setIfInBounds_toArray, List.set_cons_zero, List.set_cons_succ, i64_w, i32_w]
          rfl
        refine pure_ (i := 1) (N := some 6) (v := ?_) (a' := ?_) #[true, true, false, false, false, false, false, false, false, false] rfl rfl (any_of HT_.out (by kernel_rfl)) (fun _ _ _ h => h) (Or.inl ⟨by rfl, ?_⟩) ?_ ?_
        rotate_left
        · intro w'
          go_simp
          with_reducible rfl
        rotate_left
        · simp only [Act.put, List.setIfInBounds_toArray, List.set_cons_zero, List.set_cons_succ, i64_w, i32_w]
          rfl
        refine pure_ (i := 2) (N := some 7) (v := ?_) (a' := ?_) #[true, true, true, false, false, false, false, false, false, false] rfl rfl (any_of HT_.out (by kernel_rfl)) (fun _ _ _ h => h) (Or.inl ⟨by rfl, ?_⟩) ?_ ?_
        rotate_left
        · intro w'
          go_simp
          with_reducible rfl
        rotate_left
        · simp only [Act.put, List.setIfInBounds_toArray, List.set_cons_zero, List.set_cons_succ, i64_w, i32_w]
          rfl
        refine take_ (i := 3) (N := some 8) (v := ?_) (a' := ?_) #[true, true, true, true, false, false, false, false, false, false] rfl rfl (take_ofW HT_.out HW_.out (by kernel_rfl)) (fun _ _ _ h => h) (Or.inl ⟨by rfl, ?_⟩) hHeld ?_ ?_
        rotate_left
        · intro w' hS'
          have s1 := hS'.1
          go_simp
          rfl
        rotate_left
        · simp only [Act.put, List.setIfInBounds_toArray, List.set_cons_zero, List.set_cons_succ, i64_w, i32_w]
          rfl
        refine pure_ (i := 4) (N := some 9) (v := ?_) (a' := ?_) #[true, true, true, true, true, false, false, false, false, false] rfl rfl (any_of HT_.out (by kernel_rfl)) (fun _ _ _ h => h) (Or.inl ⟨by rfl, ?_⟩) ?_ ?_
        rotate_left
        · intro w'
          go_simp
          with_reducible rfl
        rotate_left
        · simp only [Act.put, List.setIfInBounds_toArray, List.set_cons_zero, List.set_cons_succ, i64_w, i32_w]
          rfl
        refine pure_ (i := 5) (N := some 10) (v := ?_) (a' := ?_) #[true, true, true, true, true, true, false, false, false, false] rfl rfl (any_of HT_.out (by kernel_rfl)) (fun _ _ _ h => h) (Or.inl ⟨by rfl, ?_⟩) ?_ ?_
        rotate_left
        · intro w'
          go_simp
          with_reducible rfl
        rotate_left
        · simp only [Act.put, List.setIfInBounds_toArray, List.set_cons_zero, List.set_cons_succ, i64_w, i32_w]
          rfl
        refine pure_ (i := 6) (N := some 11) (v := ?_) (a' := ?_) #[true, true, true, true, true, true, true, false, false, false] rfl rfl (any_of HT_.out (by kernel_rfl)) (fun _ _ _ h => h) (Or.inl ⟨by rfl, ?_⟩) ?_ ?_
        rotate_left
        · intro w'
          go_simp
          with_reducible rfl
        rotate_left
        · simp only [Act.put, List.setIfInBounds_toArray, List.set_cons_zero, List.set_cons_succ, i64_w, i32_w]
          rfl
        refine pure_ (i := 7) (N := some 12) (v := ?_) (a' := ?_) #[true, true, true, true, true, true, true, true, false, false] rfl rfl (any_of HT_.out (by kernel_rfl)) (fun _ _ _ h => h) (Or.inl ⟨by rfl, ?_⟩) ?_ ?_
        rotate_left
        · intro w'
          go_simp
          with_reducible rfl
        rotate_left
        · simp only [Act.put, List.setIfInBounds_toArray, List.set_cons_zero, List.set_cons_succ, i64_w, i32_w]
          rfl
        refine take_ (i := 8) (N := some 13) (v := ?_) (a' := ?_) #[true, true, true, true, true, true, true, true, true, false] rfl rfl (take_ofW HT_.out HW_.out (by kernel_rfl)) (fun _ _ _ h => h) (Or.inl ⟨by rfl, ?_⟩) hHeld ?_ ?_
        rotate_left
        · intro w' hS'
          have s1 := hS'.2
          go_simp
          rfl
        rotate_left
        · simp only [Act.put, List.setIfInBounds_toArray, List.set_cons_zero, List.set_cons_succ, i64_w, i32_w]
          rfl
        refine pure_ (i := 9) (N := some 14) (v := ?_) (a' := ?_) #[true, true, true, true, true, true, true, true, true, true] rfl rfl (any_of HT_.out (by kernel_rfl)) (fun _ _ _ h => h) (Or.inl ⟨by rfl, ?_⟩) ?_ ?_
        rotate_left
        · intro w'
          go_simp
          with_reducible rfl
        rotate_left
        · simp only [Act.put, List.setIfInBounds_toArray, List.set_cons_zero, List.set_cons_succ, i64_w, i32_w]
          rfl
        refine done_ (done_of HT_.out (by kernel_rfl)) ?_
        clear hHeld
        have k2 := KC.1
        clear KC
        go_wp2_with (first
          | (go_at_call 96
             refine HI.out.mono ?_
             rintro e w2 ⟨rfl, hb⟩
             have B2 := Hide.mk hb
             have P2 := Hide.mk (HD.out.later hb)
             have k2b := pw_cell_below hb k2
             have kx := HX.out w2 hb
             have HFL0 := HFLU.out w2 P2.out
             rw [HFE.out] at HFL0
             have HFL := Hide.mk HFL0
             clear hb HFL0)
          | (go_at_call 98
             with_reducible refine HFL.out.mono ?_
             rintro e w3 ⟨rfl, hk3, F3, hp3⟩
             have P3 := Hide.mk hp3
             have K3 := Hide.mk hk3
             clear hk3
             have c2c : w3.cell? ⟨b, 2, none⟩ = some (.slice (some ⟨g, 0, none⟩) bs.length c) := cell_of hp3.row
             have HDL0 := delete_any k hp3.arr HKL.out
             rw [HKE.out] at HDL0
             have HDL := Hide.mk HDL0
             clear HDL0
             clear hp3)
          | (go_at_call 54
             with_reducible refine HDL.out.mono ?_
             rintro e w4 ⟨rfl, ho4, hg4⟩
             have hz4 := P3.out.frs.erase k
             have nd4 := P3.out.nodup.sublist (List.eraseIdx_sublist bs k)
             obtain ⟨d2, f2, hp4, hk4⟩ := P3.out.restored (v1 := .slice (some ⟨g, 0, none⟩) (bs.length - 1) c) hg4 ho4 (.inl rfl) nd4 hz4 (fun x hx => .inl (List.mem_of_mem_eraseIdx hx))
             have P4 := Hide.mk hp4
             have K4 := Hide.mk hk4
             clear ho4 hg4 hz4 nd4 hp4 hk4))
        go_ret
        rw [HR1.out]
        exact ⟨rfl, F3, _, _, P4.out, by rw [List.length_eraseIdx]; split <;> omega, (fun x hx => List.mem_of_mem_eraseIdx hx), (HKD.out.trans (K8.of_below B2.out)).trans (K3.out.trans K4.out)⟩
      · have q : (E != 0) = true := by simp [hE]
        have hR := HRR.out
        rw [if_pos hE] at hR
        have HR1 := Hide.mk hR
        clear hR hE
        go_enter Tryz.func48, Tryz.ntmps48
        go_wp2
        refine start_ (n := 10) (S := fun w' => w'.cell? ⟨b, 2, none⟩ = some (.slice (some ⟨g, 0, none⟩) bs.length c) ∧ w'.cell? ⟨b, 1, none⟩ = some (.int .i64 p.most)) (ds := []) #[false, false, false, false, false, false, false, false, false, false] (by kernel_rfl) rfl rfl KC (fun hHeld => ?_); refine with_tabW tab48_1 bits48_1 (fun HT_ HW_ => ?_)
        refine pure_ (i := 0) (N := some 5) (v := ?_) (a' := ?_) #[true, false, false, false, false, false, false, false, false, false] rfl rfl (any_of HT_.out (by kernel_rfl)) (fun _ _ _ h => h) (Or.inl ⟨by rfl, ?_⟩) ?_ ?_
        rotate_left
        · intro w'
          go_simp
          with_reducible rfl
        rotate_left
        · simp only [Act.put, List.setIfInBounds_toArray, List.set_cons_zero, List.set_cons_succ, i64_w, i32_w]
          rfl
        refine pure_ (i := 1) (N := some 6) (v := ?_) (a' := ?_) #[true, true, false, false, false, false, false, false, false, false] rfl rfl (any_of HT_.out (by kernel_rfl)) (fun _ _ _ h => h) (Or.inl ⟨by rfl, ?_⟩) ?_ ?_
        rotate_left
        · intro w'
          go_simp
          with_reducible rfl
        rotate_left
        · simp only [Act.put, List.setIfInBounds_toArray, List.set_cons_zero, List.set_cons_succ, i64_w, i32_w]
          rfl
        refine pure_ (i := 2) (N := some 7) (v := ?_) (a' := ?_) #[true, true, true, false, false, false, false, false, false, false] rfl rfl (any_of HT_.out (by kernel_rfl)) (fun _ _ _ h => h) (Or.inl ⟨by rfl, ?_⟩) ?_ ?_
        rotate_left
        · intro w'
          go_simp
          with_reducible rfl
        rotate_left
        · simp only [Act.put, List.setIfInBounds_toArray, List.set_cons_zero, List.set_cons_succ, i64_w, i32_w]
          rfl
        refine take_ (i := 3) (N := some 8) (v := ?_) (a' := ?_) #[true, true, true, true, false, false, false, false, false, false] rfl rfl (take_ofW HT_.out HW_.out (by kernel_rfl)) (fun _ _ _ h => h) (Or.inl ⟨by rfl, ?_⟩) hHeld ?_ ?_
        rotate_left
        · intro w' hS'
          have s1 := hS'.1
          go_simp
          rfl
        rotate_left
        · simp only [Act.put, List.setIfInBounds_toArray, List.set_cons_zero, List.set_cons_succ, i64_w, i32_w]
          rfl
        refine pure_ (i := 4) (N := some 9) (v := ?_) (a' := ?_) #[true, true, true, true, true, false, false, false, false, false] rfl rfl (any_of HT_.out (by kernel_rfl)) (fun _ _ _ h => h) (Or.inl ⟨by rfl, ?_⟩) ?_ ?_
        rotate_left
        · intro w'
          go_simp
          with_reducible rfl
        rotate_left
        · simp only [Act.put, List.setIfInBounds_toArray, List.set_cons_zero, List.set_cons_succ, i64_w, i32_w]
          rfl
        refine pure_ (i := 5) (N := some 10) (v := ?_) (a' := ?_) #[true, true, true, true, true, true, false, false, false, false] rfl rfl (any_of HT_.out (by kernel_rfl)) (fun _ _ _ h => h) (Or.inl ⟨by rfl, ?_⟩) ?_ ?_
        rotate_left
        · intro w'
          go_simp
          with_reducible rfl
        rotate_left
        · simp only [Act.put, List.setIfInBounds_toArray, List.set_cons_zero, List.set_cons_succ, i64_w, i32_w]
          rfl
        refine pure_ (i := 6) (N := some 11) (v := ?_) (a' := ?_) #[true, true, true, true, true, true, true, false, false, false] rfl rfl (any_of HT_.out (by kernel_rfl)) (fun _ _ _ h => h) (Or.inl ⟨by rfl, ?_⟩) ?_ ?_
        rotate_left
        · intro w'
          go_simp
          with_reducible rfl
        rotate_left
        · simp only [Act.put, List.setIfInBounds_toArray, List.set_cons_zero, List.set_cons_succ, i64_w, i32_w]
          rfl
        refine pure_ (i := 7) (N := some 12) (v := ?_) (a' := ?_) #[true, true, true, true, true, true, true, true, false, false] rfl rfl (any_of HT_.out (by kernel_rfl)) (fun _ _ _ h => h) (Or.inl ⟨by rfl, ?_⟩) ?_ ?_
        rotate_left
        · intro w'
          go_simp
          with_reducible rfl
        rotate_left
        · simp only [Act.put, List.setIfInBounds_toArray, List.set_cons_zero, List.set_cons_succ, i64_w, i32_w]
          rfl
        refine take_ (i := 8) (N := some 13) (v := ?_) (a' := ?_) #[true, true, true, true, true, true, true, true, true, false] rfl rfl (take_ofW HT_.out HW_.out (by kernel_rfl)) (fun _ _ _ h => h) (Or.inl ⟨by rfl, ?_⟩) hHeld ?_ ?_
        rotate_left
        · intro w' hS'
          have s1 := hS'.2
          go_simp
          rfl
        rotate_left
        · simp only [Act.put, List.setIfInBounds_toArray, List.set_cons_zero, List.set_cons_succ, i64_w, i32_w]
          rfl
        refine pure_ (i := 9) (N := some 14) (v := ?_) (a' := ?_) #[true, true, true, true, true, true, true, true, true, true] rfl rfl (any_of HT_.out (by kernel_rfl)) (fun _ _ _ h => h) (Or.inl ⟨by rfl, ?_⟩) ?_ ?_
        rotate_left
        · intro w'
          go_simp
          with_reducible rfl
        rotate_left
        · simp only [Act.put, List.setIfInBounds_toArray, List.set_cons_zero, List.set_cons_succ, i64_w, i32_w]
          rfl
        refine done_ (done_of HT_.out (by kernel_rfl)) ?_
        clear hHeld
        have k2 := KC.1
        clear KC
        go_wp2_with (first
          | (go_at_call 96
             refine HI.out.mono ?_
             rintro e w2 ⟨rfl, hb⟩
             have B2 := Hide.mk hb
             have P2 := Hide.mk (HD.out.later hb)
             have k2b := pw_cell_below hb k2
             have kx := HX.out w2 hb
             have HFL0 := HFLU.out w2 P2.out
             rw [HFE.out] at HFL0
             have HFL := Hide.mk HFL0
             clear hb HFL0)
          | (go_at_call 98
             with_reducible refine HFL.out.mono ?_
             rintro e w3 ⟨rfl, hk3, F3, hp3⟩
             have P3 := Hide.mk hp3
             have K3 := Hide.mk hk3
             clear hk3
             clear hp3))
        go_ret
        rw [HR1.out]
        exact ⟨rfl, F3, _, bs, P3.out, Nat.le_refl _, (fun x hx => hx), (HKD.out.trans (K8.of_below B2.out)).trans K3.out⟩
end
end Go.Proofs.YtgmkbcoahilkhaaGreat.Pool
end
section
namespace Go.Proofs.YtgmkbcoahilkhaaGreat.Pool
open Go.RowKit Go.Proofs.YtgmkbcoahilkhaaGreatW.PrintWords Go.Proofs.YtgmkbcoahilkhaaGreatW.PrintLast Go.Proofs.YtgmkbcoahilkhaaGreatW.PrintMore Go.Proofs.YtgmkbcoahilkhaaGreat.MapFn Go.Proofs.YtgmkbcoahilkhaaGreat.Disk Go.Proofs.YtgmkbcoahilkhaaGreat.Page Go.Proofs.YtgmkbcoahilkhaaGreat.Num Go.Proofs.YtgmkbcoahilkhaaGreat.Bitset Go.Proofs.YtgmkbcoahilkhaaGreat.Sh
set_option linter.unusedVariables false
set_option linter.unusedSimpArgs false
set_option maxHeartbeats 8000000
set_option maxRecDepth 100000
section
variable {w wr w1 w' : World} {b ps pd : Nat} {F : Foot} {v : Value} {bs : List Nat} {p : Pl}
theorem PIn.count (h : PIn w wr b ps pd F v bs p) {i : Nat} {x : Int} {p' : Pl} (hr : (wr.setCell ⟨b, i, none⟩ (.int .i64 x)).heap[b]? = some (.cells #[.pointer (some ⟨ps, 0, none⟩), .int .i64 p'.most, v, .int .i64 p'.hits, .int .i64 p'.misses] 80 (0, 0))) (hf : p'.frames = p.frames) (hS : p'.S = p.S) :
    PIn w (wr.setCell ⟨b, i, none⟩ (.int .i64 x)) b ps pd F v bs p' := by
  have hm := Moves.of_grown (set_cell_grown (wr := wr) (p := b) (i := i) (.int .i64 x))
  have hours : ∀ y ∈ [b], Ours b v bs wr.heap.size y := fun y hy => .inl (by simpa using hy)
  refine h.turn hm hours hr (RP_moves h.arr hm fun g hg hgs => ?_) h.nodup (by rw [hf]; exact h.frs.imp fun y hy f hfy => h.fr_keep hm hours hfy (fun e => (h.fr_ne hfy).1 (by simpa using e))) hS (fun g hg => .inl hg) (fun x hx => .inl hx)
  simp only [List.mem_singleton] at hgs
  subst hgs
  exact h.b_off.2 hg
theorem PIn.hit (h : PIn w wr b ps pd F v bs p) : PIn w (wr.setCell ⟨b, 3, none⟩ (.int .i64 (wrap64 (p.hits + 1)))) b ps pd F v bs { p with hits := wrap64 (p.hits + 1) } :=
  h.count (by have := set_row (i := 3) h.row (.int .i64 (wrap64 (p.hits + 1))); simpa using this) rfl rfl
theorem PIn.miss (h : PIn w wr b ps pd F v bs p) : PIn w (wr.setCell ⟨b, 4, none⟩ (.int .i64 (wrap64 (p.misses + 1)))) b ps pd F v bs { p with misses := wrap64 (p.misses + 1) } :=
  h.count (by have := set_row (i := 4) h.row (.int .i64 (wrap64 (p.misses + 1))); simpa using this) rfl rfl
theorem erase_not {l : List Nat} (h : l.Nodup) {k : Nat} (hk : k < l.length) : ¬ l[k] ∈ l.eraseIdx k := by
  intro hm
  obtain ⟨j, hj, e⟩ := List.mem_iff_getElem.1 hm
  rw [List.getElem_eraseIdx] at e
  split at e
  · rename_i q
    exact List.pairwise_iff_getElem.1 h j k (by omega) hk q e
  · rename_i q
    have hj2 : j + 1 < l.length := by rw [List.length_eraseIdx, if_pos hk] at hj; omega
    exact List.pairwise_iff_getElem.1 h k (j + 1) hk hj2 (by omega) e.symm
theorem read_bytes {s : Sh} (h : ∀ n, Bytes (s.D.get n)) (id : Int) : Bytes (s.read id).2.2.1 := by
  have e : Bytes ([] : List Int) := fun x hx => by cases hx
  unfold Sh.read
  split
  · exact e
  · split
    · exact e
    · simp only
      split
      · exact e
      · exact open_body_bytes (h _)
theorem open_len (l : List Int) : (openL l).2.2.1.length ≤ 1000 := by
  unfold openL
  repeat' split
  all_goals first | exact Nat.zero_le _ | skip
  rename_i h1 _ _ _ _
  simp only
  rw [List.length_take, List.length_drop]
  simp at h1
  omega
theorem read_len (s : Sh) (id : Int) : (s.read id).2.2.1.length ≤ 1000 := by
  unfold Sh.read
  split
  · exact Nat.zero_le _
  · split
    · exact Nat.zero_le _
    · simp only
      split
      · exact Nat.zero_le _
      · exact open_len _
theorem fetch_any (h : PIn w wr b ps pd F v bs p) (id : Int) (hk : Ok p.S) (hl : bs.length ≤ 900) (hk2 : Ok ({ p with misses := wrap64 (p.misses + 1) } : Pl).room.1.S) (hB : ∀ n, Bytes (({ p with misses := wrap64 (p.misses + 1) } : Pl).room.1.S.D.get n)) :
    Calls Tryz.prog 51 #[.pointer (some ⟨b, 0, none⟩), .int .i64 id] wr fun e w' => ∃ F' v' bs' x, e = .returned (.tuple #[ptrOf (p.fetch id).2 x, .int .i64 (p.fetch id).2]) ∧ PIn w w' b ps pd F' v' bs' (p.fetch id).1 ∧ bs'.length ≤ bs.length + 1 ∧ ((p.fetch id).2 = 0 → ∃ bs0, bs' = bs0 ++ [x]) ∧ K8 w wr w' := by
  have H := Hide.mk h
  have HPL := place_any h id (by omega)
  have HLL := Hide.mk hl
  have HOK := Hide.mk hk
  obtain ⟨R, hR⟩ : ∃ R, p.fetch id = R := ⟨_, rfl⟩
  rw [hR]
  unfold Pl.fetch at hR
  have hlen := h.frs.len
  rcases idxF_at (fun f => decide (f.id = id)) p.frames 0 with e | ⟨k, hkl, e, hq⟩
  · rw [show idxF (fun f => decide (f.id = id)) p.frames 0 = p.place id from rfl] at e
    rw [e] at HPL hR
    rw [if_neg (by decide)] at hR
    replace HPL := Hide.mk HPL
    obtain ⟨p1, e1, hro⟩ : ∃ p1 e1, ({ p with misses := wrap64 (p.misses + 1) } : Pl).room = (p1, e1) := ⟨_, _, rfl⟩
    rw [hro] at hR hk2 hB
    simp only at hR hk2 hB
    have HRO := Hide.mk hro
    have HOK2 := Hide.mk hk2
    have HBY := Hide.mk hB
    by_cases h1 : e1 = 0
    · subst h1
      rw [if_neg (by simp)] at hR
      obtain ⟨S1, rk, rb, re, hrd⟩ : ∃ S1 rk rb re, p1.S.read id = (S1, rk, rb, re) := ⟨_, _, _, _, rfl⟩
      have HRB := Hide.mk (read_bytes hB id)
      have HRL := Hide.mk (read_len p1.S id)
      rw [hrd] at hR HRB HRL
      simp only at hR HRB HRL
      have HRDE := Hide.mk hrd
      by_cases h2 : re = 0
      · subst h2
        rw [if_neg (by simp)] at hR
        have HRR := Hide.mk hR.symm
        clear h hl hk hR hk2 hB hro hrd e hlen
        go_enter Tryz.func51, Tryz.ntmps51
        go_wp2_with (first
          | (go_at_call 53
             refine HPL.out.mono ?_
             rintro e w1 ⟨rfl, hb⟩
             have P1 := Hide.mk (H.out.later hb)
             have HKB := Hide.mk (K8.of_below (w := w) hb)
             have k3 : w1.cell? ⟨b, 4, none⟩ = some (.int .i64 p.misses) := cell_of P1.out.row
             have f3 := free_of (i := 4) P1.out.row
             have P2 := Hide.mk (P1.out.miss)
             have K2 := Hide.mk (P1.out.k8_ours (Moves.of_grown (set_cell_grown (i := 4) (.int .i64 (wrap64 (p.misses + 1))))) (fun y hy => .inl (by simpa using hy)))
             have HRM0 := room_any P2.out HOK.out (by have := HLL.out; omega)
             rw [HRO.out] at HRM0
             have HRM := Hide.mk HRM0
             clear hb HRM0)
          | (go_at_call 48
             with_reducible refine HRM.out.mono ?_
             rintro e w3 ⟨rfl, F3, v3, bs3, hp3, hl3, hs3, hk3⟩
             have P3 := Hide.mk hp3
             have K3 := Hide.mk hk3
             have HL3 := Hide.mk hl3
             have k0 : w3.cell? ⟨b, 0, none⟩ = some (.pointer (some ⟨ps, 0, none⟩)) := cell_of hp3.row
             have HRE0 := shread_any id w3 F3 p1.S hp3.sh HOK2.out HBY.out
             rw [HRDE.out, hp3.ep] at HRE0
             have HRE := Hide.mk HRE0
             clear HRE0
             clear hp3 hl3 hs3 hk3)
          | (go_at_call 57
             with_reducible refine HRE.out.mono ?_
             rintro e w4 ⟨v4, rfl, ho, F4, hs, hg⟩
             obtain ⟨A4, c4, hv4, hi4, _⟩ := In.of_own ho
             obtain ⟨n4, hn4⟩ : ∃ n, rb.length = n := ⟨_, rfl⟩
             rw [hn4] at hv4
             subst hv4
             have P4 := Hide.mk (P3.out.shadow hs hg)
             have O4 := Hide.mk ho
             have HG4 := Hide.mk hg.moves.size
             have K4 := Hide.mk (P3.out.k8_goes hg)
             clear ho hs hg hi4 hn4)
          | (go_at_call 49
             obtain ⟨W, hW⟩ : ∃ W, w4.alloc (.cells #[.int .i64 id, .int .i64 rk, .slice A4 n4 c4, .int .i64 0, .bool false] 85) = W := ⟨_, rfl⟩
             rw [hW]
             have hal := (Below.refl w4.heap.size w4).alloc (Nat.le_refl _) (.cells #[.int .i64 id, .int .i64 rk, .slice A4 n4 c4, .int .i64 0, .bool false] 85)
             have rowf := heap_last w4 (.cells #[.int .i64 id, .int .i64 rk, .slice A4 n4 c4, .int .i64 0, .bool false] 85)
             rw [hW] at hal rowf
             have hfx : FrAt W w.heap.size w4.heap.size ⟨id, rk, rb, 0, false⟩ := ⟨⟨_, rowf, Kd.R_below (Kd.R_lower O4.out (Nat.le_trans P3.out.below.size (Nat.le_refl _))) hal⟩, P4.out.below.size, HRB.out, HRL.out⟩
             have hnx : ¬ w4.heap.size ∈ bs3 := fun hx => by obtain ⟨f, hf⟩ := P4.out.frs.mem hx; have := hf.lt; omega
             refine (hold_any (P4.out.later hal) hfx hnx (fun A hA a ha e => by have := P4.out.sh.slice_lt A hA a ha; omega) (by have := HL3.out; have := HLL.out; omega)).mono ?_
             rintro e w5 ⟨rfl, hk5, v5, hp5⟩
             have P5 := Hide.mk hp5
             have K5 := Hide.mk ((K8.of_below (w := w) hal).trans hk5)
             clear hk5 hW hal rowf hfx hnx hp5))
        go_ret2
        rw [HRR.out]
        exact ⟨F4, v5, _, w4.heap.size, rfl, P5.out, by rw [List.length_append]; have := HL3.out; simp; omega, (fun _ => ⟨bs3, rfl⟩), ((HKB.out.trans K2.out).trans K3.out).trans (K4.out.trans K5.out)⟩
      · rw [if_pos h2] at hR
        have q : (re != 0) = true := by simp [h2]
        have HRR := Hide.mk hR.symm
        have HE := Hide.mk h2
        clear h hl hk hR hk2 hB hro hrd e hlen h2
        go_enter Tryz.func51, Tryz.ntmps51
        go_wp2_with (first
          | (go_at_call 53
             refine HPL.out.mono ?_
             rintro e w1 ⟨rfl, hb⟩
             have P1 := Hide.mk (H.out.later hb)
             have HKB := Hide.mk (K8.of_below (w := w) hb)
             have k3 : w1.cell? ⟨b, 4, none⟩ = some (.int .i64 p.misses) := cell_of P1.out.row
             have f3 := free_of (i := 4) P1.out.row
             have P2 := Hide.mk (P1.out.miss)
             have K2 := Hide.mk (P1.out.k8_ours (Moves.of_grown (set_cell_grown (i := 4) (.int .i64 (wrap64 (p.misses + 1))))) (fun y hy => .inl (by simpa using hy)))
             have HRM0 := room_any P2.out HOK.out (by have := HLL.out; omega)
             rw [HRO.out] at HRM0
             have HRM := Hide.mk HRM0
             clear hb HRM0)
          | (go_at_call 48
             with_reducible refine HRM.out.mono ?_
             rintro e w3 ⟨rfl, F3, v3, bs3, hp3, hl3, hs3, hk3⟩
             have P3 := Hide.mk hp3
             have K3 := Hide.mk hk3
             have HL3 := Hide.mk hl3
             have k0 : w3.cell? ⟨b, 0, none⟩ = some (.pointer (some ⟨ps, 0, none⟩)) := cell_of hp3.row
             have HRE0 := shread_any id w3 F3 p1.S hp3.sh HOK2.out HBY.out
             rw [HRDE.out, hp3.ep] at HRE0
             have HRE := Hide.mk HRE0
             clear HRE0
             clear hp3 hl3 hs3 hk3)
          | (go_at_call 57
             with_reducible refine HRE.out.mono ?_
             rintro e w4 ⟨v4, rfl, ho, F4, hs, hg⟩
             obtain ⟨A4, c4, hv4, hi4, _⟩ := In.of_own ho
             obtain ⟨n4, hn4⟩ : ∃ n, rb.length = n := ⟨_, rfl⟩
             rw [hn4] at hv4
             subst hv4
             have P4 := Hide.mk (P3.out.shadow hs hg)
             have O4 := Hide.mk ho
             have HG4 := Hide.mk hg.moves.size
             have K4 := Hide.mk (P3.out.k8_goes hg)
             clear ho hs hg hi4 hn4))
        go_ret2
        rw [HRR.out]
        exact ⟨F4, _, bs3, 0, by rw [ptrOf_bad HE.out]; rfl, P4.out, by have := HL3.out; omega, (fun e => absurd e HE.out), ((HKB.out.trans K2.out).trans K3.out).trans K4.out⟩
    · rw [if_pos h1] at hR
      have q : (e1 != 0) = true := by simp [h1]
      have HRR := Hide.mk hR.symm
      have HE := Hide.mk h1
      clear h hl hk hR hk2 hB hro e hlen h1
      go_enter Tryz.func51, Tryz.ntmps51
      go_wp2_with (first
        | (go_at_call 53
           refine HPL.out.mono ?_
           rintro e w1 ⟨rfl, hb⟩
           have P1 := Hide.mk (H.out.later hb)
           have HKB := Hide.mk (K8.of_below (w := w) hb)
           have k3 : w1.cell? ⟨b, 4, none⟩ = some (.int .i64 p.misses) := cell_of P1.out.row
           have f3 := free_of (i := 4) P1.out.row
           have P2 := Hide.mk (P1.out.miss)
           have K2 := Hide.mk (P1.out.k8_ours (Moves.of_grown (set_cell_grown (i := 4) (.int .i64 (wrap64 (p.misses + 1))))) (fun y hy => .inl (by simpa using hy)))
           have HRM0 := room_any P2.out HOK.out (by have := HLL.out; omega)
           rw [HRO.out] at HRM0
           have HRM := Hide.mk HRM0
           clear hb HRM0)
        | (go_at_call 48
           with_reducible refine HRM.out.mono ?_
           rintro e w3 ⟨rfl, F3, v3, bs3, hp3, hl3, hs3, hk3⟩
           have P3 := Hide.mk hp3
           have K3 := Hide.mk hk3
           have HL3 := Hide.mk hl3
           clear hp3 hl3 hs3 hk3))
      go_ret2
      rw [HRR.out]
      exact ⟨F3, _, bs3, 0, by rw [ptrOf_bad HE.out]; rfl, P3.out, by have := HL3.out; omega, (fun e => absurd e HE.out), (HKB.out.trans K2.out).trans K3.out⟩
  · rw [show idxF (fun f => decide (f.id = id)) p.frames 0 = p.place id from rfl, Nat.zero_add] at e
    rw [e] at HPL hR
    rw [if_pos (by omega), Int.toNat_natCast] at hR
    replace HPL := Hide.mk HPL
    have hkb : k < bs.length := by omega
    obtain ⟨g, c0, hvg, _, _, _⟩ := Kd.R_form h.arr (by rw [List.length_map]; omega)
    rw [List.length_map] at hvg
    obtain ⟨c, hc⟩ : ∃ d, c0 = d := ⟨_, rfl⟩
    rw [hc] at hvg
    subst hvg
    have HKL := Hide.mk hkb
    have HKE : Hide (((k + 1 : Nat) : Int) = (k : Int) + 1) := ⟨by omega⟩
    have hki : (k : Int) < (bs.length : Int) := by omega
    have hk0 : ¬ (k : Int) < 0 := by omega
    have hk1 : (k : Int) ≤ 1000 := by omega
    have HRR := Hide.mk hR.symm
    obtain ⟨x, hx⟩ : ∃ x, bs[k] = x := ⟨_, rfl⟩
    have HXB := Hide.mk hx
    have HX : Hide (∀ w2, PIn w w2 b ps pd F (.slice (some ⟨g, 0, none⟩) bs.length c) bs { p with hits := wrap64 (p.hits + 1) } → w2.cell? ⟨g, k, none⟩ = some (.pointer (some ⟨x, 0, none⟩))) := ⟨fun w2 hp => by
      obtain ⟨hn, _, hC⟩ := Kd.R_reads' hp.arr
      rw [List.length_map] at hC
      obtain ⟨ad, had, hcx⟩ := at_ptr hC (k : Int) (by omega) hki
      cases had
      have hrd : rdOf none (bs.map some) (k : Int) = some bs[k] := by simp [rdOf, List.getD_eq_getElem?_getD, hkb]
      rw [hrd, Int.toNat_natCast, Go.WideShapes.add_plain, Nat.zero_add, hx] at hcx
      exact hcx⟩
    clear h hl hk hR hk2 hB e hlen hkl hq hx hc
    go_enter Tryz.func51, Tryz.ntmps51
    go_wp2_with (first
      | (go_at_call 53
         refine HPL.out.mono ?_
         rintro e w1 ⟨rfl, hb⟩
         have P1 := Hide.mk (H.out.later hb)
         have HKB := Hide.mk (K8.of_below (w := w) hb)
         have k3 : w1.cell? ⟨b, 3, none⟩ = some (.int .i64 p.hits) := cell_of P1.out.row
         have f3 := free_of (i := 3) P1.out.row
         have P2 := Hide.mk (P1.out.hit)
         have K2 := Hide.mk (P1.out.k8_ours (Moves.of_grown (set_cell_grown (i := 3) (.int .i64 (wrap64 (p.hits + 1))))) (fun y hy => .inl (by simpa using hy)))
         have k2 : (w1.setCell ⟨b, 3, none⟩ (.int .i64 (wrap64 (p.hits + 1)))).cell? ⟨b, 2, none⟩ = some (.slice (some ⟨g, 0, none⟩) bs.length c) := cell_of P2.out.row
         have kx := HX.out _ P2.out
         have HDL0 := delete_any k P2.out.arr HKL.out
         rw [HKE.out] at HDL0
         have HDL := Hide.mk HDL0
         clear hb HDL0)
      | (go_at_call 54
         with_reducible refine HDL.out.mono ?_
         rintro e w4 ⟨rfl, ho4, hg4⟩
         have hz4 := P2.out.frs.erase k
         have nd4 := P2.out.nodup.sublist (List.eraseIdx_sublist bs k)
         obtain ⟨d2, f2, hp4, hk4⟩ := P2.out.restored (v1 := .slice (some ⟨g, 0, none⟩) (bs.length - 1) c) hg4 ho4 (.inl rfl) nd4 hz4 (fun x hx => .inl (List.mem_of_mem_eraseIdx hx))
         have hfx := P2.out.fr HKL.out
         have hxm : Moves (b :: [g]) (w1.setCell ⟨b, 3, none⟩ (.int .i64 (wrap64 (p.hits + 1)))) (w4.setCell ⟨b, 2, none⟩ (.slice (some ⟨g, 0, none⟩) (bs.length - 1) c)) := ((Moves.of_grown hg4).more (by simp)).trans ((Moves.of_grown (set_cell_grown _)).more (by simp))
         have hours : ∀ y ∈ b :: [g], Ours b (.slice (some ⟨g, 0, none⟩) bs.length c) bs (w1.setCell ⟨b, 3, none⟩ (.int .i64 (wrap64 (p.hits + 1)))).heap.size y := fun y hy => by simp only [List.mem_cons, List.not_mem_nil, or_false] at hy; rcases hy with e | e; exact .inl e; exact .inr (.inl (by rw [e]; rfl))
         obtain ⟨n1, n2⟩ := P2.out.fr_ne hfx
         have hfx4 := P2.out.fr_keep hxm hours hfx (fun hy => by simp only [List.mem_cons, List.not_mem_nil, or_false] at hy; rcases hy with e | e; exact n1 e; exact n2 (by rw [e]; rfl))
         have HHO := Hide.mk (hold_any hp4 hfx4 (erase_not P2.out.nodup HKL.out) (fun A hA a ha e => (P2.out.off A hA a ha).2.1 (by rw [e]; exact List.getElem_mem _)) (by rw [List.length_eraseIdx]; have := HLL.out; split <;> omega))
         have P4 := Hide.mk hp4
         have K4 := Hide.mk hk4
         rw [← HXB.out]
         clear hk4 ho4 hg4 hz4 nd4 hp4 hfx hxm hours n1 n2 hfx4)
      | (go_at_call 49
         refine HHO.out.mono ?_
         rintro e w5 ⟨rfl, hk5, v5, hp5⟩
         have P5 := Hide.mk hp5
         have K5 := Hide.mk hk5
         clear hp5 hk5))
    go_ret2
    rw [HRR.out]
    exact ⟨F, v5, _, x, by rw [← HXB.out]; rfl, P5.out, by rw [List.length_append, List.length_eraseIdx]; simp; split <;> omega, (fun _ => ⟨_, by rw [HXB.out]⟩), ((HKB.out.trans K2.out).trans K4.out).trans K5.out⟩
end
end Go.Proofs.YtgmkbcoahilkhaaGreat.Pool
end
section
namespace Go.Proofs.YtgmkbcoahilkhaaGreat.Pool
open Go.RowKit Go.Proofs.YtgmkbcoahilkhaaGreatW.PrintWords Go.Proofs.YtgmkbcoahilkhaaGreatW.PrintLast Go.Proofs.YtgmkbcoahilkhaaGreatW.PrintMore Go.Proofs.YtgmkbcoahilkhaaGreat.MapFn Go.Proofs.YtgmkbcoahilkhaaGreat.Disk Go.Proofs.YtgmkbcoahilkhaaGreat.Page Go.Proofs.YtgmkbcoahilkhaaGreat.Num Go.Proofs.YtgmkbcoahilkhaaGreat.Bitset Go.Proofs.YtgmkbcoahilkhaaGreat.Sh
set_option linter.unusedVariables false
set_option linter.unusedSimpArgs false
set_option maxHeartbeats 8000000
set_option maxRecDepth 100000
def T14_4 : Bool × List (List Nat × List Nat) := (true, [([], []), ([0], [0]), ([1], [1]), ([2], [2]), ([], []), ([4], [4]), ([5], [5]), ([6], [6]), ([7], [7]), ([3, 8, 0, 1, 2, 3], [3]), ([8, 9, 0, 1, 2, 3, 4, 5, 6, 7, 8, 9], [8]), ([10, 0, 1, 2, 3, 4, 5, 6, 7, 8, 9, 10], [])])
def B14_4 : List Nat := [0, 1, 3, 7, 0, 16, 48, 112, 240, 511, 1023, 2047]
theorem tab14_4 : rtab .any (opsOf Tryz.f14 4) = T14_4 := by kernel_rfl
theorem bits14_4 : waitsOk T14_4.2 B14_4 = true := by kernel_rfl
structure Good (p : Pl) : Prop where
  ok : Ok p.S
  ok2 : Ok ({ p with misses := wrap64 (p.misses + 1) } : Pl).room.1.S
  bytes : ∀ n, Bytes (({ p with misses := wrap64 (p.misses + 1) } : Pl).room.1.S.D.get n)
  few : p.frames.length ≤ 900
section
variable {w wr w1 w' : World} {b ps pd : Nat} {F : Foot} {v : Value} {bs bs0 : List Nat} {p : Pl} {x : Nat}
theorem PIn.last (h : PIn w wr b ps pd F v (bs0 ++ [x]) p) : FrAt wr w.heap.size x p.last ∧ p.frames.length = bs0.length + 1 := by
  have hl := h.frs.len
  rw [List.length_append, List.length_singleton] at hl
  have := h.fr (k := bs0.length) (by simp)
  rw [List.getElem_append_right (Nat.le_refl _)] at this
  simp only [Nat.sub_self, List.getElem_cons_zero] at this
  refine ⟨?_, hl.symm⟩
  unfold Pl.last
  rw [← hl]
  exact this
theorem PIn.set_last (h : PIn w wr b ps pd F v (bs0 ++ [x]) p) {f' : Fr} (hm : Moves [x] wr w') (hf : FrAt w' w.heap.size x f') : PIn w w' b ps pd F v (bs0 ++ [x]) (p.setLast f') := by
  have hl := h.last.2
  have hx : (bs0 ++ [x])[bs0.length]'(by simp) = x := by rw [List.getElem_append_right (Nat.le_refl _)]; simp
  have := h.set_frame (k := bs0.length) (by simp) (f' := f') (by rw [hx]; exact hm) (by rw [hx]; exact hf)
  unfold Pl.setLast
  rw [hl, Nat.add_sub_cancel]
  exact this
theorem fetch_on (h : PAt w wr b ps pd p) (hg : Good p) (id : Int) : Calls Tryz.prog 51 #[.pointer (some ⟨b, 0, none⟩), .int .i64 id] wr fun e w' => ∃ F' v' bs' x, e = .returned (.tuple #[ptrOf (p.fetch id).2 x, .int .i64 (p.fetch id).2]) ∧ PIn w w' b ps pd F' v' bs' (p.fetch id).1 ∧ ((p.fetch id).2 = 0 → ∃ bs0, bs' = bs0 ++ [x]) ∧ K8 w wr w' := by
  obtain ⟨F, v, bs, hp⟩ := h
  refine (fetch_any hp id hg.ok (by have := hp.frs.len; have := hg.few; omega) hg.ok2 hg.bytes).mono ?_
  rintro e w2 ⟨F2, v2, bs2, x, rfl, h2, _, h3, h4⟩
  exact ⟨F2, v2, bs2, x, rfl, h2, h3, h4⟩
theorem FrAt.set {f : Fr} (hf : FrAt wr w.heap.size x f) {i : Nat} {y : Value} {f' : Fr} (hr : ∀ v, (#[.int .i64 f.id, .int .i64 f.kind, v, .int .i64 f.pins, .bool f.dirty] : Array Value).setIfInBounds i y = #[.int .i64 f'.id, .int .i64 f'.kind, v, .int .i64 f'.pins, .bool f'.dirty]) (hb : f'.body = f.body) :
    FrAt (wr.setCell ⟨x, i, none⟩ y) w.heap.size x f' ∧ Moves [x] wr (wr.setCell ⟨x, i, none⟩ y) := by
  obtain ⟨v, hrow, hbody⟩ := hf.ex
  have hs := set_row (i := i) hrow y
  rw [hr v] at hs
  have hm := Moves.of_grown (set_cell_grown (wr := wr) (p := x) (i := i) y)
  refine ⟨⟨⟨v, hs, ?_⟩, hf.ge, by rw [hb]; exact hf.bytes, by rw [hb]; exact hf.short⟩, hm⟩
  rw [hb]
  refine R_moves hbody hm fun g hg hgs => ?_
  simp only [List.mem_singleton] at hgs
  subst hgs
  obtain ⟨cells, hc⟩ := typed hbody g hg
  exact ne_of_types hc hrow (by decide) rfl
theorem get_on (h : PAt w wr b ps pd p) (hg : Good p) (id : Int) : Calls Tryz.prog 14 #[.pointer (some ⟨b, 0, none⟩), .int .i64 id] wr fun e w' => K8 w wr w' ∧ ∃ A c, e = .returned (.tuple #[.int .i64 (p.get id).2.1, .slice A (p.get id).2.2.1.length c, .int .i64 (p.get id).2.2.2]) ∧ In8 w w' A (p.get id).2.2.1 c ∧ PAt w w' b ps pd (p.get id).1 := by
  have HF0 := fetch_on h hg id
  obtain ⟨R, hR⟩ : ∃ R, p.get id = R := ⟨_, rfl⟩
  rw [hR]
  unfold Pl.get at hR
  obtain ⟨p2, e2, hfe⟩ : ∃ p2 e2, p.fetch id = (p2, e2) := ⟨_, _, rfl⟩
  rw [hfe] at HF0 hR
  simp only at HF0 hR
  have HSZ : Hide (w.heap.size ≤ wr.heap.size) := ⟨by obtain ⟨_, _, _, hp⟩ := h; exact hp.below.size⟩
  clear h hg hfe
  by_cases h0 : e2 = 0
  · subst h0
    rw [if_neg (by simp)] at hR
    simp only [ptrOf_ok] at HF0
    have HF := Hide.mk HF0
    have HRR := Hide.mk hR.symm
    clear HF0 hR
    go_enter Tryz.func14, Tryz.ntmps14
    go_wp2_with (first
      | (go_at_call 51
         with_reducible refine HF.out.mono ?_
         rintro e w2 ⟨F2, v2, bs2, x, rfl, hp, hlast, hk8⟩
         obtain ⟨bs0, hbs⟩ := hlast trivial
         rw [hbs] at hp
         have P2 := Hide.mk hp
         have K2 := Hide.mk hk8
         clear hp hlast hbs hk8))
    obtain ⟨f, hf⟩ : ∃ f, p2.last = f := ⟨_, rfl⟩
    have hfx := P2.out.last.1
    rw [hf] at hfx
    have HFE := Hide.mk hf
    have hdr := below_drew (Below.refl w2.heap.size w2)
    have hfd := hfx.below hdr
    obtain ⟨vb, hrow, hbody⟩ := hfd.ex
    obtain ⟨Ab, cb, hvb, hib, _⟩ := In.of_own hbody
    obtain ⟨nb, hnb⟩ : ∃ n, f.body.length = n := ⟨_, rfl⟩
    have hmxb := hib.reads.2.1
    have HCL0 := Given.clone_any Ab cb f.body w2.drew hib.reads hib.room (by have := hfd.short; omega)
    rw [hnb] at hvb HCL0
    subst hvb
    have HCL := Hide.mk HCL0
    have HNB := Hide.mk hnb
    have HDR := Hide.mk hdr
    have KC : w2.drew.cell? ⟨x, 1, none⟩ = some (.int .i64 f.kind) ∧ w2.drew.cell? ⟨x, 2, none⟩ = some (.slice Ab nb cb) := ⟨cell_of hrow, cell_of hrow⟩
    clear hf hfx hdr hfd hrow hbody hib hnb HCL0 hmxb
    refine start_ (n := 12) (S := fun w' => w'.cell? ⟨x, 1, none⟩ = some (.int .i64 f.kind) ∧ w'.cell? ⟨x, 2, none⟩ = some (.slice Ab nb cb)) (ds := []) #[false, false, false, false, false, false, false, false, false, false, false, false] (by kernel_rfl) rfl rfl KC (fun hHeld => ?_); refine with_tabW tab14_4 bits14_4 (fun HT_ HW_ => ?_)
    refine pure_ (i := 0) (N := some 18) (v := ?_) (a' := ?_) #[true, false, false, false, false, false, false, false, false, false, false, false] rfl rfl (any_of HT_.out (by kernel_rfl)) (fun _ _ _ h => h) (Or.inl ⟨by rfl, ?_⟩) ?_ ?_
    rotate_left
    · intro w'
      go_simp
      with_reducible rfl
    rotate_left
    · simp only [Act.put, List.setIfInBounds_toArray, List.set_cons_zero, List.set_cons_succ, i64_w, i32_w]
      rfl
    refine pure_ (i := 1) (N := some 19) (v := ?_) (a' := ?_) #[true, true, false, false, false, false, false, false, false, false, false, false] rfl rfl (any_of HT_.out (by kernel_rfl)) (fun _ _ _ h => h) (Or.inl ⟨by rfl, ?_⟩) ?_ ?_
    rotate_left
    · intro w'
      go_simp
      with_reducible rfl
    rotate_left
    · simp only [Act.put, List.setIfInBounds_toArray, List.set_cons_zero, List.set_cons_succ, i64_w, i32_w]
      rfl
    refine pure_ (i := 2) (N := some 20) (v := ?_) (a' := ?_) #[true, true, true, false, false, false, false, false, false, false, false, false] rfl rfl (any_of HT_.out (by kernel_rfl)) (fun _ _ _ h => h) (Or.inl ⟨by rfl, ?_⟩) ?_ ?_
    rotate_left
    · intro w'
      go_simp
      with_reducible rfl
    rotate_left
    · simp only [Act.put, List.setIfInBounds_toArray, List.set_cons_zero, List.set_cons_succ, i64_w, i32_w]
      rfl
    refine take_ (i := 3) (N := some 21) (v := ?_) (a' := ?_) #[true, true, true, true, false, false, false, false, false, false, false, false] rfl rfl (take_ofW HT_.out HW_.out (by kernel_rfl)) (fun _ _ _ h => h) (Or.inl ⟨by rfl, ?_⟩) hHeld ?_ ?_
    rotate_left
    · intro w' hS'
      have s1 := hS'.1
      go_simp
      rfl
    rotate_left
    · simp only [Act.put, List.setIfInBounds_toArray, List.set_cons_zero, List.set_cons_succ, i64_w, i32_w]
      rfl
    refine pure_ (i := 4) (N := some 22) (v := ?_) (a' := ?_) #[true, true, true, true, true, false, false, false, false, false, false, false] rfl rfl (any_of HT_.out (by kernel_rfl)) (fun _ _ _ h => h) (Or.inl ⟨by rfl, ?_⟩) ?_ ?_
    rotate_left
    · intro w'
      go_simp
      with_reducible rfl
    rotate_left
    · simp only [Act.put, List.setIfInBounds_toArray, List.set_cons_zero, List.set_cons_succ, i64_w, i32_w]
      rfl
    refine pure_ (i := 5) (N := some 23) (v := ?_) (a' := ?_) #[true, true, true, true, true, true, false, false, false, false, false, false] rfl rfl (any_of HT_.out (by kernel_rfl)) (fun _ _ _ h => h) (Or.inl ⟨by rfl, ?_⟩) ?_ ?_
    rotate_left
    · intro w'
      go_simp
      with_reducible rfl
    rotate_left
    · simp only [Act.put, List.setIfInBounds_toArray, List.set_cons_zero, List.set_cons_succ, i64_w, i32_w]
      rfl
    refine pure_ (i := 6) (N := some 24) (v := ?_) (a' := ?_) #[true, true, true, true, true, true, true, false, false, false, false, false] rfl rfl (any_of HT_.out (by kernel_rfl)) (fun _ _ _ h => h) (Or.inl ⟨by rfl, ?_⟩) ?_ ?_
    rotate_left
    · intro w'
      go_simp
      with_reducible rfl
    rotate_left
    · simp only [Act.put, List.setIfInBounds_toArray, List.set_cons_zero, List.set_cons_succ, i64_w, i32_w]
      rfl
    refine take_ (i := 7) (N := some 25) (v := ?_) (a' := ?_) #[true, true, true, true, true, true, true, true, false, false, false, false] rfl rfl (take_ofW HT_.out HW_.out (by kernel_rfl)) (fun _ _ _ h => h) (Or.inl ⟨by rfl, ?_⟩) hHeld ?_ ?_
    rotate_left
    · intro w' hS'
      have s1 := hS'.2
      go_simp
      rfl
    rotate_left
    · simp only [Act.put, List.setIfInBounds_toArray, List.set_cons_zero, List.set_cons_succ, i64_w, i32_w]
      rfl
    refine one_ (i := 8) (N := some 26) #[true, true, true, true, true, true, true, true, true, false, false, false] rfl rfl (one_of HT_.out (by kernel_rfl)) (by decide) (fun K hK => ?_)
    refine goes_ Tryz.func50 (by kernel_rfl) rfl #[.slice Ab nb cb] (by rfl) rfl rfl (by (try simp only [List.map_toArray, List.map_cons, List.map_nil]); first | done | rfl) ?_
    with_reducible refine HCL.out.mono ?_
    rintro e w4 ⟨v4, rfl, ho, hb⟩
    obtain ⟨A4, c4, hv4, hi4, hge4⟩ := In.of_own ho
    have I4 := Hide.mk hi4
    have O4 := Hide.mk ho
    have GE4 := Hide.mk hge4
    have B4 := Hide.mk hb
    have KC1 := And.intro (pw_cell_below hb KC.1) (pw_cell_below hb KC.2)
    rw [HNB.out] at hv4
    subst hv4
    refine ⟨_, rfl, ?_⟩
    clear ho hb hi4 hge4
    refine hK.out _ _ KC1 (fun hHeld => ?_)
    clear hK K
    refine norm_ (a' := ?_) ?_ ?_
    rotate_left
    · show Act.put _ (some 26) _ = _
      simp only [Act.put, List.setIfInBounds_toArray, List.set_cons_zero, List.set_cons_succ, i64_w, i32_w]
      rfl
    refine pure_ (i := 9) (N := some 4) (v := ?_) (a' := ?_) #[true, true, true, true, true, true, true, true, true, true, false, false] rfl rfl (any_of HT_.out (by kernel_rfl)) (fun _ _ _ h => h) (Or.inl ⟨by rfl, ?_⟩) ?_ ?_
    rotate_left
    · intro w'
      go_simp
      with_reducible rfl
    rotate_left
    · simp only [Act.put, List.setIfInBounds_toArray, List.set_cons_zero, List.set_cons_succ, i64_w, i32_w]
      rfl
    refine pure_ (i := 10) (N := some 5) (v := ?_) (a' := ?_) #[true, true, true, true, true, true, true, true, true, true, true, false] rfl rfl (any_of HT_.out (by kernel_rfl)) (fun _ _ _ h => h) (Or.inl ⟨by rfl, ?_⟩) ?_ ?_
    rotate_left
    · intro w'
      go_simp
      with_reducible rfl
    rotate_left
    · simp only [Act.put, List.setIfInBounds_toArray, List.set_cons_zero, List.set_cons_succ, i64_w, i32_w]
      rfl
    refine pure_ (i := 11) (N := some 6) (v := ?_) (a' := ?_) #[true, true, true, true, true, true, true, true, true, true, true, true] rfl rfl (any_of HT_.out (by kernel_rfl)) (fun _ _ _ h => h) (Or.inl ⟨by rfl, ?_⟩) ?_ ?_
    rotate_left
    · intro w'
      go_simp
      with_reducible rfl
    rotate_left
    · simp only [Act.put, List.setIfInBounds_toArray, List.set_cons_zero, List.set_cons_succ, i64_w, i32_w]
      rfl
    refine done_ (done_of HT_.out (by kernel_rfl)) ?_
    clear KC KC1 hHeld
    go_wp2
    go_ret3
    rw [HRR.out, HFE.out]
    refine ⟨(K2.out.trans (K8.of_below HDR.out)).trans (K8.of_below B4.out), A4, c4, by rw [HNB.out]; rfl, ⟨I4.out.wide, fun a ha _ => ?_⟩, F2, v2, _, (P2.out.later HDR.out).later B4.out⟩
    obtain ⟨cells, hc⟩ := typed O4.out a.block (by rw [ha]; rfl)
    exact .inr ⟨cells, _, hc⟩
  · rw [if_pos h0] at hR
    have q : (e2 != 0) = true := by simp [h0]
    simp only [ptrOf_bad h0] at HF0
    have HF := Hide.mk HF0
    have HRR := Hide.mk hR.symm
    clear HF0 hR h0
    go_enter Tryz.func14, Tryz.ntmps14
    go_wp2_with (first
      | (go_at_call 51
         with_reducible refine HF.out.mono ?_
         rintro e w2 ⟨F2, v2, bs2, x, rfl, hp, hlast, hk8⟩
         have P2 := Hide.mk hp
         have K2 := Hide.mk hk8
         clear hp hlast hk8))
    go_ret3
    rw [HRR.out]
    exact ⟨K2.out, none, 0, rfl, ⟨(In.nil _ _).wide, fun a ha _ => by cases ha⟩, F2, v2, bs2, P2.out⟩
theorem pin_on (h : PAt w wr b ps pd p) (hg : Good p) (id : Int) : Calls Tryz.prog 13 #[.pointer (some ⟨b, 0, none⟩), .int .i64 id] wr fun e w' => e = .returned (.int .i64 (p.pin id).2) ∧ PAt w w' b ps pd (p.pin id).1 := by
  have HF0 := fetch_on h hg id
  obtain ⟨R, hR⟩ : ∃ R, p.pin id = R := ⟨_, rfl⟩
  rw [hR]
  unfold Pl.pin at hR
  obtain ⟨p2, e2, hfe⟩ : ∃ p2 e2, p.fetch id = (p2, e2) := ⟨_, _, rfl⟩
  rw [hfe] at HF0 hR
  simp only at HF0 hR
  clear h hg hfe
  by_cases h0 : e2 = 0
  · subst h0
    rw [if_neg (by simp)] at hR
    simp only [ptrOf_ok] at HF0
    have HF := Hide.mk HF0
    have HRR := Hide.mk hR.symm
    clear HF0 hR
    go_enter Tryz.func13, Tryz.ntmps13
    go_wp2_with (first
      | (go_at_call 51
         with_reducible refine HF.out.mono ?_
         rintro e w2 ⟨F2, v2, bs2, x, rfl, hp, hlast, hk8⟩
         obtain ⟨bs0, hbs⟩ := hlast trivial
         rw [hbs] at hp
         have P2 := Hide.mk hp
         obtain ⟨vb, hrow, _⟩ := hp.last.1.ex
         have k3 : w2.cell? ⟨x, 3, none⟩ = some (.int .i64 p2.last.pins) := cell_of hrow
         have f3 := free_of (i := 3) hrow
         clear hp hlast hbs hrow))
    go_ret
    rw [HRR.out]
    have hs := P2.out.last.1.set (i := 3) (y := .int .i64 (wrap64 (p2.last.pins + 1))) (f' := { p2.last with pins := wrap64 (p2.last.pins + 1) }) (fun v => by simp) rfl
    exact ⟨rfl, F2, v2, _, P2.out.set_last hs.2 hs.1⟩
  · rw [if_pos h0] at hR
    have q : (e2 != 0) = true := by simp [h0]
    simp only [ptrOf_bad h0] at HF0
    have HF := Hide.mk HF0
    have HRR := Hide.mk hR.symm
    clear HF0 hR h0
    go_enter Tryz.func13, Tryz.ntmps13
    go_wp2_with (first
      | (go_at_call 51
         with_reducible refine HF.out.mono ?_
         rintro e w2 ⟨F2, v2, bs2, x, rfl, hp, hlast, hk8⟩
         have P2 := Hide.mk hp
         clear hp hlast))
    go_ret
    rw [HRR.out]
    exact ⟨rfl, F2, v2, bs2, P2.out⟩
end
end Go.Proofs.YtgmkbcoahilkhaaGreat.Pool
end
section
namespace Go.Proofs.YtgmkbcoahilkhaaGreat.Pool
open Go.RowKit Go.Proofs.YtgmkbcoahilkhaaGreatW.PrintWords Go.Proofs.YtgmkbcoahilkhaaGreatW.PrintLast Go.Proofs.YtgmkbcoahilkhaaGreatW.PrintMore Go.Proofs.YtgmkbcoahilkhaaGreat.MapFn Go.Proofs.YtgmkbcoahilkhaaGreat.Disk Go.Proofs.YtgmkbcoahilkhaaGreat.Page Go.Proofs.YtgmkbcoahilkhaaGreat.Num Go.Proofs.YtgmkbcoahilkhaaGreat.Bitset Go.Proofs.YtgmkbcoahilkhaaGreat.Sh
set_option linter.unusedVariables false
set_option linter.unusedSimpArgs false
set_option maxHeartbeats 8000000
set_option maxRecDepth 100000
section
variable {w wr w1 w' : World} {b ps pd : Nat} {p : Pl}
theorem palloc_on (h : PAt w wr b ps pd p) (hk : Ok p.S) (hk2 : Ok p.room.1.S) (hfew : p.frames.length ≤ 900) (kind : Int) {A : Option Addr} {c : Nat} {body : List Int} (hr : In8 w wr A body c) (hb : Bytes body) (hsh : body.length ≤ 1000) :
    Calls Tryz.prog 12 #[.pointer (some ⟨b, 0, none⟩), .int .i64 kind, .slice A body.length c] wr fun e w' => e = .returned (.tuple #[.int .i64 (p.alloc kind body).2.1, .int .i64 (p.alloc kind body).2.2]) ∧ PAt w w' b ps pd (p.alloc kind body).1 := by
  obtain ⟨F, v, bs, h⟩ := h
  have HFEW : Hide (bs.length ≤ 900) := ⟨by have := h.frs.len; omega⟩
  have HRM0 := room_any h hk (by have := HFEW.out; omega)
  have HI := Hide.mk hr
  have HBB := Hide.mk hb
  have HSH := Hide.mk hsh
  obtain ⟨R, hR⟩ : ∃ R, p.alloc kind body = R := ⟨_, rfl⟩
  rw [hR]
  unfold Pl.alloc at hR
  obtain ⟨p1, e1, hro⟩ : ∃ p1 e1, p.room = (p1, e1) := ⟨_, _, rfl⟩
  rw [hro] at HRM0 hR hk2
  simp only at HRM0 hR hk2
  have HRM := Hide.mk HRM0
  have HOK2 := Hide.mk hk2
  clear HRM0 hr hb hsh hk hk2 hfew h hro
  by_cases h1 : e1 = 0
  · subst h1
    rw [if_neg (by simp)] at hR
    obtain ⟨S1, ni, e2, ha⟩ : ∃ S1 ni e2, p1.S.alloc kind body = (S1, ni, e2) := ⟨_, _, _, rfl⟩
    rw [ha] at hR
    simp only at hR
    have HAE := Hide.mk ha
    by_cases h2 : e2 = 0
    · subst h2
      rw [if_neg (by simp)] at hR
      have HRR := Hide.mk hR.symm
      clear hR ha
      go_enter Tryz.func12, Tryz.ntmps12
      go_wp2_with (first
        | (go_at_call 48
           with_reducible refine HRM.out.mono ?_
           rintro e w3 ⟨rfl, F3, v3, bs3, hp3, hl3, _, hk3⟩
           have P3 := Hide.mk hp3
           have HL3 := Hide.mk hl3
           have k0 : w3.cell? ⟨b, 0, none⟩ = some (.pointer (some ⟨ps, 0, none⟩)) := cell_of hp3.row
           have HI3 := Hide.mk (HI.out.keep hk3)
           have HA0 := alloc_any kind A c body w3 F3 p1.S hp3.sh HOK2.out HI3.out.in_ HBB.out
           rw [HAE.out, hp3.ep] at HA0
           have HA := Hide.mk HA0
           clear HA0
           clear hp3 hl3 hk3)
        | (go_at_call 19
           with_reducible refine HA.out.mono ?_
           rintro e w4 ⟨rfl, F4, hs, hg⟩
           have P4 := Hide.mk (P3.out.shadow hs hg)
           have HI4 := Hide.mk (HI3.out.keep (P3.out.k8_goes hg))
           have HCL := Hide.mk (Given.clone_any A c body w4 HI4.out.in_.reads HI4.out.in_.room (by have := HSH.out; omega))
           clear hs hg)
        | (go_at_call 50
           with_reducible refine HCL.out.mono ?_
           rintro e w5 ⟨v5, rfl, ho, hb⟩
           obtain ⟨A5, c5, hv5, _, _⟩ := In.of_own ho
           obtain ⟨n5, hn5⟩ : ∃ n, body.length = n := ⟨_, rfl⟩
           rw [hn5] at hv5
           subst hv5
           have P5 := Hide.mk (P4.out.later hb)
           have O5 := Hide.mk ho
           have HSZ4 := Hide.mk P4.out.below.size
           clear ho hb hn5)
        | (go_at_call 49
           obtain ⟨W, hW⟩ : ∃ W, w5.alloc (.cells #[.int .i64 ni, .int .i64 kind, .slice A5 n5 c5, .int .i64 0, .bool false] 85) = W := ⟨_, rfl⟩
           rw [hW]
           have hal := (Below.refl w5.heap.size w5).alloc (Nat.le_refl _) (.cells #[.int .i64 ni, .int .i64 kind, .slice A5 n5 c5, .int .i64 0, .bool false] 85)
           have rowf := heap_last w5 (.cells #[.int .i64 ni, .int .i64 kind, .slice A5 n5 c5, .int .i64 0, .bool false] 85)
           rw [hW] at hal rowf
           have hfx : FrAt W w.heap.size w5.heap.size ⟨ni, kind, body, 0, false⟩ := ⟨⟨_, rowf, Kd.R_below (Kd.R_lower O5.out HSZ4.out) hal⟩, P5.out.below.size, HBB.out, HSH.out⟩
           have hnx : ¬ w5.heap.size ∈ bs3 := fun hx => by obtain ⟨f, hf⟩ := P5.out.frs.mem hx; have := hf.lt; omega
           refine (hold_any (P5.out.later hal) hfx hnx (fun A hA a ha e => by have := P5.out.sh.slice_lt A hA a ha; omega) (by have := HL3.out; have := HFEW.out; omega)).mono ?_
           rintro e w6 ⟨rfl, _, v6, hp6⟩
           have P6 := Hide.mk hp6
           clear hW hal rowf hfx hnx hp6))
      go_ret2
      rw [HRR.out]
      exact ⟨rfl, F4, v6, _, P6.out⟩
    · rw [if_pos h2] at hR
      have q : (e2 != 0) = true := by simp [h2]
      have HRR := Hide.mk hR.symm
      clear hR ha h2
      go_enter Tryz.func12, Tryz.ntmps12
      go_wp2_with (first
        | (go_at_call 48
           with_reducible refine HRM.out.mono ?_
           rintro e w3 ⟨rfl, F3, v3, bs3, hp3, hl3, _, hk3⟩
           have P3 := Hide.mk hp3
           have HL3 := Hide.mk hl3
           have k0 : w3.cell? ⟨b, 0, none⟩ = some (.pointer (some ⟨ps, 0, none⟩)) := cell_of hp3.row
           have HI3 := Hide.mk (HI.out.keep hk3)
           have HA0 := alloc_any kind A c body w3 F3 p1.S hp3.sh HOK2.out HI3.out.in_ HBB.out
           rw [HAE.out, hp3.ep] at HA0
           have HA := Hide.mk HA0
           clear HA0
           clear hp3 hl3 hk3)
        | (go_at_call 19
           with_reducible refine HA.out.mono ?_
           rintro e w4 ⟨rfl, F4, hs, hg⟩
           have P4 := Hide.mk (P3.out.shadow hs hg)
           clear hs hg))
      go_ret2
      rw [HRR.out]
      exact ⟨rfl, F4, v3, bs3, P4.out⟩
  · rw [if_pos h1] at hR
    have q : (e1 != 0) = true := by simp [h1]
    have HRR := Hide.mk hR.symm
    clear hR h1
    go_enter Tryz.func12, Tryz.ntmps12
    go_wp2_with (first
      | (go_at_call 48
         with_reducible refine HRM.out.mono ?_
         rintro e w3 ⟨rfl, F3, v3, bs3, hp3, hl3, _, hk3⟩
         have P3 := Hide.mk hp3
         have HL3 := Hide.mk hl3
         clear hp3 hl3 hk3))
    go_ret2
    rw [HRR.out]
    exact ⟨rfl, F3, v3, bs3, P3.out⟩
theorem unpin_on (h : PAt w wr b ps pd p) (hfew : p.frames.length ≤ 900) (id : Int) : Calls Tryz.prog 16 #[.pointer (some ⟨b, 0, none⟩), .int .i64 id] wr fun e w' => e = .returned (.int .i64 (p.unpin id).2) ∧ PAt w w' b ps pd (p.unpin id).1 := by
  obtain ⟨F, v, bs, h⟩ := h
  have hlen := h.frs.len
  have H := Hide.mk h
  have HPL := place_any h id (by omega)
  obtain ⟨R, hR⟩ : ∃ R, p.unpin id = R := ⟨_, rfl⟩
  rw [hR]
  unfold Pl.unpin at hR
  rcases idxF_at (fun f => decide (f.id = id)) p.frames 0 with e | ⟨k, hkl, e, hq⟩
  · rw [show idxF (fun f => decide (f.id = id)) p.frames 0 = p.place id from rfl] at e
    rw [e] at HPL hR
    rw [if_pos (by decide)] at hR
    replace HPL := Hide.mk HPL
    have HRR := Hide.mk hR.symm
    clear h hR e hlen hfew
    go_enter Tryz.func16, Tryz.ntmps16
    go_wp2_with (first
      | (go_at_call 53
         refine HPL.out.mono ?_
         rintro e w1 ⟨rfl, hb⟩
         have P1 := Hide.mk (H.out.later hb)
         have HK1 := Hide.mk (K8.of_below (w := w) hb)
         clear hb))
    go_ret
    rw [HRR.out]
    exact ⟨rfl, F, v, bs, P1.out⟩
  · rw [show idxF (fun f => decide (f.id = id)) p.frames 0 = p.place id from rfl, Nat.zero_add] at e
    rw [e] at HPL hR
    rw [if_neg (by omega), Int.toNat_natCast] at hR
    replace HPL := Hide.mk HPL
    have hkb : k < bs.length := by omega
    obtain ⟨g, c0, hvg, _, _, _⟩ := Kd.R_form h.arr (by rw [List.length_map]; omega)
    rw [List.length_map] at hvg
    obtain ⟨c, hc⟩ : ∃ d, c0 = d := ⟨_, rfl⟩
    rw [hc] at hvg
    subst hvg
    have HKL := Hide.mk hkb
    have HKE : Hide (((k + 1 : Nat) : Int) = (k : Int) + 1) := ⟨by omega⟩
    have hki : (k : Int) < (bs.length : Int) := by omega
    have hk0 : ¬ (k : Int) < 0 := by omega
    have hkp : (0 : Int) ≤ (k : Int) := by omega
    have hk1 : (k : Int) ≤ 1000 := by omega
    obtain ⟨x, hx⟩ : ∃ x, bs[k] = x := ⟨_, rfl⟩
    have HXB := Hide.mk hx
    obtain ⟨f, hf⟩ : ∃ f, p.frames.getD k Fr.none = f := ⟨_, rfl⟩
    have HFB := Hide.mk hf
    rw [hf] at hR
    have HX : Hide (∀ w2, PIn w w2 b ps pd F (.slice (some ⟨g, 0, none⟩) bs.length c) bs p → w2.cell? ⟨g, k, none⟩ = some (.pointer (some ⟨x, 0, none⟩))) := ⟨fun w2 hp => by
      obtain ⟨hn, _, hC⟩ := Kd.R_reads' hp.arr
      rw [List.length_map] at hC
      obtain ⟨ad, had, hcx⟩ := at_ptr hC (k : Int) (by omega) hki
      cases had
      have hrd : rdOf none (bs.map some) (k : Int) = some bs[k] := by simp [rdOf, List.getD_eq_getElem?_getD, hkb]
      rw [hrd, Int.toNat_natCast, Go.WideShapes.add_plain, Nat.zero_add, hx] at hcx
      exact hcx⟩
    by_cases hz : f.pins = 0
    · rw [if_pos hz] at hR
      have HRR := Hide.mk hR.symm
      have qz : (f.pins == 0) = true := by simp [hz]
      clear h hR e hlen hfew hkl hq hx hf hc
      go_enter Tryz.func16, Tryz.ntmps16
      go_wp2_with (first
        | (go_at_call 53
           refine HPL.out.mono ?_
           rintro e w1 ⟨rfl, hb⟩
           have P1 := Hide.mk (H.out.later hb)
           have HK1 := Hide.mk (K8.of_below (w := w) hb)
           have k2 : w1.cell? ⟨b, 2, none⟩ = some (.slice (some ⟨g, 0, none⟩) bs.length c) := cell_of P1.out.row
           have kx := HX.out _ P1.out
           obtain ⟨vx, hrx, _⟩ := (P1.out.fr HKL.out).ex
           have rwx := hrx
           rw [HXB.out, HFB.out] at rwx
           have k3 : w1.cell? ⟨x, 3, none⟩ = some (.int .i64 f.pins) := cell_of rwx
           have f3 := free_of (i := 3) rwx
           clear hrx rwx
           clear hb))
      go_ret
      rw [HRR.out]
      exact ⟨rfl, F, _, bs, P1.out⟩
    · rw [if_neg hz] at hR
      have HRR := Hide.mk hR.symm
      have qz : (f.pins == 0) = false := by simp [hz]
      clear h hR e hlen hfew hkl hq hx hf hc hz
      go_enter Tryz.func16, Tryz.ntmps16
      go_wp2_with (first
        | (go_at_call 53
           refine HPL.out.mono ?_
           rintro e w1 ⟨rfl, hb⟩
           have P1 := Hide.mk (H.out.later hb)
           have HK1 := Hide.mk (K8.of_below (w := w) hb)
           have k2 : w1.cell? ⟨b, 2, none⟩ = some (.slice (some ⟨g, 0, none⟩) bs.length c) := cell_of P1.out.row
           have kx := HX.out _ P1.out
           obtain ⟨vx, hrx, _⟩ := (P1.out.fr HKL.out).ex
           have rwx := hrx
           rw [HXB.out, HFB.out] at rwx
           have k3 : w1.cell? ⟨x, 3, none⟩ = some (.int .i64 f.pins) := cell_of rwx
           have f3 := free_of (i := 3) rwx
           clear hrx rwx
           clear hb))
      go_ret
      rw [HRR.out]
      have hfx := P1.out.fr HKL.out
      rw [HFB.out] at hfx
      have hs := hfx.set (i := 3) (y := .int .i64 (wrap64 (f.pins - 1))) (f' := { f with pins := wrap64 (f.pins - 1) }) (fun v => by simp) rfl
      have hp := P1.out.set_frame HKL.out hs.2 hs.1
      rw [HXB.out] at hp
      exact ⟨rfl, F, _, bs, hp⟩
theorem pfree_on (h : PAt w wr b ps pd p) (hok : Ok p.S) (hfew : p.frames.length ≤ 900) (id : Int) : Calls Tryz.prog 17 #[.pointer (some ⟨b, 0, none⟩), .int .i64 id] wr fun e w' => e = .returned (.int .i64 (p.free id).2) ∧ PAt w w' b ps pd (p.free id).1 := by
  obtain ⟨F, v, bs, h⟩ := h
  have hlen := h.frs.len
  have H := Hide.mk h
  have HOK := Hide.mk hok
  have HPL := place_any h id (by omega)
  obtain ⟨R, hR⟩ : ∃ R, p.free id = R := ⟨_, rfl⟩
  rw [hR]
  unfold Pl.free at hR
  obtain ⟨S1, E, hfr⟩ : ∃ S1 E, p.S.free id = (S1, E) := ⟨_, _, rfl⟩
  rw [hfr] at hR
  simp only at hR
  have HFE := Hide.mk hfr
  clear hok hfr
  rcases idxF_at (fun f => decide (f.id = id)) p.frames 0 with e | ⟨k, hkl, e, hq⟩
  · rw [show idxF (fun f => decide (f.id = id)) p.frames 0 = p.place id from rfl] at e
    rw [e] at HPL hR
    rw [if_neg (fun h => absurd h.1 (by decide)), if_neg (show ¬ (0 : Int) ≤ -1 by decide)] at hR
    replace HPL := Hide.mk HPL
    by_cases hE : E = 0
    · subst hE
      rw [if_neg (by simp)] at hR
      have HRR := Hide.mk hR.symm
      clear h hR e hlen hfew
      go_enter Tryz.func17, Tryz.ntmps17
      go_wp2_with (first
        | (go_at_call 53
           refine HPL.out.mono ?_
           rintro e w1 ⟨rfl, hb⟩
           have P1 := Hide.mk (H.out.later hb)
           have HK1 := Hide.mk (K8.of_below (w := w) hb)
           have k0 : w1.cell? ⟨b, 0, none⟩ = some (.pointer (some ⟨ps, 0, none⟩)) := cell_of P1.out.row
           have HFR0 := free_any id w1 F p.S P1.out.sh HOK.out
           rw [HFE.out, P1.out.ep] at HFR0
           have HFR := Hide.mk HFR0
           clear HFR0
           clear hb)
        | (go_at_call 23
           with_reducible refine HFR.out.mono ?_
           rintro e w2 ⟨rfl, F2, hs, hg⟩
           have P2 := Hide.mk (P1.out.shadow hs hg)
           clear hs hg))
      go_ret
      rw [HRR.out]
      exact ⟨rfl, F2, v, bs, P2.out⟩
    · rw [if_pos hE] at hR
      have q : (E != 0) = true := by simp [hE]
      have HRR := Hide.mk hR.symm
      clear h hR e hlen hfew hE
      go_enter Tryz.func17, Tryz.ntmps17
      go_wp2_with (first
        | (go_at_call 53
           refine HPL.out.mono ?_
           rintro e w1 ⟨rfl, hb⟩
           have P1 := Hide.mk (H.out.later hb)
           have HK1 := Hide.mk (K8.of_below (w := w) hb)
           have k0 : w1.cell? ⟨b, 0, none⟩ = some (.pointer (some ⟨ps, 0, none⟩)) := cell_of P1.out.row
           have HFR0 := free_any id w1 F p.S P1.out.sh HOK.out
           rw [HFE.out, P1.out.ep] at HFR0
           have HFR := Hide.mk HFR0
           clear HFR0
           clear hb)
        | (go_at_call 23
           with_reducible refine HFR.out.mono ?_
           rintro e w2 ⟨rfl, F2, hs, hg⟩
           have P2 := Hide.mk (P1.out.shadow hs hg)
           clear hs hg))
      go_ret
      rw [HRR.out]
      exact ⟨rfl, F2, v, bs, P2.out⟩
  · rw [show idxF (fun f => decide (f.id = id)) p.frames 0 = p.place id from rfl, Nat.zero_add] at e
    rw [e] at HPL hR
    rw [Int.toNat_natCast] at hR
    replace HPL := Hide.mk HPL
    have hkb : k < bs.length := by omega
    obtain ⟨g, c0, hvg, _, _, _⟩ := Kd.R_form h.arr (by rw [List.length_map]; omega)
    rw [List.length_map] at hvg
    obtain ⟨c, hc⟩ : ∃ d, c0 = d := ⟨_, rfl⟩
    rw [hc] at hvg
    subst hvg
    have HKL := Hide.mk hkb
    have HKE : Hide (((k + 1 : Nat) : Int) = (k : Int) + 1) := ⟨by omega⟩
    have hki : (k : Int) < (bs.length : Int) := by omega
    have hk0 : ¬ (k : Int) < 0 := by omega
    have hkp : (0 : Int) ≤ (k : Int) := by omega
    have hk1 : (k : Int) ≤ 1000 := by omega
    obtain ⟨x, hx⟩ : ∃ x, bs[k] = x := ⟨_, rfl⟩
    have HXB := Hide.mk hx
    obtain ⟨f, hf⟩ : ∃ f, p.frames.getD k Fr.none = f := ⟨_, rfl⟩
    have HFB := Hide.mk hf
    rw [hf] at hR
    have HX : Hide (∀ w2, PIn w w2 b ps pd F (.slice (some ⟨g, 0, none⟩) bs.length c) bs p → w2.cell? ⟨g, k, none⟩ = some (.pointer (some ⟨x, 0, none⟩))) := ⟨fun w2 hp => by
      obtain ⟨hn, _, hC⟩ := Kd.R_reads' hp.arr
      rw [List.length_map] at hC
      obtain ⟨ad, had, hcx⟩ := at_ptr hC (k : Int) (by omega) hki
      cases had
      have hrd : rdOf none (bs.map some) (k : Int) = some bs[k] := by simp [rdOf, List.getD_eq_getElem?_getD, hkb]
      rw [hrd, Int.toNat_natCast, Go.WideShapes.add_plain, Nat.zero_add, hx] at hcx
      exact hcx⟩
    by_cases hz : 0 < f.pins
    · rw [if_pos ⟨hkp, hz⟩] at hR
      have HRR := Hide.mk hR.symm
      clear h hR e hlen hfew hkl hq hx hf hc
      go_enter Tryz.func17, Tryz.ntmps17
      go_wp2_with (first
        | (go_at_call 53
           refine HPL.out.mono ?_
           rintro e w1 ⟨rfl, hb⟩
           have P1 := Hide.mk (H.out.later hb)
           have HK1 := Hide.mk (K8.of_below (w := w) hb)
           have k2 : w1.cell? ⟨b, 2, none⟩ = some (.slice (some ⟨g, 0, none⟩) bs.length c) := cell_of P1.out.row
           have kx := HX.out _ P1.out
           obtain ⟨vx, hrx, _⟩ := (P1.out.fr HKL.out).ex
           have rwx := hrx
           rw [HXB.out, HFB.out] at rwx
           have k3 : w1.cell? ⟨x, 3, none⟩ = some (.int .i64 f.pins) := cell_of rwx
           have f3 := free_of (i := 3) rwx
           clear hrx rwx
           clear hb))
      go_ret
      rw [HRR.out]
      exact ⟨rfl, F, _, bs, P1.out⟩
    · rw [if_neg (fun h => hz h.2), if_pos hkp] at hR
      by_cases hE : E = 0
      · subst hE
        rw [if_neg (by simp)] at hR
        have HRR := Hide.mk hR.symm
        clear h hR e hlen hfew hkl hq hx hf hc
        go_enter Tryz.func17, Tryz.ntmps17
        go_wp2_with (first
          | (go_at_call 53
             refine HPL.out.mono ?_
             rintro e w1 ⟨rfl, hb⟩
             have P1 := Hide.mk (H.out.later hb)
             have HK1 := Hide.mk (K8.of_below (w := w) hb)
             have k2 : w1.cell? ⟨b, 2, none⟩ = some (.slice (some ⟨g, 0, none⟩) bs.length c) := cell_of P1.out.row
             have kx := HX.out _ P1.out
             obtain ⟨vx, hrx, _⟩ := (P1.out.fr HKL.out).ex
             have rwx := hrx
             rw [HXB.out, HFB.out] at rwx
             have k3 : w1.cell? ⟨x, 3, none⟩ = some (.int .i64 f.pins) := cell_of rwx
             have f3 := free_of (i := 3) rwx
             clear hrx rwx
             have k0 : w1.cell? ⟨b, 0, none⟩ = some (.pointer (some ⟨ps, 0, none⟩)) := cell_of P1.out.row
             have HFR0 := free_any id w1 F p.S P1.out.sh HOK.out
             rw [HFE.out, P1.out.ep] at HFR0
             have HFR := Hide.mk HFR0
             clear HFR0
             clear hb)
          | (go_at_call 23
             with_reducible refine HFR.out.mono ?_
             rintro e w2 ⟨rfl, F2, hs, hg⟩
             have P2 := Hide.mk (P1.out.shadow hs hg)
             have k2b : w2.cell? ⟨b, 2, none⟩ = some (.slice (some ⟨g, 0, none⟩) bs.length c) := cell_of P2.out.row
             have HDL0 := delete_any k P2.out.arr HKL.out
             rw [HKE.out] at HDL0
             have HDL := Hide.mk HDL0
             clear HDL0
             clear hs hg)
          | (go_at_call 54
             with_reducible refine HDL.out.mono ?_
             rintro e w4 ⟨rfl, ho4, hg4⟩
             have hz4 := P2.out.frs.erase k
             have nd4 := P2.out.nodup.sublist (List.eraseIdx_sublist bs k)
             obtain ⟨d2, f2, hp4, _⟩ := P2.out.restored (v1 := .slice (some ⟨g, 0, none⟩) (bs.length - 1) c) hg4 ho4 (.inl rfl) nd4 hz4 (fun x hx => .inl (List.mem_of_mem_eraseIdx hx))
             have P4 := Hide.mk hp4
             clear ho4 hg4 hz4 nd4 hp4))
        go_ret
        rw [HRR.out]
        exact ⟨rfl, F2, _, _, P4.out⟩
      · rw [if_pos hE] at hR
        have q : (E != 0) = true := by simp [hE]
        have HRR := Hide.mk hR.symm
        clear h hR e hlen hfew hkl hq hx hf hc hE
        go_enter Tryz.func17, Tryz.ntmps17
        go_wp2_with (first
          | (go_at_call 53
             refine HPL.out.mono ?_
             rintro e w1 ⟨rfl, hb⟩
             have P1 := Hide.mk (H.out.later hb)
             have HK1 := Hide.mk (K8.of_below (w := w) hb)
             have k2 : w1.cell? ⟨b, 2, none⟩ = some (.slice (some ⟨g, 0, none⟩) bs.length c) := cell_of P1.out.row
             have kx := HX.out _ P1.out
             obtain ⟨vx, hrx, _⟩ := (P1.out.fr HKL.out).ex
             have rwx := hrx
             rw [HXB.out, HFB.out] at rwx
             have k3 : w1.cell? ⟨x, 3, none⟩ = some (.int .i64 f.pins) := cell_of rwx
             have f3 := free_of (i := 3) rwx
             clear hrx rwx
             have k0 : w1.cell? ⟨b, 0, none⟩ = some (.pointer (some ⟨ps, 0, none⟩)) := cell_of P1.out.row
             have HFR0 := free_any id w1 F p.S P1.out.sh HOK.out
             rw [HFE.out, P1.out.ep] at HFR0
             have HFR := Hide.mk HFR0
             clear HFR0
             clear hb)
          | (go_at_call 23
             with_reducible refine HFR.out.mono ?_
             rintro e w2 ⟨rfl, F2, hs, hg⟩
             have P2 := Hide.mk (P1.out.shadow hs hg)
             clear hs hg))
        go_ret
        rw [HRR.out]
        exact ⟨rfl, F2, _, bs, P2.out⟩
end
end Go.Proofs.YtgmkbcoahilkhaaGreat.Pool
end
section
namespace Go.Proofs.YtgmkbcoahilkhaaGreat.Pool
open Go.RowKit Go.Sort Go.Shelf Go.Proofs.YtgmkbcoahilkhaaGreatW.PrintWords Go.Proofs.YtgmkbcoahilkhaaGreatW.PrintLast Go.Proofs.YtgmkbcoahilkhaaGreatW.PrintMore Go.Proofs.YtgmkbcoahilkhaaGreat.MapFn Go.Proofs.YtgmkbcoahilkhaaGreat.Disk Go.Proofs.YtgmkbcoahilkhaaGreat.Page Go.Proofs.YtgmkbcoahilkhaaGreat.Num Go.Proofs.YtgmkbcoahilkhaaGreat.Bitset Go.Proofs.YtgmkbcoahilkhaaGreat.Sh
set_option linter.unusedVariables false
set_option linter.unusedSimpArgs false
set_option maxHeartbeats 8000000
set_option maxRecDepth 100000
section
variable {w wr w1 w' : World} {b ps pd : Nat} {p : Pl}
def sortL (l : List Int) : List Int := l.mergeSort fun x y => decide (x ≤ y)
theorem sort_own {base : Nat} {ok : Nat → Prop} {v : Value} {l : List Int} (h : Kd.R (Kd.int .i64) 3 wr base ok v l) (hl : l.length ≤ 100000) :
    Calls Tryz.prog 52 #[v] wr fun e w' => e = .returned (.tuple #[]) ∧ Kd.R (Kd.int .i64) 3 w' base ok v (sortL l) ∧ wr.grownBy w' v.ownBlock := by
  have hs : (sortL l).length = l.length := List.length_mergeSort l
  cases l with
  | nil =>
    obtain ⟨A, c, rfl⟩ := Kd.R_slice h
    refine (AnyM.slices_Sort_int_none Tryz.sortA A c wr).mono ?_
    rintro e w' ⟨rfl, rfl⟩
    exact ⟨rfl, by rw [show sortL [] = [] from List.mergeSort_nil]; exact h, ⟨rfl, rfl, rfl, Nat.le_refl _, fun _ _ _ => rfl⟩⟩
  | cons x r =>
    have ho := Kd.own_of_R (enc := Value.int .i64) (h1 := fun _ => rfl) h
    rcases ho.2 with ⟨_, e⟩ | ⟨g, cap, cur, rfl, hb, hrow, hn, hm, hsz, ht⟩
    · simp at e
    · refine (AnyM.slices_Sort_int Tryz.sortA g 0 cap (x :: r) wr (holds_of_blockI hrow (by rw [Nat.mul_one] at ht; exact ht)) (lt_of_row hrow) (by omega)).mono ?_
      rintro e w' ⟨rfl, n, os, rfl⟩
      refine ⟨rfl, Kd.R_of_own (enc := Value.int .i64) (h1 := fun _ => rfl) ?_ h.1, grownBy_sortedI _⟩
      have := ownsRow_sortedI (w := wr) (n := n) (os := os) (ss := x :: r) (ts := sortL (x :: r)) hs hb hrow hn hm hsz
      rw [hs]
      exact this
theorem held_on {w0 : World} (h : PAt w w0 b ps pd p) (hfew : p.frames.length ≤ 900) : Calls Tryz.prog 15 #[.pointer (some ⟨b, 0, none⟩)] w0 fun e w' => ∃ A c, e = .returned (.slice A p.held.length c) ∧ In .i64 w' A p.held c ∧ (∀ a, A = some a → w0.heap.size ≤ a.block) ∧ PAt w w' b ps pd p := by
  obtain ⟨F, v, bs, h⟩ := h
  have hlen := h.frs.len
  obtain ⟨A, c, hv, hC⟩ := h.slice
  have H := Hide.mk h
  have HC := Hide.mk hC
  have HL := Hide.mk hlen
  have hn : bs.length ≤ 900 := by omega
  obtain ⟨L, hL⟩ : ∃ L, p.frames.map (·.id) = L := ⟨_, rfl⟩
  have hLl : L.length = bs.length := by rw [← hL, List.length_map]; omega
  have HE := Hide.mk hL
  have HLL := Hide.mk hLl
  subst hv
  have c2 : w0.cell? ⟨b, 2, none⟩ = some (.slice A bs.length c) := cell_of h.row
  clear h hlen hC hfew hL hLl
  go_enter Tryz.func15, Tryz.ntmps15
  go_wp2
  go_loopw [3, 13] (fun v3 v13 wx => ∃ (i : Nat) (A3 : Option Addr) (c3 : Nat), v13 = .int .i64 (i : Int) ∧ v3 = .slice A3 i c3 ∧ Hide (i ≤ bs.length) ∧ Hide (Kd.R (Kd.int .i64) 3 wx w0.heap.size (fun _ => True) (.slice A3 i c3) (L.take i)) ∧ Hide (Below w0.heap.size w0 wx)) (fun _ v13 _ => bs.length - (intOf v13).toNat)
  case atStart => exact ⟨0, none, 0, by first | rfl | simp, rfl, ⟨Nat.zero_le _⟩, ⟨Kd.R_nil _ _ _ _ _⟩, ⟨Below.refl _ _⟩⟩
  case round =>
    obtain ⟨i, A3, c3, rfl, rfl, hi, hO, hB⟩ := hrel
    by_cases hlt0 : i < bs.length
    · have hlt : (i : Int) < (bs.length : Int) := by omega
      obtain ⟨ad, rfl, hcell⟩ := at_ptr (Kd.C_below HC.out hB.out) (i : Int) (by omega) hlt
      rw [Int.toNat_natCast] at hcell
      have hfr := H.out.fr hlt0
      have hil : i < L.length := by rw [HLL.out]; exact hlt0
      have hid : (p.frames.getD i Fr.none).id = L[i] := by
        have hf : i < p.frames.length := by have := HL.out; omega
        rw [List.getD_eq_getElem?_getD, List.getElem?_eq_getElem hf]
        have : L[i]? = (p.frames.map (·.id))[i]? := by rw [HE.out]
        rw [List.getElem?_map, List.getElem?_eq_getElem hf, List.getElem?_eq_getElem hil] at this
        simpa using this.symm
      have hrd : rdOf none (bs.map some) (i : Int) = some bs[i] := by simp [rdOf, List.getD_eq_getElem?_getD, hlt0]
      rw [hrd] at hcell
      obtain ⟨vx, hrx, _⟩ := hfr.ex
      rw [hid] at hrx
      have NX : Hide (L.take (i + 1) = L.take i ++ [L[i]]) := ⟨by rw [List.take_add_one, List.getElem?_eq_getElem hil]; rfl⟩
      have HTL : Hide ((L.take i).length = i) := ⟨by rw [List.length_take]; omega⟩
      generalize bs[i] = x at *
      generalize L[i] = y at *
      have hcell2 : wr.cell? (ad.add i) = some (.pointer (some ⟨x, 0, none⟩)) := hcell
      have kx : wr.cell? ⟨x, 0, none⟩ = some (.int .i64 y) := pw_cell_below hB.out (show w0.cell? ⟨x, 0, none⟩ = some (.int .i64 y) from cell_of hrx)
      have LT := Hide.mk hlt0
      clear hcell hfr hid hrd hrx hlt0 hil
      go_wp2_with ((with_reducible refine gate_builtin (b := .append) (xs := #[.tmp 17, .tmp 22]) rfl ?_); at_builtin
                   refine Kd.R_append (Kd.int .i64) (w0 := wr) w0.heap.size rfl (.tmp 17) (.tmp 22) 38 3 (.int .i64 0) 8 rfl Tryz.underlying38 infoI rfl (by decide) (by omega) (.slice A3 i c3) (L.take i) y [.int .i64 y] (fun _ => True) (fun _ => False) rfl rfl rfl (fun _ h => h.elim) (fun _ _ => trivial) hO.out (Below.refl _ _) hB.out.size (by rw [HTL.out]; omega) ?_
                   intro v4 w4 ho hb hg hat
                   rw [← NX.out] at ho
                   obtain ⟨A4, c4, hv4⟩ := Kd.R_slice ho
                   have hl4 : (L.take (i + 1)).length = i + 1 := by rw [NX.out, List.length_append, HTL.out]; rfl
                   rw [hl4] at hv4
                   subst hv4
                   have O4 := Hide.mk ho
                   have B4 := Hide.mk hb
                   clear ho hb hg hat hl4)
      go_roundw
      case rel => exact ⟨i + 1, A4, c4, by go_num, rfl, ⟨by have := LT.out; omega⟩, O4, ⟨hB.out.trans B4.out⟩⟩
      case measure => have := LT.out; simp [intOf]; omega
    · have hlt : ¬ (i : Int) < (bs.length : Int) := by omega
      have E := Hide.mk (show i = bs.length by have := hi.out; omega)
      have hO2 := hO.out
      rw [E.out, ← HLL.out, List.take_length] at hO2
      have HSO0 := sort_own hO2 (by rw [HLL.out]; omega)
      rw [HLL.out, ← E.out] at HSO0
      have HSO := Hide.mk HSO0
      clear hlt0 hO2 HSO0
      go_wp2_with (go_at_call 52; refine HSO.out.mono ?_; rintro e w5 ⟨rfl, ho, hg⟩; have O5 := Hide.mk ho; have G5 := Hide.mk hg; clear ho hg)
      go_ret
      obtain ⟨A6, c6, hv6, hi6, hge6⟩ := In.of_own O5.out
      have hsl : (sortL L).length = i := by rw [E.out, ← HLL.out]; exact List.length_mergeSort L
      have hh : p.held = sortL L := by unfold Pl.held; rw [HE.out]; rfl
      rw [hsl] at hv6
      cases hv6
      have hbw : Below w0.heap.size w0 w5 := hB.out.grown G5.out hB.out.size (fun k hk => by cases A3 with | none => cases hk | some a => cases hk; exact hge6 a rfl)
      exact ⟨A3, c3, by rw [hh, hsl]; rfl, by rw [hh]; exact hi6, hge6, F, _, bs, H.out.later hbw⟩
theorem hits_on (h : PAt w wr b ps pd p) : Calls Tryz.prog 38 #[.pointer (some ⟨b, 0, none⟩)] wr fun e w' => e = .returned (.int .i64 p.hits) ∧ w' = wr := by
  obtain ⟨F, v, bs, h⟩ := h
  have c3 : wr.cell? ⟨b, 3, none⟩ = some (.int .i64 p.hits) := cell_of h.row
  clear h
  go_enter Tryz.func38, Tryz.ntmps38
  go_wp2
  go_ret
  exact ⟨rfl, rfl⟩
theorem misses_on (h : PAt w wr b ps pd p) : Calls Tryz.prog 39 #[.pointer (some ⟨b, 0, none⟩)] wr fun e w' => e = .returned (.int .i64 p.misses) ∧ w' = wr := by
  obtain ⟨F, v, bs, h⟩ := h
  have c4 : wr.cell? ⟨b, 4, none⟩ = some (.int .i64 p.misses) := cell_of h.row
  clear h
  go_enter Tryz.func39, Tryz.ntmps39
  go_wp2
  go_ret
  exact ⟨rfl, rfl⟩
theorem pnew_on {S : Sh} (h : On w wr ps pd S) (n : Int) (h1 : 1 ≤ n) (h2 : n ≤ 64) : Calls Tryz.prog 11 #[.pointer (some ⟨ps, 0, none⟩), .int .i64 n] wr fun e w' => ∃ b, e = .returned (.tuple #[.pointer (some ⟨b, 0, none⟩), .int .i64 0]) ∧ PAt w w' b ps pd (Pl.new S n) := by
  obtain ⟨⟨F, hs, ep, epd, ho⟩, hb⟩ := h
  refine (poolnew_any n hs ep epd ho hb h1 h2).mono ?_
  rintro e w2 ⟨b, rfl, hp⟩
  exact ⟨b, rfl, F, _, _, hp⟩
theorem PAt.below (h : PAt w wr b ps pd p) : Below w.heap.size w wr := by obtain ⟨_, _, _, h⟩ := h; exact h.below
theorem PAt.later (h : PAt w wr b ps pd p) (hb : Below wr.heap.size wr w') : PAt w w' b ps pd p := by obtain ⟨F, v, bs, h⟩ := h; exact ⟨F, v, bs, h.later hb⟩
end
end Go.Proofs.YtgmkbcoahilkhaaGreat.Pool
end
section
namespace Go.Proofs.YtgmkbcoahilkhaaGreat.Pool
open Go.RowKit Go.Proofs.YtgmkbcoahilkhaaGreatW.PrintWords Go.Proofs.YtgmkbcoahilkhaaGreatW.PrintLast Go.Proofs.YtgmkbcoahilkhaaGreatW.PrintMore Go.Proofs.YtgmkbcoahilkhaaGreat.MapFn Go.Proofs.YtgmkbcoahilkhaaGreat.Disk Go.Proofs.YtgmkbcoahilkhaaGreat.Page Go.Proofs.YtgmkbcoahilkhaaGreat.Num Go.Proofs.YtgmkbcoahilkhaaGreat.Bitset Go.Proofs.YtgmkbcoahilkhaaGreat.Sh
set_option linter.unusedVariables false
set_option linter.unusedSimpArgs false
set_option maxHeartbeats 8000000
set_option maxRecDepth 100000
section
variable {w wr w1 w' : World} {b ps pd : Nat} {p : Pl}
theorem pset_on (h : PAt w wr b ps pd p) (hg : Good p) (id kind : Int) {A : Option Addr} {c : Nat} {body : List Int} (hr : In8 w wr A body c) (hb : Bytes body) (hsh : body.length ≤ 1000) :
    Calls Tryz.prog 37 #[.pointer (some ⟨b, 0, none⟩), .int .i64 id, .int .i64 kind, .slice A body.length c] wr fun e w' => e = .returned (.int .i64 (p.set id kind body).2) ∧ PAt w w' b ps pd (p.set id kind body).1 := by
  have HF0 := fetch_on h hg id
  have HI := Hide.mk hr
  have HBB := Hide.mk hb
  have HSH := Hide.mk hsh
  obtain ⟨R, hR⟩ : ∃ R, p.set id kind body = R := ⟨_, rfl⟩
  rw [hR]
  unfold Pl.set at hR
  obtain ⟨p2, e2, hfe⟩ : ∃ p2 e2, p.fetch id = (p2, e2) := ⟨_, _, rfl⟩
  rw [hfe] at HF0 hR
  simp only at HF0 hR
  obtain ⟨nb, hnb⟩ : ∃ n, body.length = n := ⟨_, rfl⟩
  rw [hnb]
  have HNN := Hide.mk hnb
  clear h hg hfe hr hb hsh
  by_cases h0 : e2 = 0
  · subst h0
    rw [if_neg (by simp)] at hR
    simp only [ptrOf_ok] at HF0
    have HF := Hide.mk HF0
    clear HF0
    by_cases h1 : sealE kind 1 body.length = 0
    · rw [if_neg (by simpa using h1)] at hR
      have HE1 := Hide.mk h1
      have HRR := Hide.mk hR.symm
      clear hR h1 hnb
      go_enter Tryz.func37, Tryz.ntmps37
      go_wp2_with (first
        | (go_at_call 51
           with_reducible refine HF.out.mono ?_
           rintro e w2 ⟨F2, v2, bs2, x, rfl, hp, hlast, hk8⟩
           obtain ⟨bs0, hbs⟩ := hlast trivial
           rw [hbs] at hp
           have P2 := Hide.mk hp
           have I2 := Hide.mk (HI.out.keep hk8)
           have HSE0 := seal_ok kind 1 A c body w2 I2.out.in_.reads HBB.out HE1.out
           rw [HNN.out] at HSE0
           have HSE := Hide.mk HSE0
           clear hp hlast hbs hk8 HSE0)
        | (go_at_call 60
           with_reducible refine HSE.out.mono ?_
           rintro e w3 ⟨v3, rfl, _, hb⟩
           obtain ⟨z3, hz3⟩ : ∃ z, v3 = z := ⟨_, rfl⟩
           subst hz3
           have P3 := Hide.mk (P2.out.later hb)
           have I3 := Hide.mk (I2.out.keep (K8.of_below (w := w) hb))
           have HCL0 := Given.clone_any A c body w3 I3.out.in_.reads I3.out.in_.room (by have := HSH.out; omega)
           rw [HNN.out] at HCL0
           have HCL := Hide.mk HCL0
           clear hb HCL0)
        | (go_at_call 50
           with_reducible refine HCL.out.mono ?_
           rintro e w5 ⟨v5, rfl, ho, hb⟩
           obtain ⟨A5, c5, hv5, _, _⟩ := In.of_own ho
           rw [HNN.out] at hv5
           subst hv5
           have P5 := Hide.mk (P3.out.later hb)
           have O5 := Hide.mk ho
           have HSZ3 := Hide.mk P3.out.below.size
           obtain ⟨vb, hrow, _⟩ := P5.out.last.1.ex
           have HROW := Hide.mk hrow
           have f1 := free_of (i := 1) hrow
           have k1 : w5.cell? ⟨x, 1, none⟩ = some (.int .i64 p2.last.kind) := cell_of hrow
           have hs1 := set_row (i := 1) hrow (.int .i64 kind)
           have f2 := free_of (i := 2) hs1
           have k2 : w5.cell? ⟨x, 2, none⟩ = some vb := cell_of hrow
           have k2b : (w5.setCell ⟨x, 1, none⟩ (.int .i64 kind)).cell? ⟨x, 2, none⟩ = some vb := by rw [cell_of hs1]; simp
           have hs2 := set_row (i := 2) hs1 (.slice A5 nb c5)
           have f4 := free_of (i := 4) hs2
           have k4 : w5.cell? ⟨x, 4, none⟩ = some (.bool p2.last.dirty) := cell_of hrow
           have k4b : ((w5.setCell ⟨x, 1, none⟩ (.int .i64 kind)).setCell ⟨x, 2, none⟩ (.slice A5 nb c5)).cell? ⟨x, 4, none⟩ = some (.bool p2.last.dirty) := by rw [cell_of hs2]; simp
           clear ho hb hrow hs1 hs2))
      go_ret
      rw [HRR.out]
      have hs1 := set_row (i := 1) HROW.out (.int .i64 kind)
      have hs2 := set_row (i := 2) hs1 (.slice A5 nb c5)
      have hs4 := set_row (i := 4) hs2 (.bool true)
      have hm : Moves [x] w5 (((w5.setCell ⟨x, 1, none⟩ (.int .i64 kind)).setCell ⟨x, 2, none⟩ (.slice A5 nb c5)).setCell ⟨x, 4, none⟩ (.bool true)) := ((Moves.of_grown (set_cell_grown _)).trans (Moves.of_grown (set_cell_grown _))).trans (Moves.of_grown (set_cell_grown _))
      refine ⟨rfl, F2, v2, _, P5.out.set_last hm ⟨⟨.slice A5 nb c5, by simpa using hs4, ?_⟩, P5.out.last.1.ge, HBB.out, HSH.out⟩⟩
      refine R_moves (Kd.R_lower O5.out HSZ3.out) hm fun g hgo hgs => ?_
      simp only [List.mem_singleton] at hgs
      subst hgs
      obtain ⟨cells, hc⟩ := typed O5.out g hgo
      exact ne_of_types hc HROW.out (by decide) rfl
    · rw [if_pos h1] at hR
      have HE1 := Hide.mk h1
      obtain ⟨es, hes⟩ : ∃ z, sealE kind 1 body.length = z := ⟨_, rfl⟩
      rw [hes] at hR h1
      have HES := Hide.mk hes
      have q : (es != 0) = true := by simp [h1]
      have HRR := Hide.mk hR.symm
      clear hR h1 hnb hes
      go_enter Tryz.func37, Tryz.ntmps37
      go_wp2_with (first
        | (go_at_call 51
           with_reducible refine HF.out.mono ?_
           rintro e w2 ⟨F2, v2, bs2, x, rfl, hp, hlast, hk8⟩
           obtain ⟨bs0, hbs⟩ := hlast trivial
           have P2 := Hide.mk hp
           have I2 := Hide.mk (HI.out.keep hk8)
           have HSE0 := seal_bad kind 1 A c body.length w2 HE1.out
           rw [HES.out, HNN.out] at HSE0
           have HSE := Hide.mk HSE0
           clear hp hlast hbs hk8 HSE0)
        | (go_at_call 60
           with_reducible refine HSE.out.mono ?_
           rintro e w3 ⟨rfl, hb⟩
           have P3 := Hide.mk (P2.out.later hb)
           have I3 := Hide.mk (I2.out.keep (K8.of_below (w := w) hb))
           clear hb))
      go_ret
      rw [HRR.out]
      exact ⟨rfl, F2, v2, bs2, P3.out⟩
  · rw [if_pos h0] at hR
    have q : (e2 != 0) = true := by simp [h0]
    simp only [ptrOf_bad h0] at HF0
    have HF := Hide.mk HF0
    have HRR := Hide.mk hR.symm
    clear HF0 hR h0 hnb
    go_enter Tryz.func37, Tryz.ntmps37
    go_wp2_with (first
      | (go_at_call 51
         with_reducible refine HF.out.mono ?_
         rintro e w2 ⟨F2, v2, bs2, x, rfl, hp, hlast, hk8⟩
         have P2 := Hide.mk hp
         clear hp hlast))
    go_ret
    rw [HRR.out]
    exact ⟨rfl, F2, v2, bs2, P2.out⟩
end
end Go.Proofs.YtgmkbcoahilkhaaGreat.Pool
end
