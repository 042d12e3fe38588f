/- The words, and the contracts of the functions that are reached, one behind the other. -/
import Derived.Test.YtgmkbcoahilkhaaGreatSFE
section
namespace Go.Proofs.YtgmkbcoahilkhaaGreat.Sh
open Go.RowKit Go.Proofs.YtgmkbcoahilkhaaGreat.Disk Go.Proofs.YtgmkbcoahilkhaaGreat.Page Go.Proofs.YtgmkbcoahilkhaaGreat.Num Go.Proofs.YtgmkbcoahilkhaaGreat.Bitset
set_option linter.unusedVariables false
def Root.same (a b : Root) : Bool := decide (a.epoch = b.epoch) && decide (a.blocks = b.blocks) && decide (a.next = b.next) && decide (a.start = b.start) && decide (a.tables = b.tables) && decide (a.maps = b.maps)
theorem Root.same_eq {a b : Root} (h : a.same b = true) : a = b := by
  simp only [Root.same, Bool.and_eq_true, decide_eq_true_eq] at h
  cases a; cases b
  simp_all
def Sh.same (a b : Sh) : Bool := a.root.same b.root && decide (a.was = b.was) && decide (a.used = b.used) && decide (a.table = b.table) && decide (a.start = b.start) && decide (a.fresh = b.fresh) && (a.dirty == b.dirty) && (a.bad == b.bad)
theorem Sh.same_eq {a b : Sh} (h : a.same b = true) (hD : a.D = b.D) : a = b := by
  simp only [Sh.same, Bool.and_eq_true, decide_eq_true_eq, beq_iff_eq] at h
  obtain ⟨⟨⟨⟨⟨⟨⟨h1, h2⟩, h3⟩, h4⟩, h5⟩, h6⟩, h7⟩, h8⟩ := h
  have := Root.same_eq h1
  cases a; cases b
  simp_all
theorem sealE_small {kind id : Int} {n : Nat} (h : n ≤ 246) : sealE kind id n = sealE kind id 0 := by
  unfold sealE
  rw [if_neg (show ¬ 246 < n by omega), if_neg (show ¬ 246 < 0 by omega)]
theorem qalloc_small (s : Sh) (kind : Int) {n : Nat} (h : n ≤ 246) : s.qalloc kind n = s.qalloc kind 0 := by
  unfold Sh.qalloc
  rw [sealE_small h, sealE_small h]
def bitsByte (k j : Nat) : Int := ((List.range 8).map fun t => if 3 ≤ 8 * j + t ∧ 8 * j + t < k + 3 then (2 : Int) ^ (7 - t) else 0).sum
def filled (n k : Nat) : Sh :=
  { D := DiskSt.new n, root := firstRoot n, was := [0], used := 224 :: List.replicate ((n + 7) / 8 - 1) 0, table := 0 :: (List.range k).map fun i => ((3 + i : Nat) : Int), start := 0,
    fresh := (List.range ((n + 7) / 8)).map (bitsByte k), dirty := decide (0 < k), bad := false }
def allocTo (s : Sh) (t : Sh) (id : Int) (e : Int) : Bool :=
  match s.qalloc 5 0 with
  | some (s', i, e') => s'.same t && decide (i = id) && decide (e' = e)
  | none => false
theorem qalloc_D {q q1 : Sh} {kind id e : Int} {n : Nat} (h : q.qalloc kind n = some (q1, id, e)) : q1.D = q.D := by
  unfold Sh.qalloc at h
  split at h
  · simp only [Option.some.injEq, Prod.mk.injEq] at h; rw [← h.1]
  · split at h
    · simp only [Option.some.injEq, Prod.mk.injEq] at h; rw [← h.1]
    · split at h
      · simp only [Option.some.injEq, Prod.mk.injEq] at h; rw [← h.1]
      · split at h
        · simp only [Option.some.injEq, Prod.mk.injEq] at h; rw [← h.1]
        · split at h
          · simp only [Option.some.injEq, Prod.mk.injEq] at h; rw [← h.1]; rfl
          · cases h
theorem allocTo_eq {s t : Sh} {id e : Int} (h : allocTo s t id e = true) (hD : s.D = t.D) : s.qalloc 5 0 = some (t, id, e) := by
  unfold allocTo at h
  split at h
  · rename_i s' i e' hq
    simp only [Bool.and_eq_true, decide_eq_true_eq] at h
    have := Sh.same_eq h.1.1 (by rw [qalloc_D hq, hD])
    rw [hq, this, h.1.2, h.2]
  · cases h
def fillsAt (n : Nat) : Bool := (List.range (n - 3)).all fun k => allocTo (filled n k) (filled n (k + 1)) ((k + 1 : Nat) : Int) 0
def formatsAt (n : Nat) : Bool :=
  match Sh.qformat n with
  | some (s, e) => s.same (filled n 0) && decide (e = 0)
  | none => false
def afterAt (n : Nat) : Bool :=
  let s := filled n (n - 3)
  allocTo s s 0 10 && (match s.qcommit with | some (s', e) => s'.same s && decide (e = 10) | none => false) && decide (s.ids.length = n - 3) && s.dirty &&
  (let a := s.free 1
   let b := a.1.free 2
   decide (a.2 = 0) && decide (b.2 = 0) &&
   (match b.1.qcommit with
    | some (c, e) => decide (e = 0) && decide (c.usedN = n - 1) &&
      (match c.qalloc 5 0 with
       | some (d, _, e) => decide (e = 0) && allocTo d d 0 10 && decide (d.abort.2 = 0) && decide (d.abort.1.ids.length = n - 5)
       | none => false)
    | none => false))
theorem fills_all : (List.range 53).all (fun b => formatsAt (8 + b) && fillsAt (8 + b) && afterAt (8 + b)) = true := by decide +kernel
end Go.Proofs.YtgmkbcoahilkhaaGreat.Sh
end
