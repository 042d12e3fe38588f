/- The words, and the contracts of the functions that are reached, one behind the other. -/
import Derived.Test.YtplkndmkchpcdaaGreatPSD
set_option linter.unusedVariables false
set_option linter.unusedSimpArgs false
section
namespace Go.Proofs.YtplkndmkchpcdaaGreat.Pool
open Go.RowKit Disk Page Num Bitset MapFn Sh
structure PDB (p : Pl) : Prop where
  db : DB p.S.D
  frs : ∀ f ∈ p.frames, Bytes f.body
section
variable {p : Pl}
theorem PDB.at_ (h : PDB p) (k : Nat) : Bytes (p.frames.getD k Fr.none).body := by
  rw [List.getD_eq_getElem?_getD]
  cases hk : p.frames[k]? with
  | none => exact fun x hx => by cases hx
  | some f => exact h.frs f (List.mem_of_getElem? hk)
theorem PDB.new {S : Sh} (h : DB S.D) (n : Int) : PDB (Pl.new S n) := ⟨h, fun f hf => by cases hf⟩
theorem PDB.flush (h : PDB p) (k : Nat) : PDB (p.flush k).1 := by
  unfold Pl.flush
  simp only
  split
  · exact h
  · split
    · exact ⟨h.db.shwrite _ _ (h.at_ k), h.frs⟩
    · refine ⟨h.db.shwrite _ _ (h.at_ k), fun f hf => ?_⟩
      rcases List.mem_or_eq_of_mem_set hf with q | q
      · exact h.frs f q
      · rw [q]; exact h.at_ k
theorem PDB.room (h : PDB p) : PDB p.room.1 := by
  unfold Pl.room
  split
  · exact h
  · split
    · exact h
    · split
      · exact h.flush _
      · exact ⟨(h.flush _).db, fun f hf => (h.flush _).frs f (List.mem_of_mem_eraseIdx hf)⟩
theorem PDB.hold (h : PDB p) {f : Fr} (hf : Bytes f.body) : PDB (p.hold f) := ⟨h.db, fun g hg => by
  rcases List.mem_append.1 hg with q | q
  · exact h.frs g q
  · rw [List.mem_singleton.1 q]; exact hf⟩
theorem DB.shread {s : Sh} (h : DB s.D) (id : Int) : DB (s.read id).1.D := by
  unfold Sh.read
  repeat' split
  all_goals first | exact h | exact h.read | skip
  all_goals simp only; (repeat' split) <;> first | exact h | exact h.read
theorem PDB.fetch (h : PDB p) (id : Int) : PDB (p.fetch id).1 := by
  unfold Pl.fetch
  split
  · exact PDB.hold (p := { p with hits := wrap64 (p.hits + 1), frames := p.frames.eraseIdx (p.place id).toNat }) ⟨h.db, fun f hf => h.frs f (List.mem_of_mem_eraseIdx hf)⟩ (h.at_ _)
  · have h0 : PDB ({ p with misses := wrap64 (p.misses + 1) } : Pl) := ⟨h.db, h.frs⟩
    have h1 := h0.room
    simp only
    split
    · exact h1
    · have h2 := DB.shread h1.db id
      split
      · exact ⟨h2, h1.frs⟩
      · show PDB (Pl.hold _ _)
        refine PDB.hold ?_ ?_
        · exact PDB.mk h2 h1.frs
        exact read_bytes h1.db.get id
theorem PDB.get (h : PDB p) (id : Int) : PDB (p.get id).1 := by
  unfold Pl.get
  split
  · exact h.fetch id
  · exact h.fetch id
theorem PDB.setLast (h : PDB p) {f : Fr} (hf : Bytes f.body) : PDB (p.setLast f) := ⟨h.db, fun g hg => by
  rcases List.mem_or_eq_of_mem_set hg with q | q
  · exact h.frs g q
  · rw [q]; exact hf⟩
theorem PDB.set (h : PDB p) (id kind : Int) {body : List Int} (hb : Bytes body) : PDB (p.set id kind body).1 := by
  unfold Pl.set
  split
  · exact h.fetch id
  · split
    · exact h.fetch id
    · exact (h.fetch id).setLast hb
theorem PDB.pin (h : PDB p) (id : Int) : PDB (p.pin id).1 := by
  unfold Pl.pin
  split
  · exact h.fetch id
  · exact (h.fetch id).setLast ((h.fetch id).at_ _)
theorem PDB.alloc (h : PDB p) (kind : Int) {body : List Int} (hb : Bytes body) : PDB (p.alloc kind body).1 := by
  unfold Pl.alloc
  split
  · exact h.room
  · have h1 := h.room.db.alloc kind hb
    simp only
    split
    · exact ⟨h1, h.room.frs⟩
    · show PDB (Pl.hold _ _)
      refine PDB.hold ?_ ?_
      · exact PDB.mk h1 h.room.frs
      exact hb
def goodB (p : Pl) : Bool := okB p.S && okB ({ p with misses := wrap64 (p.misses + 1) } : Pl).room.1.S && decide (p.frames.length ≤ 900)
theorem goodB_ok (h : goodB p = true) (hb : PDB p) : Good p := by
  unfold goodB at h
  simp only [Bool.and_eq_true, decide_eq_true_eq] at h
  have h0 : PDB ({ p with misses := wrap64 (p.misses + 1) } : Pl) := ⟨hb.db, hb.frs⟩
  exact ⟨okB_ok h.1.1, okB_ok h.1.2, h0.room.db.get, h.2⟩
end
def p0 : Pl := Pl.new awF.1 1
def pA : Pl × Int × Int := p0.alloc 5 [97]
def pB : Pl × Int × Int := pA.1.alloc 5 [98]
def pS : Pl × Int := pB.1.set 2 5 [99]
def pG : Pl × Int × List Int × Int := pS.1.get 1
def pH : Pl × Int × List Int × Int := pG.1.get 2
def pI : Pl × Int := pH.1.pin 2
def pJ : Pl × Int := pI.1.pin 1
theorem aw8_a : (decide (pA.2 = (1, 0)) && decide (pB.2 = (2, 0)) && decide (pB.1.frames.length = 1) && okB p0.S && okB p0.room.1.S && okB pA.1.S && okB pA.1.room.1.S && decide (pA.1.frames.length ≤ 900)) = true := by decide +kernel
theorem aw8_s : (decide (pS.2 = 0) && goodB pB.1 && goodB pS.1) = true := by decide +kernel
theorem aw8_g : (decide (pG.2 = (5, [97], 0)) && goodB pG.1) = true := by decide +kernel
theorem aw8_h : (decide (pH.2 = (5, [99], 0)) && goodB pH.1 && decide (pH.1.hits = 1) && decide (pH.1.misses = 2)) = true := by decide +kernel
theorem aw8_i : (decide (pI.2 = 0) && goodB pI.1 && decide (pJ.2 = 14)) = true := by decide +kernel
theorem aw8_facts : ∃ sF pA pB pS pG pH pI, Sh.format (DiskSt.new 20) = (sF, 0) ∧ (Ok (Pl.new sF 1).S ∧ Ok (Pl.new sF 1).room.1.S ∧ (Pl.new sF 1).alloc 5 [97] = (pA, 1, 0)) ∧ (Ok pA.S ∧ Ok pA.room.1.S ∧ pA.frames.length ≤ 900 ∧ pA.alloc 5 [98] = (pB, 2, 0)) ∧
    (pB.held.length = 1 ∧ Good pB ∧ pB.set 2 5 [99] = (pS, 0)) ∧ (Good pS ∧ pS.get 1 = (pG, 5, [97], 0)) ∧ (Good pG ∧ pG.get 2 = (pH, 5, [99], 0)) ∧ (Good pH ∧ pH.hits = 1 ∧ pH.misses = 2 ∧ pH.pin 2 = (pI, 0)) ∧ Good pI ∧ (pI.pin 1).2 = 14 := by
  have ha := aw8_a
  have hs := aw8_s
  have hg := aw8_g
  have hh := aw8_h
  have hi := aw8_i
  have h0 := aw_format
  simp only [Bool.and_eq_true, decide_eq_true_eq] at ha hs hg hh hi h0
  have d0 : PDB p0 := PDB.new (DB.format (DB.new 20)) 1
  have dA : PDB pA.1 := d0.alloc 5 (bytesB_ok (by decide))
  have dB : PDB pB.1 := dA.alloc 5 (bytesB_ok (by decide))
  have dS : PDB pS.1 := dB.set 2 5 (bytesB_ok (by decide))
  have dG : PDB pG.1 := dS.get 1
  have dH : PDB pH.1 := dG.get 2
  have dI : PDB pI.1 := dH.pin 2
  obtain ⟨⟨⟨⟨⟨⟨⟨a1, a2⟩, a3⟩, a4⟩, a5⟩, a6⟩, a7⟩, a8⟩ := ha
  refine ⟨awF.1, pA.1, pB.1, pS.1, pG.1, pH.1, pI.1, ?_, ⟨okB_ok a4, okB_ok a5, ?_⟩, ⟨okB_ok a6, okB_ok a7, a8, ?_⟩, ⟨?_, goodB_ok hs.1.2 dB, ?_⟩, ⟨goodB_ok hs.2 dS, ?_⟩, ⟨goodB_ok hg.2 dG, ?_⟩, ⟨goodB_ok hh.1.1.2 dH, hh.1.2, hh.2, ?_⟩, goodB_ok hi.1.2 dI, hi.2⟩
  · show awF = (awF.1, 0); rw [← h0.1]
  · show pA = (pA.1, 1, 0); rw [← a1]
  · show pB = (pB.1, 2, 0); rw [← a2]
  · unfold Pl.held; rw [List.length_mergeSort, List.length_map]; exact a3
  · show pS = (pS.1, 0); rw [← hs.1.1]
  · show pG = (pG.1, 5, [97], 0); rw [← hg.1]
  · show pH = (pH.1, 5, [99], 0); rw [← hh.1.1.1]
  · show pI = (pI.1, 0); rw [← hi.1.1]
end Go.Proofs.YtplkndmkchpcdaaGreat.Pool
end
