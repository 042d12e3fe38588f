/- The words, and the contracts of the functions that are reached, one behind the other. -/
import Derived.OrdersHeld
import Derived.Deep.RegionHeld3
import Derived.Laws.BitsLemmas
import Derived.RowKit
import Derived.Below
import Derived.Deep.Draws
import Derived.Deep.AppendLies
import Derived.Maps.AppendAt
import Derived.OwnWalk
import Derived.Laws.BytesArg
import Derived.Laws.MakeOwn
import Derived.Laws.OwnMore
import Derived.Deep.OwnRows
import Derived.Tactics
import Derived.Lib.ConvBytes
import Derived.Laws.Slices
import Derived.WalkKit
import Derived.KernelRfl
import Derived.RowKit3
import Derived.Deep.LoopGhost
import Derived.Deep.QuietTactic
import Derived.BigQuiet
import Derived.WideLaws
import Derived.Deep.DeepCutAuto
import Derived.Deep.CutBlock
import Derived.Laws.Rows
import Derived.Lib.AppendStr
import Derived.ArgAppend
import Derived.Laws.IdiomCopy
import Derived.Maps.OwnOps
import Derived.Maps.OwnSet
import Derived.Maps.Ext
import Derived.Maps.Range
import Derived.Test.YtplkndmkchpcdaaGreatProg
import Derived.Deep.WholeRow
import Derived.Laws.Tables
import Derived.Lib.SliceRun
import Derived.Lib.SlMapMerge
import Derived.Maps.RangeWalk
import Derived.Laws.IdiomRangeMap
import Derived.Laws.CopyRow
import Derived.WalkSpells
import Derived.Laws.StructEq
set_option linter.unusedVariables false
set_option linter.unusedSimpArgs false
section
namespace Go.Proofs.YtplkndmkchpcdaaGreatW.PrintLast
section
variable {P : Program} {ops : Array Oper} {Q : Exit → Act → World → Prop} {md : Region.Mode} {S : World → Prop} {ds : List Nat}
def Region.reachB (md : Region.Mode) (ops : Array Oper) (i : Nat) : Nat → Nat → Bool
  | 0, _ => false
  | fuel + 1, d => match ops[d]? with
    | some o => o.after.any fun e => Region.binds md e && (e.on == i || Region.reachB md ops i fuel e.on)
    | none => false
def Region.closedB (md : Region.Mode) (ops : Array Oper) (listed : Array Bool) : Bool :=
  (List.range ops.size).all fun j => !listed.getD j false || match ops[j]? with
    | some o => o.after.all fun e => !Region.binds md e || listed.getD e.on false
    | none => true
def Region.lastB (md : Region.Mode) (ops : Array Oper) (listed : Array Bool) (ds : List Nat) (i : Nat) : Bool :=
  ds.all fun d => listed.getD d true || Region.reachB md ops i ops.size d
def ListedClosed (md : Region.Mode) (ops : Array Oper) (listed : Array Bool) : Prop :=
  ∀ j oj, ops[j]? = some oj → listed.getD j false = true → ∀ e ∈ oj.after, Region.binds md e = true → listed.getD e.on false = true
theorem Region.closedB_spec {listed : Array Bool} (h : Region.closedB md ops listed = true) : ListedClosed md ops listed := by
  intro j oj hj hl e he hb
  have hlt : j < ops.size := (Array.getElem?_eq_some_iff.1 hj).1
  have h1 := List.all_eq_true.1 h j (List.mem_range.2 hlt)
  simp only [hl, hj, Bool.not_true, Bool.false_or] at h1
  have h2 := Array.all_eq_true_iff_forall_mem.1 h1 e he
  simpa [hb] using h2
theorem ListedClosed.set {listed : Array Bool} {i : Nat} (h : ListedClosed md ops listed) (hi : i ∈ Region.ready md ops listed) : ListedClosed md ops (listed.setIfInBounds i true) := by
  obtain ⟨_, oi, hoi, hall⟩ := mem_ready.1 hi
  intro j oj hj hl e he hb
  by_cases hij : i = j
  · subst hij
    have : oj = oi := Option.some.inj (hj.symm.trans hoi)
    subst this
    exact getD_set_true (hall e he hb)
  · rw [getD_set_ne false hij] at hl
    exact getD_set_true (h j oj hj hl e he hb)
theorem Region.reach_listed {listed : Array Bool} {i : Nat} (hc : ListedClosed md ops listed) : ∀ (fuel d : Nat), Region.reachB md ops i fuel d = true → listed.getD d false = true → listed.getD i false = true
  | 0, _, h, _ => by simp [Region.reachB] at h
  | fuel + 1, d, h, hl => by
    unfold Region.reachB at h
    cases ho : ops[d]? with
    | none => rw [ho] at h; simp at h
    | some o =>
      rw [ho] at h
      obtain ⟨e, he, h1⟩ := Array.any_eq_true'.1 h
      simp only [Bool.and_eq_true, Bool.or_eq_true, beq_iff_eq] at h1
      have hle := hc d o ho hl e he h1.1
      rcases h1.2 with h2 | h2
      · rw [← h2]; exact hle
      · exact Region.reach_listed hc fuel e.on h2 hle
theorem Region.reach_not_ready {listed : Array Bool} {i d fuel : Nat} (hc : ListedClosed md ops listed) (hr : Region.reachB md ops i fuel d = true) (hun : listed.getD i true = false) : d ∉ Region.ready md ops listed := by
  intro hd
  obtain ⟨_, o, ho, hall⟩ := mem_ready.1 hd
  have hi : listed.getD i false = true := by
    cases fuel with
    | zero => simp [Region.reachB] at hr
    | succ n =>
      unfold Region.reachB at hr
      rw [ho] at hr
      obtain ⟨e, he, h1⟩ := Array.any_eq_true'.1 hr
      simp only [Bool.and_eq_true, Bool.or_eq_true, beq_iff_eq] at h1
      have hle := hall e he h1.1
      rcases h1.2 with h2 | h2
      · rw [← h2]; exact hle
      · exact Region.reach_listed hc n e.on h2 hle
  rcases Nat.lt_or_ge i listed.size with h' | h'
  · simp [h'] at hun hi
    rw [hun] at hi
    cases hi
  · simp [Array.getElem?_eq_none h'] at hun
def wpAnyLast (P : Program) (md : Region.Mode) (ops : Array Oper) (Q : Exit → Act → World → Prop) (S : World → Prop) (ds : List Nat) : Nat → Array Bool → Act → World → Prop
  | 0, listed, a, w => Region.ready md ops listed = [] ∧ Q .normal a w
  | fuel + 1, listed, a, w =>
    (Region.ready md ops listed = [] → Q .normal a w) ∧
    ∀ i ∈ Region.ready md ops listed, wpOp P ops Q i (fun a' w' => (i ∉ ds → S w → S w') ∧ wpAnyLast P md ops Q S ds fuel (listed.setIfInBounds i true) a' w') a w
theorem wpAny_of_last : ∀ (fuel : Nat) (listed : Array Bool) (a : Act) (w : World), wpAnyLast P md ops Q S ds fuel listed a w → wpAny P md ops Q fuel listed a w
  | 0, _, _, _, h => h
  | fuel + 1, _, _, _, h => ⟨h.1, fun i hi => wpOp_mono (fun a' w' h' => wpAny_of_last fuel _ a' w' h'.2) (h.2 i hi)⟩
theorem wpAnyLast_first {i : Nat} {oi : Oper} {v : Value} (hi : ops[i]? = some oi) (hsel : ∀ (j : Nat) (o : Oper) cs b, ops[j]? = some o → o.op ≠ .select cs b)
    (hQ : ∀ c a w, Q (.panic c) (a.put oi.dst v) w → Q (.panic c) a w) (n : Nat) :
    ∀ (fuel : Nat) (listed : Array Bool) (a : Act) (w : World),
      (∀ j oj, ops[j]? = some oj → j ≠ i → listed.getD j true = false → (∀ e ∈ oj.after, Region.binds md e = true → e.on ≠ i) → oi.apart ops oj = true) →
      ListedClosed md ops listed → (∀ d ∈ ds, listed.getD d true = false → Region.reachB md ops i n d = true) →
      i ∈ Region.ready md ops listed → YieldsIf P ops S oi v a → S w →
      wpAnyLast P md ops Q S ds fuel (listed.setIfInBounds i true) (a.put oi.dst v) w → wpAnyLast P md ops Q S ds (fuel + 1) listed a w := by
  intro fuel
  induction fuel with
  | zero =>
    intro listed a w _ _ _ hr hy hS H
    refine ⟨fun h => (by rw [h] at hr; cases hr), fun j hj => ?_⟩
    by_cases hji : j = i
    · subst hji; exact hy.wpOp hi hS ⟨fun _ h => h, H⟩
    · have := ready_mono hj hji
      rw [H.1] at this
      cases this
  | succ fuel ih =>
    intro listed a w hfree hc hd hr hy hS H
    refine ⟨fun h => (by rw [h] at hr; cases hr), fun j hj => ?_⟩
    by_cases hji : j = i
    · subst hji; exact hy.wpOp hi hS ⟨fun _ h => h, H⟩
    · have h1 := H.2 j (ready_mono hj hji)
      obtain ⟨hjun, oj, hoj, hall⟩ := mem_ready.1 hj
      have hiun := (mem_ready.1 hr).1
      have hnot : ∀ e ∈ oj.after, Region.binds md e = true → e.on ≠ i := fun e he hb heq => by
        have h1 := hall e he hb
        rw [heq] at h1
        rcases Nat.lt_or_ge i listed.size with h' | h'
        · simp [h'] at hiun h1; rw [hiun] at h1; cases h1
        · simp [Array.getElem?_eq_none h'] at h1
      have hjd : j ∉ ds := fun hm => Region.reach_not_ready hc (hd j hm hjun) hiun hj
      have h2 := wpOp_putIf hoj (hfree j oj hoj hji hjun hnot) (fun cs b => hsel i oi cs b hi) (fun cs b => hsel j oj cs b hoj) hQ hy h1
      have hfree' : ∀ k ok, ops[k]? = some ok → k ≠ i → (listed.setIfInBounds j true).getD k true = false →
          (∀ e ∈ ok.after, Region.binds md e = true → e.on ≠ i) → oi.apart ops ok = true := fun k ok hk hki hun hno => by
        refine hfree k ok hk hki ?_ hno
        by_cases hjk : j = k
        · subst hjk; exact hjun
        · rw [getD_set_ne true hjk] at hun; exact hun
      have hd' : ∀ d ∈ ds, (listed.setIfInBounds j true).getD d true = false → Region.reachB md ops i n d = true := fun d hm hun => by
        refine hd d hm ?_
        by_cases hjk : j = d
        · subst hjk; exact hjun
        · rw [getD_set_ne true hjk] at hun; exact hun
      refine wpOp_mono (fun a' w' h3 => ⟨h3.2.1, ih (listed.setIfInBounds j true) a' w' hfree' (hc.set hj) hd' (ready_mono hr (Ne.symm hji)) h3.1 (h3.2.1 hjd hS) ?_⟩) h2
      rw [Array.setIfInBounds_comm _ _ hji]
      exact h3.2.2
theorem wpAnyLast_any {i : Nat} {oi : Oper} {v : Value} (hi : ops[i]? = some oi) (hsel : ∀ (j : Nat) (o : Oper) cs b, ops[j]? = some o → o.op ≠ .select cs b)
    (hQ : ∀ c a w, Q (.panic c) (a.put oi.dst v) w → Q (.panic c) a w) :
    ∀ (fuel : Nat) (listed : Array Bool) (a : Act) (w : World),
      (∀ j oj, ops[j]? = some oj → j ≠ i → listed.getD j true = false → (∀ e ∈ oj.after, Region.binds md e = true → e.on ≠ i) → oi.apart ops oj = true) →
      i ∈ Region.ready md ops listed → Yields P ops oi v a →
      wpAnyLast P md ops Q S ds fuel (listed.setIfInBounds i true) (a.put oi.dst v) w → wpAnyLast P md ops Q S ds (fuel + 1) listed a w := by
  intro fuel
  induction fuel with
  | zero =>
    intro listed a w _ hr hy H
    refine ⟨fun h => (by rw [h] at hr; cases hr), fun j hj => ?_⟩
    by_cases hji : j = i
    · subst hji; exact (hy.yieldsIf (S := fun _ => True)).wpOp hi trivial ⟨fun _ h => h, H⟩
    · have := ready_mono hj hji
      rw [H.1] at this
      cases this
  | succ fuel ih =>
    intro listed a w hfree hr hy H
    refine ⟨fun h => (by rw [h] at hr; cases hr), fun j hj => ?_⟩
    by_cases hji : j = i
    · subst hji; exact (hy.yieldsIf (S := fun _ => True)).wpOp hi trivial ⟨fun _ h => h, H⟩
    · have h1 := H.2 j (ready_mono hj hji)
      obtain ⟨hjun, oj, hoj, hall⟩ := mem_ready.1 hj
      have hiun := (mem_ready.1 hr).1
      have hnot : ∀ e ∈ oj.after, Region.binds md e = true → e.on ≠ i := fun e he hb heq => by
        have h1 := hall e he hb
        rw [heq] at h1
        rcases Nat.lt_or_ge i listed.size with h' | h'
        · simp [h'] at hiun h1; rw [hiun] at h1; cases h1
        · simp [Array.getElem?_eq_none h'] at h1
      have h2 := wpOp_put hoj (hfree j oj hoj hji hjun hnot) (fun cs b => hsel i oi cs b hi) (fun cs b => hsel j oj cs b hoj) hQ hy h1
      have hfree' : ∀ k ok, ops[k]? = some ok → k ≠ i → (listed.setIfInBounds j true).getD k true = false →
          (∀ e ∈ ok.after, Region.binds md e = true → e.on ≠ i) → oi.apart ops ok = true := fun k ok hk hki hun hno => by
        refine hfree k ok hk hki ?_ hno
        by_cases hjk : j = k
        · subst hjk; exact hjun
        · rw [getD_set_ne true hjk] at hun; exact hun
      refine wpOp_mono (fun a' w' h3 => ⟨h3.2.1, ih (listed.setIfInBounds j true) a' w' hfree' (ready_mono hr (Ne.symm hji)) h3.1 ?_⟩) h2
      rw [Array.setIfInBounds_comm _ _ hji]
      exact h3.2.2
theorem wpAnyLast_take {i : Nat} {oi : Oper} {v : Value} {fuel : Nat} {listed : Array Bool} {a : Act} {w : World} (hi : ops[i]? = some oi)
    (hs : Region.noSelect ops = true) (hf : Region.free md ops listed i = true) (hr : (Region.ready md ops listed).contains i = true)
    (hc : Region.closedB md ops listed = true) (hl : Region.lastB md ops listed ds i = true)
    (hQ : ∀ c a w, Q (.panic c) (a.put oi.dst v) w → Q (.panic c) a w) (hy : YieldsIf P ops S oi v a) (hS : S w)
    (h : wpAnyLast P md ops Q S ds fuel (listed.setIfInBounds i true) (a.put oi.dst v) w) : wpAnyLast P md ops Q S ds (fuel + 1) listed a w :=
  wpAnyLast_first hi (Region.noSelect_spec hs) hQ ops.size fuel listed a w (Region.free_spec hi hf) (Region.closedB_spec hc)
    (fun d hm hun => by have := List.all_eq_true.1 hl d hm; rw [hun] at this; simpa using this) (by simpa using hr) hy hS h
theorem wpAnyLast_all {rs : List Nat} {fuel : Nat} {listed : Array Bool} {a : Act} {w : World} (hr : Region.ready md ops listed = rs) (hne : rs ≠ [])
    (h : ∀ i ∈ rs, wpOp P ops Q i (fun a' w' => (i ∉ ds → S w → S w') ∧ wpAnyLast P md ops Q S ds fuel (listed.setIfInBounds i true) a' w') a w) : wpAnyLast P md ops Q S ds (fuel + 1) listed a w :=
  ⟨fun h0 => absurd (hr ▸ h0) hne, hr ▸ h⟩
theorem wpAnyLast_done {listed : Array Bool} {a : Act} {w : World} (hr : Region.ready md ops listed = []) (h : Q .normal a w) :
    ∀ fuel, wpAnyLast P md ops Q S ds fuel listed a w
  | 0 => ⟨hr, h⟩
  | _ + 1 => ⟨fun _ => h, by rw [hr]; simp⟩
theorem wp_region_last {id : Nat} {a : Act} {w : World} (hm : P.follows .mixedOrders = true)
    (h : wpAnyLast P .any ops Q S ds ops.size (Array.replicate ops.size false) a { w with drawn := w.drawn + 1 }) : (Code.region id ops true).wp P Q a w :=
  wp_region_any hm (wpAny_of_last _ _ _ _ h)
end
section
variable {P : Program} {ops : Array Oper} {Q : Exit → Act → World → Prop} {md : Region.Mode} {S : World → Prop} {ds : List Nat}
def AllReadyL (P : Program) (md : Region.Mode) (ops : Array Oper) (Q : Exit → Act → World → Prop) (S : World → Prop) (ds : List Nat) (fuel : Nat) (listed : Array Bool) (a : Act) (w : World) (rs : List Nat) : Prop :=
  ∀ i ∈ rs, wpOp P ops Q i (fun a' w' => (i ∉ ds → S w → S w') ∧ wpAnyLast P md ops Q S ds fuel (listed.setIfInBounds i true) a' w') a w
theorem AllReadyL.nil {fuel : Nat} {listed : Array Bool} {a : Act} {w : World} : AllReadyL P md ops Q S ds fuel listed a w [] := fun _ h => by cases h
theorem AllReadyL.cons {fuel : Nat} {listed : Array Bool} {a : Act} {w : World} {i : Nat} {o : Oper} {rs : List Nat} (ho : ops[i]? = some o) (hd : i ∉ ds)
    (h : ∀ K' : Act → World → Prop, Shut (∀ a w, S w → (S w → wpAnyLast P md ops Q S ds fuel (listed.setIfInBounds i true) a w) → K' a w) → if Region.wanted o (yielded ops a.tmps) = true then Oper.wp P o a w K' Q else K' (a.put o.dst undef) w)
    (hs : AllReadyL P md ops Q S ds fuel listed a w rs) : AllReadyL P md ops Q S ds fuel listed a w (i :: rs) := fun j hj => by
  rcases List.mem_cons.1 hj with rfl | hj
  · exact wpOp_step ho (fun K' hK => h K' (fun a w hS hW => hK a w ⟨fun _ _ => hS, hW hS⟩))
  · exact hs j hj
theorem AllReadyL.cons_last {fuel : Nat} {listed : Array Bool} {a : Act} {w : World} {i : Nat} {o : Oper} {rs : List Nat} (ho : ops[i]? = some o) (hd : i ∈ ds)
    (h : ∀ K' : Act → World → Prop, Shut (∀ a w, wpAnyLast P md ops Q S ds fuel (listed.setIfInBounds i true) a w → K' a w) → if Region.wanted o (yielded ops a.tmps) = true then Oper.wp P o a w K' Q else K' (a.put o.dst undef) w)
    (hs : AllReadyL P md ops Q S ds fuel listed a w rs) : AllReadyL P md ops Q S ds fuel listed a w (i :: rs) := fun j hj => by
  rcases List.mem_cons.1 hj with rfl | hj
  · exact wpOp_step ho (fun K' hK => h K' (fun a w hW => hK a w ⟨fun hn => absurd hd hn, hW⟩))
  · exact hs j hj
theorem wpAnyLast_ready {rs : List Nat} {fuel : Nat} {listed : Array Bool} {a : Act} {w : World} (hr : Region.ready md ops listed = rs) (hne : rs ≠ [])
    (h : AllReadyL P md ops Q S ds fuel listed a w rs) : wpAnyLast P md ops Q S ds (fuel + 1) listed a w := wpAnyLast_all hr hne h
theorem start_ {id n : Nat} {a : Act} {w : World} (l : Array Bool) (hm : P.follows .mixedOrders = true) (hn : ops.size = n) (hl : Array.replicate n false = l) (hS : S w.drew)
    (h : S w.drew → wpAnyLast P .any ops Q S ds n l a w.drew) : (Code.region id ops true).wp P Q a w := by
  subst hn
  subst hl
  exact wp_region_last hm (h hS)
def takeB (md : Region.Mode) (ops : Array Oper) (ds : List Nat) (l l' : Array Bool) (i : Nat) : Bool :=
  Region.noSelect ops && Region.free md ops l i && (Region.ready md ops l).contains i && Region.closedB md ops l && Region.lastB md ops l ds i && (l.setIfInBounds i true == l')
theorem take_ {i : Nat} {N : Option Tmp} {oi : Oper} {v : Value} {fuel : Nat} {l : Array Bool} {a : Act} {w : World} (l' : Array Bool) (hi : ops[i]? = some oi) (hN : oi.dst = N) (hc : takeB md ops ds l l' i = true)
    (hQ : ∀ c a w, Q (.panic c) (a.put oi.dst v) w → Q (.panic c) a w) (hy : YieldsIf P ops S oi v a) (hS : S w) {a' : Act} (ha : a.put N v = a')
    (h : wpAnyLast P md ops Q S ds fuel l' a' w) : wpAnyLast P md ops Q S ds (fuel + 1) l a w := by
  subst ha
  subst hN
  simp only [takeB, Bool.and_eq_true, beq_iff_eq] at hc
  obtain ⟨⟨⟨⟨⟨h1, h2⟩, h3⟩, h4⟩, h5⟩, h6⟩ := hc
  subst h6
  exact wpAnyLast_take hi h1 h2 h3 h4 h5 hQ hy hS h
def anyB (md : Region.Mode) (ops : Array Oper) (l l' : Array Bool) (i : Nat) : Bool :=
  Region.noSelect ops && Region.free md ops l i && (Region.ready md ops l).contains i && (l.setIfInBounds i true == l')
theorem pure_ {i : Nat} {N : Option Tmp} {oi : Oper} {v : Value} {fuel : Nat} {l : Array Bool} {a : Act} {w : World} (l' : Array Bool) (hi : ops[i]? = some oi) (hN : oi.dst = N) (hc : anyB md ops l l' i = true)
    (hQ : ∀ c a w, Q (.panic c) (a.put oi.dst v) w → Q (.panic c) a w) (hy : Yields P ops oi v a) {a' : Act} (ha : a.put N v = a')
    (h : wpAnyLast P md ops Q S ds fuel l' a' w) : wpAnyLast P md ops Q S ds (fuel + 1) l a w := by
  subst ha
  subst hN
  simp only [anyB, Bool.and_eq_true, beq_iff_eq] at hc
  obtain ⟨⟨⟨h1, h2⟩, h3⟩, h6⟩ := hc
  subst h6
  exact wpAnyLast_any hi (Region.noSelect_spec h1) hQ fuel l a w (Region.free_spec hi h2) (by simpa using h3) hy h
def readyB (md : Region.Mode) (ops : Array Oper) (l l' : Array Bool) (i : Nat) : Bool := (Region.ready md ops l == [i]) && (l.setIfInBounds i true == l')
theorem one_ {i : Nat} {N : Option Tmp} {oi : Oper} {fuel : Nat} {l : Array Bool} {a : Act} {w : World} (l' : Array Bool) (hi : ops[i]? = some oi) (hN : oi.dst = N) (hc : readyB md ops l l' i = true) (hd : i ∉ ds)
    (h : ∀ K : Act → World → Prop, Shut (∀ a' w', S w' → (S w' → wpAnyLast P md ops Q S ds fuel l' a' w') → K a' w') → if Region.wanted oi (yielded ops a.tmps) = true then Oper.wp P oi a w K Q else K (a.put N undef) w) :
    wpAnyLast P md ops Q S ds (fuel + 1) l a w := by
  subst hN
  simp only [readyB, Bool.and_eq_true, beq_iff_eq] at hc
  obtain ⟨h1, h2⟩ := hc
  subst h2
  exact wpAnyLast_ready h1 (by simp) (AllReadyL.cons hi hd (fun K hK => h K hK) AllReadyL.nil)
theorem last_ {i : Nat} {N : Option Tmp} {oi : Oper} {fuel : Nat} {l : Array Bool} {a : Act} {w : World} (l' : Array Bool) (hi : ops[i]? = some oi) (hN : oi.dst = N) (hc : readyB md ops l l' i = true) (hd : i ∈ ds)
    (h : ∀ K : Act → World → Prop, Shut (∀ a' w', wpAnyLast P md ops Q S ds fuel l' a' w' → K a' w') → if Region.wanted oi (yielded ops a.tmps) = true then Oper.wp P oi a w K Q else K (a.put N undef) w) :
    wpAnyLast P md ops Q S ds (fuel + 1) l a w := by
  subst hN
  simp only [readyB, Bool.and_eq_true, beq_iff_eq] at hc
  obtain ⟨h1, h2⟩ := hc
  subst h2
  exact wpAnyLast_ready h1 (by simp) (AllReadyL.cons_last hi hd (fun K hK => h K hK) AllReadyL.nil)
theorem done_ {l : Array Bool} {a : Act} {w : World} {n : Nat} (hr : (Region.ready md ops l == []) = true) (h : Q .normal a w) : wpAnyLast P md ops Q S ds n l a w := wpAnyLast_done (by simpa using hr) h n
theorem two_ {i j : Nat} {Ni Nj : Option Tmp} {oi oj : Oper} {fuel : Nat} {l : Array Bool} {a : Act} {w : World} (li lj : Array Bool) (hi : ops[i]? = some oi) (hj : ops[j]? = some oj) (hNi : oi.dst = Ni) (hNj : oj.dst = Nj)
    (hc : (Region.ready md ops l == [i, j] && l.setIfInBounds i true == li && l.setIfInBounds j true == lj) = true) (hdi : i ∉ ds) (hdj : j ∉ ds)
    (h1 : ∀ K : Act → World → Prop, Shut (∀ a' w', S w' → (S w' → wpAnyLast P md ops Q S ds fuel li a' w') → K a' w') → if Region.wanted oi (yielded ops a.tmps) = true then Oper.wp P oi a w K Q else K (a.put Ni undef) w)
    (h2 : ∀ K : Act → World → Prop, Shut (∀ a' w', S w' → (S w' → wpAnyLast P md ops Q S ds fuel lj a' w') → K a' w') → if Region.wanted oj (yielded ops a.tmps) = true then Oper.wp P oj a w K Q else K (a.put Nj undef) w) :
    wpAnyLast P md ops Q S ds (fuel + 1) l a w := by
  subst hNi
  subst hNj
  simp only [Bool.and_eq_true, beq_iff_eq] at hc
  obtain ⟨⟨h3, h4⟩, h5⟩ := hc
  subst h4
  subst h5
  exact wpAnyLast_ready h3 (by simp) (AllReadyL.cons hi hdi (fun K hK => h1 K hK) (AllReadyL.cons hj hdj (fun K hK => h2 K hK) AllReadyL.nil))
def putAll : Act → List (Tmp × Value) → Act
  | a, [] => a
  | a, (n, v) :: r => putAll (a.put (some n) v) r
theorem join_ {σ : Type} {fuel : Nat} {l : Array Bool} {a : Act} {w : World} (fuel' : Nat) (l' : Array Bool) (ns : σ → List (Tmp × Value)) (F : σ → World → Prop)
    (hcont : ∀ s w', F s w' → wpAnyLast P md ops Q S ds fuel' l' (putAll a (ns s)) w')
    (h : (∀ s w', F s w' → wpAnyLast P md ops Q S ds fuel' l' (putAll a (ns s)) w') → wpAnyLast P md ops Q S ds fuel l a w) : wpAnyLast P md ops Q S ds fuel l a w := h hcont
theorem norm_ {fuel : Nat} {l : Array Bool} {a a' : Act} {w : World} (ha : a = a') (h : wpAnyLast P md ops Q S ds fuel l a' w) : wpAnyLast P md ops Q S ds fuel l a w := by
  subst ha
  exact h
theorem call_ {oi : Oper} {N : Option Tmp} {a : Act} {w : World} {K : Act → World → Prop} (f : FuncId) (args : Array Value) (hw : Region.wanted oi (yielded ops a.tmps) = true) (hN : oi.dst = N) (hrun : (execOp a.eval oi).run P w = .ok (.enter f args) w)
    (h : Calls P f args w fun e w' => ∃ v, e = .returned v ∧ K (a.put N v) w') : if Region.wanted oi (yielded ops a.tmps) = true then Oper.wp P oi a w K Q else K (a.put N undef) w := by
  rw [if_pos hw]
  subst hN
  unfold Oper.wp
  rw [hrun, Oper.upon_enter]
  refine h.mono fun e w'' hh => ?_
  obtain ⟨v, rfl, hk⟩ := hh
  exact hk
theorem enters_ {f : FuncId} {fn : Func} (hf : P.funcs[f]? = some fn) (hname : (fn.name == "runtime.NumGoroutine") = false) (hb : fn.body.isSome = true) (args : Array Value) (w : World) : (callFunc f args).run P w = .ok (.enter f args) w := by
  have h1 : fn.name ≠ "runtime.NumGoroutine" := by simpa using hname
  obtain ⟨c, hc⟩ := Option.isSome_iff_exists.1 hb
  simp [callFunc, hf, h1, hc]
theorem goes_ {oi : Oper} {N : Option Tmp} {a : Act} {w : World} {K : Act → World → Prop} {f : FuncId} {fn : Func} {as0 : Array Operand} {ts : Array TypeId} (hf : P.funcs[f]? = some fn) (hname : (fn.name == "runtime.NumGoroutine") = false) (hb : fn.body.isSome = true) (args : Array Value)
    (hw : Region.wanted oi (yielded ops a.tmps) = true) (hN : oi.dst = N) (hop : oi.op = .call { callee := .value (.func f), args := as0, argTypes := ts }) (hargs : as0.map a.eval = args)
    (h : Calls P f args w fun e w' => ∃ v, e = .returned v ∧ K (a.put N v) w') : if Region.wanted oi (yielded ops a.tmps) = true then Oper.wp P oi a w K Q else K (a.put N undef) w := by
  refine call_ f args hw hN ?_ h
  have he := enters_ hf hname hb args w
  unfold execOp
  simp [hop, resolve, Deferred.ofValue, invoke, Act.eval, hargs, he]
theorem goesL_ {rest : List Oper} {oi : Oper} {a : Act} {w : World} (N : Option Tmp) (hd : oi.dst = N) (hg : oi.guard = none) {f : FuncId} {fn : Func} {as0 : Array Operand} {ts : Array TypeId} (hf : P.funcs[f]? = some fn) (hname : (fn.name == "runtime.NumGoroutine") = false) (hb : fn.body.isSome = true) (args : Array Value)
    (hop : oi.op = .call { callee := .value (.func f), args := as0, argTypes := ts }) (hargs : as0.map a.eval = args)
    (h : Calls P f args w fun e w' => ∃ v, e = .returned v ∧ wpList P ops Q rest (a.put N v) w') : wpList P ops Q (oi :: rest) a w := by
  refine wpList_plain hg fun K hK => ?_
  have he := enters_ hf hname hb args w
  have hrun : (execOp a.eval oi).run P w = .ok (.enter f args) w := by
    unfold execOp
    simp [hop, resolve, Deferred.ofValue, invoke, Act.eval, hargs, he]
  unfold Oper.wp
  rw [hrun, Oper.upon_enter]
  refine h.mono fun e w'' hh => ?_
  obtain ⟨v, rfl, hk⟩ := hh
  subst hd
  exact hK _ _ hk
theorem value_ {oi : Oper} {N : Option Tmp} {a : Act} {w w1 : World} {v : Value} {K : Act → World → Prop} (hw : Region.wanted oi (yielded ops a.tmps) = true) (hN : oi.dst = N) (hrun : (execOp a.eval oi).run P w = .ok (.value v) w1)
    (h : K (a.put N v) w1) : if Region.wanted oi (yielded ops a.tmps) = true then Oper.wp P oi a w K Q else K (a.put N undef) w := by
  rw [if_pos hw]
  subst hN
  unfold Oper.wp
  rw [hrun]
  exact h
theorem skip_ {oi : Oper} {a : Act} {w w1 : World} {K : Act → World → Prop} (hw : Region.wanted oi (yielded ops a.tmps) = true) (hN : oi.dst = none) (hrun : (execOp a.eval oi).run P w = .ok .skip w1)
    (h : K a w1) : if Region.wanted oi (yielded ops a.tmps) = true then Oper.wp P oi a w K Q else K (a.put none undef) w := by
  rw [if_pos hw]
  unfold Oper.wp
  rw [hrun]
  show K (a.put oi.dst undef) w1
  rw [hN]
  exact h
theorem i64_w (n : Int) : IntKind.i64.wrap n = Go.RowKit.wrap64 n := by unfold Go.RowKit.wrap64; exact IntKind.wrap_i64 n
theorem i32_w (n : Int) : IntKind.i32.wrap n = Go.RowKit.wrap32 n := by unfold Go.RowKit.wrap32; exact IntKind.wrap_i32 n
end
end Go.Proofs.YtplkndmkchpcdaaGreatW.PrintLast
end
section
namespace Go.Proofs.YtplkndmkchpcdaaGreatW.PrintWords
open Go.RowKit
structure Aside0 (p : Prop) : Prop where mk :: (out : p)
structure Drawn0 (w w' : World) : Prop where mk :: (out : ∃ n, w' = w.drewN n)
theorem Drawn0.refl (w : World) : Drawn0 w w := ⟨⟨0, rfl⟩⟩
theorem Drawn0.step {w w' : World} (h : Drawn0 w w') (n : Nat) : Drawn0 w (w'.drewN n) := by
  obtain ⟨m, rfl⟩ := h
  exact ⟨⟨m + n, World.drewN_drewN ..⟩⟩
theorem Drawn0.grown {w w' : World} (h : Drawn0 w w') : Grown w w' := by
  obtain ⟨n, rfl⟩ := h
  induction n with
  | zero => exact Grown.refl _
  | succ n ih => rw [← World.drew_drewN]; exact Grown.drew ih
theorem Drawn0.below {w w' : World} (h : Drawn0 w w') : Below w.heap.size w w' := by
  obtain ⟨n, rfl⟩ := h
  induction n with
  | zero => exact Below.refl _ _
  | succ n ih => rw [← World.drew_drewN]; exact ih.drew
def rd (xs : List Int) (i : Int) : Int := xs.getD i.toNat 0
def bt (s : ByteArray) (i : Int) : Int := if h : i.toNat < s.size then ((s[i.toNat]'h).toNat : Int) else 0
def nums (k : IntKind) (xs : List Int) : List Value := xs.map fun x => .int k x
def bools (xs : List Bool) : List Value := xs.map fun x => .bool x
def pw_strs (xs : List ByteArray) : List Value := xs.map fun x => .string x
theorem below_alloc {w W : World} (h : Below w.heap.size w W) (o : Obj) : Below w.heap.size w (W.alloc o) := h.alloc h.size o
theorem below_drew {B : Nat} {w W : World} (h : Below B w W) : Below B w W.drew := ⟨h.os, h.tape, h.output, h.size, h.block⟩
theorem pw_below_drewN {B : Nat} {w W : World} (h : Below B w W) (n : Nat) : Below B w (W.drewN n) := ⟨h.os, h.tape, h.output, h.size, h.block⟩
theorem below_then {B : Nat} {w w1 w2 : World} (h : Below B w w1) (hB : B ≤ w1.heap.size) (k : Below w1.heap.size w1 w2) : Below B w w2 :=
  h.trans ⟨k.os, k.tape, k.output, k.size, fun i hi => k.block i (Nat.lt_of_lt_of_le hi hB)⟩
theorem grown_of_below {w w1 : World} (h : Below w.heap.size w w1) (row : Option Nat) : w.grownBy w1 row := ⟨h.os, h.tape, h.output, h.size, fun i hi _ => h.block i hi⟩
theorem pw_cell_below {w w1 : World} (h : Below w.heap.size w w1) {a : Addr} {v : Value} (hc : w.cell? a = some v) : w1.cell? a = some v := (h.cell (World.block_lt_of_cell? w a hc)).trans hc
theorem add_plain (g j : Nat) : (⟨g, 0, none⟩ : Addr).add j = ⟨g, j, none⟩ := by unfold Addr.add; split <;> simp_all
def ReadsInt (w : World) (k : IntKind) (A : Option Addr) (n : Nat) (xs : List Int) : Prop :=
  xs.length = n ∧ n ≤ 9223372036854775807 ∧ (0 < n → ∃ ad, A = some ad ∧ ∀ j, j < n → w.cell? (ad.add j) = some (.int k (xs.getD j 0)))
theorem ReadsInt.at_ {w : World} {k : IntKind} {A : Option Addr} {n : Nat} {xs : List Int} (h : ReadsInt w k A n xs) (i : Int) (h0 : 0 ≤ i) (h1 : i < n) : ∃ ad, A = some ad ∧ w.cell? (ad.add i.toNat) = some (.int k (rd xs i)) := by
  obtain ⟨ad, e, hc⟩ := h.2.2 (by omega)
  exact ⟨ad, e, hc _ (by omega)⟩
theorem ReadsInt.below {w w1 : World} {k : IntKind} {A : Option Addr} {n : Nat} {xs : List Int} (h : ReadsInt w k A n xs) (hb : Below w.heap.size w w1) : ReadsInt w1 k A n xs :=
  ⟨h.1, h.2.1, fun hn => by
    obtain ⟨ad, e, hc⟩ := h.2.2 hn
    exact ⟨ad, e, fun j hj => pw_cell_below hb (hc j hj)⟩⟩
theorem own_nil (W : World) (base : Nat) (e : TypeId) (size : Nat) : W.ownsRow base e size (.slice none 0 0) 0 [] := ⟨by simp, .inl ⟨rfl, rfl⟩⟩
theorem own_base {w : World} {base : Nat} {e : TypeId} {size n : Nat} {v : Value} {xs : List Value} (h : w.ownsRow base e size v n xs) (k : Nat) (hk : v.ownBlock = some k) : base ≤ k := by
  rcases h.2 with ⟨rfl, _⟩ | ⟨g, cap, cur, rfl, hb, _⟩
  · simp [Value.ownBlock] at hk
  · have : g = k := by simpa [Value.ownBlock] using hk
    omega
theorem own_lt {w : World} {base : Nat} {e : TypeId} {size n : Nat} {v : Value} {xs : List Value} (h : w.ownsRow base e size v n xs) (k : Nat) (hk : v.ownBlock = some k) : k < w.heap.size := by
  rcases h.2 with ⟨rfl, _⟩ | ⟨g, cap, cur, rfl, hb, hh, _⟩
  · simp [Value.ownBlock] at hk
  · have : g = k := by simpa [Value.ownBlock] using hk
    subst this
    exact (Array.getElem?_eq_some_iff.1 hh).1
theorem pw_own_below {w w1 : World} {base : Nat} {e : TypeId} {size n : Nat} {v : Value} {xs : List Value} (h : w.ownsRow base e size v n xs) (hb : Below w.heap.size w w1) : w1.ownsRow base e size v n xs :=
  h.kept (grown_of_below hb none) (by cases v.ownBlock <;> simp)
theorem own_slice {w : World} {base n : Nat} {e : TypeId} {size : Nat} {v : Value} {xs : List Value} (h : w.ownsRow base e size v n xs) : ∃ A c, v = .slice A n c := by
  rcases h.2 with ⟨rfl, rfl⟩ | ⟨g, cap, cur, rfl, _⟩
  · exact ⟨none, 0, rfl⟩
  · exact ⟨_, cap, rfl⟩
section
variable {P : Program} {ops : Array Oper} {rest : List Oper} {o : Oper} {a : Act} {Q : Exit → Act → World → Prop}
end
section
variable {P : Program}
end
theorem own_at {W : World} {base g n cap : Nat} {e : TypeId} {k : IntKind} {xs : List Int} (h : W.ownsRow base e 1 (.slice (some ⟨g, 0, none⟩) n cap) n (nums k xs)) (i : Int) (h0 : 0 ≤ i) (h1 : i < n) :
    W.cell? ⟨g, i.toNat, none⟩ = some (.int k (rd xs i)) ∧ W.frozen? ⟨g, i.toNat, none⟩ = false := by
  have hl : xs.length = n := by have := h.1; simp [nums] at this; exact this
  constructor
  · have hc := h.cells (g := g) rfl i.toNat (.int k (rd xs i)) (by simp [nums, rd, List.getElem?_eq_getElem (show i.toNat < xs.length by omega), List.getD_eq_getElem?_getD])
    rwa [add_plain] at hc
  · rcases h.2 with ⟨h', _⟩ | ⟨g', cap', cur, h', _, hh, _⟩
    · cases h'
    · have : g = g' := by injection h' with h'; injection h' with h'; injection h' with h'
      subst this
      simp [World.frozen?, hh]
section
variable {P : Program} {ops : Array Oper} {rest : List Oper} {o : Oper} {a : Act} {Q : Exit → Act → World → Prop}
end
def bytesOf (s : ByteArray) : List Int := s.data.toList.map fun b => (b.toNat : Int)
def LeO {α : Type} (a b : Option α) : Prop := ∀ r, a = some r → b = some r
theorem LeO.refl {α : Type} (a : Option α) : LeO a a := fun _ h => h
theorem LeO.none {α : Type} (b : Option α) : LeO Option.none b := fun _ h => by cases h
theorem LeO.trans {α : Type} {a b c : Option α} (h : LeO a b) (k : LeO b c) : LeO a c := fun r hr => k r (h r hr)
theorem LeO.map {α β : Type} {a a' : Option α} (f : α → β) (h : LeO a a') : LeO (a.map f) (a'.map f) := by
  intro r hr
  obtain ⟨x, hx, hf⟩ := Option.map_eq_some_iff.1 hr
  exact Option.map_eq_some_iff.2 ⟨x, h x hx, hf⟩
def Reps {α : Type} (R : α → List Value → Prop) (size : Nat) (ps : List α) (cs : List Value) : Prop :=
  cs.length = ps.length * size ∧ ∀ j p, ps[j]? = some p → R p ((cs.drop (j * size)).take size)
theorem Reps.none {α : Type} (R : α → List Value → Prop) (size : Nat) : Reps R size [] [] := ⟨by simp, fun j p h => by simp at h⟩
theorem Reps.snoc {α : Type} {R : α → List Value → Prop} {size : Nat} {ps : List α} {cs c : List Value} {p : α} (h : Reps R size ps cs) (hp : R p c) (hc : c.length = size) : Reps R size (ps ++ [p]) (cs ++ c) := by
  refine ⟨by rw [List.length_append, h.1, hc, List.length_append, List.length_singleton, Nat.add_mul, Nat.one_mul], fun j q hq => ?_⟩
  rcases Nat.lt_or_ge j ps.length with hj | hj
  · rw [List.getElem?_append_left hj] at hq
    have h1 : j * size + size ≤ cs.length := by rw [h.1, ← Nat.succ_mul]; exact Nat.mul_le_mul_right _ hj
    have h2 := h.2 j q hq
    rw [List.drop_append_of_le_length (by omega), List.take_append_of_le_length (by rw [List.length_drop]; omega)]
    exact h2
  · have hj' : j = ps.length := by
      have := (List.getElem?_eq_some_iff.1 hq).1
      rw [List.length_append, List.length_singleton] at this
      omega
    subst hj'
    have hq' : p = q := by simpa using hq
    subst hq'
    rw [← h.1, List.drop_left, ← hc, List.take_length]
    exact hp
theorem Reps.imp_ {α : Type} {R R' : α → List Value → Prop} {size : Nat} {ps : List α} {cs : List Value} (h : Reps R size ps cs) (hR : ∀ p c, R p c → R' p c) : Reps R' size ps cs := ⟨h.1, fun j p hj => hR _ _ (h.2 j p hj)⟩
def ReadsRow {α : Type} (R : α → List Value → Prop) (size : Nat) (w : World) (A : Option Addr) (n : Nat) (ps : List α) : Prop :=
  ps.length = n ∧ n ≤ 9223372036854775807 ∧ (0 < n → ∃ ad, A = some ad ∧ ∀ j p, ps[j]? = some p → ∃ c, c.length = size ∧ R p c ∧ ∀ i u, c[i]? = some u → w.cell? (ad.add (j * size + i)) = some u)
theorem ReadsRow.get_ {α : Type} {R : α → List Value → Prop} {size : Nat} {w : World} {A : Option Addr} {n : Nat} {ps : List α} (h : ReadsRow R size w A n ps) (d : α) (i : Int) (h0 : 0 ≤ i) (h1 : i < n) :
    ∃ ad c, A = some ad ∧ c.length = size ∧ R (ps.getD i.toNat d) c ∧ ∀ j u, c[j]? = some u → w.cell? (ad.add (i.toNat * size + j)) = some u := by
  obtain ⟨ad, e, hc⟩ := h.2.2 (by omega)
  have hl : i.toNat < ps.length := by have := h.1; omega
  obtain ⟨c, hs, hr, hcell⟩ := hc i.toNat _ (List.getElem?_eq_getElem hl)
  refine ⟨ad, c, e, hs, ?_, hcell⟩
  rw [List.getD_eq_getElem?_getD, List.getElem?_eq_getElem hl]
  exact hr
theorem ReadsRow.imp_ {α : Type} {R R' : α → List Value → Prop} {size : Nat} {w w1 : World} {A : Option Addr} {n : Nat} {ps : List α} (h : ReadsRow R size w A n ps) (hb : Below w.heap.size w w1) (hR : ∀ p c, R p c → R' p c) : ReadsRow R' size w1 A n ps :=
  ⟨h.1, h.2.1, fun hn => by
    obtain ⟨ad, e, hc⟩ := h.2.2 hn
    refine ⟨ad, e, fun j p hj => ?_⟩
    obtain ⟨c, hs, hr, hcell⟩ := hc j p hj
    exact ⟨c, hs, hR _ _ hr, fun i u hu => pw_cell_below hb (hcell i u hu)⟩⟩
theorem own_reads_row {α : Type} {R : α → List Value → Prop} {w : World} {base n size : Nat} {e : TypeId} {v : Value} {ps : List α} {cs : List Value} (h : w.ownsRow base e size v n cs) (hR : Reps R size ps cs) (hn : ps.length = n) :
    ∃ A c, v = .slice A n c ∧ ReadsRow R size w A n ps := by
  rcases Nat.eq_zero_or_pos n with h0 | h0
  · rcases h.2 with ⟨rfl, rfl⟩ | ⟨g, cap, cur, rfl, _⟩
    · exact ⟨none, 0, rfl, hn, by omega, fun hp => absurd hp (by omega)⟩
    · exact ⟨_, cap, rfl, hn, by omega, fun hp => absurd hp (by omega)⟩
  · obtain ⟨g, cap, rfl, _, _⟩ := h.form h0
    have hm : n ≤ 9223372036854775807 := by
      rcases h.2 with ⟨_, h1⟩ | ⟨g', cap', cur, he, _, _, h1, h2, _⟩
      · omega
      · simp only [maxLen] at h2
        omega
    refine ⟨_, cap, rfl, hn, hm, fun _ => ⟨_, rfl, fun j p hj => ⟨(cs.drop (j * size)).take size, ?_, hR.2 j p hj, fun i u hu => ?_⟩⟩⟩
    · have hjl := (List.getElem?_eq_some_iff.1 hj).1
      have h1 : j * size + size ≤ cs.length := by rw [hR.1, ← Nat.succ_mul]; exact Nat.mul_le_mul_right _ hjl
      rw [List.length_take, List.length_drop]
      omega
    · refine h.cells (g := g) rfl _ u ?_
      rw [List.getElem?_take] at hu
      split at hu
      · rw [List.getElem?_drop] at hu
        exact hu
      · cases hu
section
variable {P : Program} {ops : Array Oper} {rest : List Oper} {o : Oper} {a : Act} {Q : Exit → Act → World → Prop}
theorem print_append_cells {w0 W : World} (base : Nat) (hgd : o.guard = none) (s x : Operand) (t e : TypeId) (z : Value) (size bytes : Nat)
    (ho : o.op = .call { callee := .builtin .append, args := #[s, x], argTypes := #[t, t] })
    (ht : P.underlying t = some (.slice e)) (hinfo : (P.info? e).map (fun i => (i.zero, i.size, i.bytes)) = some (some z, size, bytes)) (hz : z.cells.size = size) (hs0 : 0 < size) (hb0 : 0 < bytes)
    (v : Value) (n : Nat) (xs ys : List Value) (hs : a.eval s = v) (hx : a.eval x = .slice (some ⟨W.heap.size, 0, none⟩) 1 1) (hys : ys.length = size) (h1 : ∀ u ∈ ys, u.oneCell' = true)
    (HO : W.ownsRow base e size v n xs) (HB : Below base w0 W) (hbase : base ≤ W.heap.size) (hl : (n + 1) * bytes ≤ 140737488355328)
    (h : ∀ v1 w1, w1.ownsRow base e size v1 (n + 1) (xs ++ ys) → Below base w0 w1 → W.grownBy w1 v.ownBlock → (v1.ownBlock = v.ownBlock ∨ ∃ b, v1.ownBlock = some b ∧ W.heap.size ≤ b) → wpList P ops Q rest (a.put o.dst v1) w1) :
    wpList P ops Q (o :: rest) a (W.alloc (.cells ys.toArray e)) := by
  obtain ⟨i0, hi, hzz⟩ := Option.map_eq_some_iff.1 hinfo
  simp only [Prod.mk.injEq] at hzz
  obtain ⟨hz0, hz1, hz2⟩ := hzz
  have hlen : n + 1 ≤ 140737488355328 := Nat.le_trans (Nat.le_mul_of_pos_right _ hb0) hl
  refine wpList_append_own_at (W.alloc (.cells ys.toArray e)) hgd s x t ho base e i0 z size bytes ht hi hz0 hz1 hz2 hz hs0 v n xs hs (HO.alloc _) ⟨W.heap.size, 0, none⟩ 1 1 ys hx (by rw [hys]; simp)
    (by simpa using World.news_of_block (cs := ys.toArray) (t := e) (fr := (0, 0)) (heap_alloc_new W (.cells ys.toArray e))) h1 (by simp only [maxLen]; omega) hl (by simp; omega) ?_
  intro v1 w1 hown hg _ hat
  refine h v1 w1 hown ((HB.alloc hbase _).grown hg (by simp; omega) (own_base HO)) (World.grownBy.trans (World.grownBy_alloc W _ _) hg) ?_
  rcases hat with hat | hat
  · exact .inl hat
  · exact .inr ⟨_, hat, by simp⟩
end
theorem blk_lt {w : World} {g : Nat} {o : Obj} (h : w.heap[g]? = some o) : g < w.heap.size := (Array.getElem?_eq_some_iff.1 h).1
def KeepBut (w w' : World) (g : Nat) (row : Option Nat) : Prop := w.heap.size ≤ w'.heap.size ∧ ∀ i, i < w.heap.size → i ≠ g → some i ≠ row → w'.heap[i]? = w.heap[i]?
theorem KeepBut.refl (w : World) (g : Nat) (row : Option Nat) : KeepBut w w g row := ⟨Nat.le_refl _, fun _ _ _ _ => rfl⟩
theorem KeepBut.of_below {w w1 : World} (h : Below w.heap.size w w1) (g : Nat) (row : Option Nat) : KeepBut w w1 g row := ⟨h.size, fun i hi _ _ => h.block i hi⟩
theorem KeepBut.trans {w w1 w2 : World} {g : Nat} {row row1 : Option Nat} (h : KeepBut w w1 g row) (k : KeepBut w1 w2 g row1) (hr : row1 = row ∨ ∃ b, row1 = some b ∧ w.heap.size ≤ b) : KeepBut w w2 g row :=
  ⟨Nat.le_trans h.1 k.1, fun i hi hg hn => by
    refine (k.2 i (Nat.lt_of_lt_of_le hi h.1) hg ?_).trans (h.2 i hi hg hn)
    rcases hr with rfl | ⟨b, rfl, hb⟩
    · exact hn
    · intro e
      injection e with e
      omega⟩
theorem KeepBut.blk {w w1 : World} {g g' : Nat} {row : Option Nat} {o : Obj} (h : KeepBut w w1 g row) (hb : w.heap[g']? = some o) (hg : g' ≠ g) (hr : some g' ≠ row) : w1.heap[g']? = some o := (h.2 g' (blk_lt hb) hg hr).trans hb
def Ev {α : Type} (g : Nat → Option α) (r : α) : Prop := ∃ K, ∀ k, K ≤ k → g k = some r
theorem Ev.now {α : Type} (r : α) : Ev (fun _ => some r) r := ⟨0, fun _ _ => rfl⟩
section
variable {P : Program} {ops : Array Oper} {o : Oper} {a : Act} {Q : Exit → Act → World → Prop} {K : Act → World → Prop}
end
theorem own_weaken {w : World} {base base' : Nat} {e : TypeId} {size n : Nat} {v : Value} {xs : List Value} (h : w.ownsRow base e size v n xs) (hb : base' ≤ base) : w.ownsRow base' e size v n xs := by
  obtain ⟨h1, h2⟩ := h
  refine ⟨h1, ?_⟩
  rcases h2 with h2 | ⟨g, cap, cur, rfl, hg, r⟩
  · exact .inl h2
  · exact .inr ⟨g, cap, cur, rfl, Nat.le_trans hb hg, r⟩
section
variable {α : Type} {enc : α → Value} {d : α}
def encs (enc : α → Value) (xs : List α) : List Value := xs.map enc
def rdOf (d : α) (xs : List α) (i : Int) : α := xs.getD i.toNat d
theorem encs_length (xs : List α) : (encs enc xs).length = xs.length := by simp [encs]
theorem encs_get (xs : List α) (j : Nat) (h : j < xs.length) : (encs enc xs)[j]? = some (enc (xs.getD j d)) := by
  simp [encs, List.getElem?_eq_getElem h, List.getD_eq_getElem?_getD]
def ReadsOf (enc : α → Value) (d : α) (w : World) (A : Option Addr) (n : Nat) (xs : List α) : Prop :=
  xs.length = n ∧ n ≤ 9223372036854775807 ∧ (0 < n → ∃ ad, A = some ad ∧ ∀ j, j < n → w.cell? (ad.add j) = some (enc (xs.getD j d)))
theorem ReadsOf.at_ {w : World} {A : Option Addr} {n : Nat} {xs : List α} (h : ReadsOf enc d w A n xs) (i : Int) (h0 : 0 ≤ i) (h1 : i < n) : ∃ ad, A = some ad ∧ w.cell? (ad.add i.toNat) = some (enc (rdOf d xs i)) := by
  obtain ⟨ad, e, hc⟩ := h.2.2 (by omega)
  exact ⟨ad, e, hc _ (by omega)⟩
theorem ReadsOf.below {w w1 : World} {A : Option Addr} {n : Nat} {xs : List α} (h : ReadsOf enc d w A n xs) (hb : Below w.heap.size w w1) : ReadsOf enc d w1 A n xs :=
  ⟨h.1, h.2.1, fun hn => by
    obtain ⟨ad, e, hc⟩ := h.2.2 hn
    exact ⟨ad, e, fun j hj => pw_cell_below hb (hc j hj)⟩⟩
theorem ReadsOf.take_ {w : World} {A : Option Addr} {n : Nat} {xs : List α} (h : ReadsOf enc d w A n xs) (i : Nat) (hi : i ≤ n) : ReadsOf enc d w A i (xs.take i) := by
  refine ⟨by rw [List.length_take, h.1]; omega, by have := h.2.1; omega, fun hp => ?_⟩
  obtain ⟨ad, e, hc⟩ := h.2.2 (by omega)
  refine ⟨ad, e, fun j hj => ?_⟩
  rw [hc j (by omega)]
  simp [List.getD_eq_getElem?_getD, hj]
theorem ReadsOf.drop_ {w : World} {A : Option Addr} {n c : Nat} {xs : List α} (h : ReadsOf enc d w A n xs) (i : Nat) (hi : i ≤ n) (hc : n ≤ c) : ReadsOf enc d w (if c = i then A else A.map (·.add i)) (n - i) (xs.drop i) := by
  refine ⟨by rw [List.length_drop, h.1], by have := h.2.1; omega, fun hp => ?_⟩
  obtain ⟨ad, rfl, hcell⟩ := h.2.2 (by omega)
  rw [if_neg (by omega)]
  refine ⟨ad.add i, rfl, fun j hj => ?_⟩
  have ha : (ad.add i).add j = ad.add (i + j) := by
    unfold Addr.add
    by_cases h1 : i = 0 <;> by_cases h2 : j = 0 <;> simp [h1, h2, Nat.add_assoc]
  rw [ha, hcell (i + j) (by omega)]
  simp [List.getD_eq_getElem?_getD, List.getElem?_drop]
theorem print_cut_of {P : Program} (enc : α → Value) (d : α) (t e : TypeId) (kl : IntKind) {i : TypeInfo} (ht : P.underlying t = some (.slice e)) (hi : P.info? e = some i) (hsz : i.size = 1) (A : Option Addr) (n c m : Nat) (hm : m ≤ n) :
    ∃ A' : Option Addr, (∀ W : World, (Instr.slice t (.slice A n c) (some (.int kl (m : Int))) none none).run P W = .ok (.slice A' (n - m) (c - m)) W) ∧
      ∀ (w : World) (xs : List α), n ≤ c → ReadsOf enc d w A n xs → ReadsOf enc d w A' (n - m) (xs.drop m) := by
  refine ⟨if c = m then A else A.map (·.add m), fun W => ?_, fun w xs hc h => h.drop_ m hm hc⟩
  have hel : P.elem t = e := by simp [Program.elem, ht]
  have hu : P.underlying t = some (.slice (P.elem t)) := by rw [hel]; exact ht
  rw [run_slice_l W t A n c hu kl (m : Int) (Int.natCast_nonneg _) (by omega), hel]
  simp [sizeOf, typeInfo, hi, hsz, sliced, Result.andThen]
theorem own_at_of {W : World} {base g n cap : Nat} {e : TypeId} {xs : List α} (h : W.ownsRow base e 1 (.slice (some ⟨g, 0, none⟩) n cap) n (encs enc xs)) (i : Int) (h0 : 0 ≤ i) (h1 : i < n) :
    W.cell? ⟨g, i.toNat, none⟩ = some (enc (rdOf d xs i)) ∧ W.frozen? ⟨g, i.toNat, none⟩ = false := by
  have hl : xs.length = n := by have := h.1; simp [encs] at this; exact this
  constructor
  · have hc := h.cells (g := g) rfl i.toNat _ (encs_get (d := d) xs i.toNat (by omega))
    rwa [add_plain] at hc
  · rcases h.2 with ⟨h', _⟩ | ⟨g', cap', cur, h', _, hh, _⟩
    · cases h'
    · have : g = g' := by injection h' with h'; injection h' with h'; injection h' with h'
      subst this
      simp [World.frozen?, hh]
theorem own_store_of {W : World} {base g n cap : Nat} {e : TypeId} {xs : List α} (h : W.ownsRow base e 1 (.slice (some ⟨g, 0, none⟩) n cap) n (encs enc xs)) (i : Int) (x : α) :
    (W.setCell ⟨g, i.toNat, none⟩ (enc x)).ownsRow base e 1 (.slice (some ⟨g, 0, none⟩) n cap) n (encs enc (xs.set i.toNat x)) ∧ W.grownBy (W.setCell ⟨g, i.toNat, none⟩ (enc x)) (some g) := by
  have hs := h.stored i.toNat (enc x)
  have he : (encs enc xs).set i.toNat (enc x) = encs enc (xs.set i.toNat x) := by simp [encs, List.map_set]
  rwa [he] at hs
end
section
variable {α : Type} {P : Program} {ops : Array Oper} {rest : List Oper} {o : Oper} {a : Act} {Q : Exit → Act → World → Prop}
end
def NeRow (v v' : Value) : Prop := ∀ k, v.ownBlock = some k → v'.ownBlock ≠ some k
section
variable {P : Program}
end
theorem own_le {w : World} {base n m c size : Nat} {e : TypeId} {A : Option Addr} {xs : List Value} (h : w.ownsRow base e size (.slice A m c) n xs) : m ≤ c := by
  rcases h.2 with ⟨he, _⟩ | ⟨g, cap, cur, he, _, _, hnc, _⟩
  · injection he with _ h2 h3
    omega
  · injection he with _ h2 h3
    omega
def OwnRow {α : Type} (R : α → List Value → Prop) (e : TypeId) (size : Nat) (w : World) (base : Nat) (v : Value) (ps : List α) : Prop :=
  ∃ inner, w.ownsRow base e size v ps.length inner ∧ Reps R size ps inner
section
variable {α : Type} {R R' : α → List Value → Prop} {e : TypeId} {size : Nat} {w w1 : World} {base : Nat} {v : Value} {ps : List α}
theorem OwnRow.none_ (R : α → List Value → Prop) (e : TypeId) (size : Nat) (w : World) (base : Nat) : OwnRow R e size w base (.slice none 0 0) [] := ⟨[], own_nil _ _ _ _, Reps.none _ _⟩
theorem OwnRow.imp_ (h : OwnRow R e size w base v ps) (hR : ∀ p c, R p c → R' p c) : OwnRow R' e size w base v ps := by
  obtain ⟨inner, ho, hr⟩ := h
  exact ⟨inner, ho, hr.imp_ hR⟩
theorem OwnRow.below (h : OwnRow R e size w base v ps) (hb : Below w.heap.size w w1) : OwnRow R e size w1 base v ps := by
  obtain ⟨inner, ho, hr⟩ := h
  exact ⟨inner, pw_own_below ho hb, hr⟩
theorem OwnRow.reads (h : OwnRow R e size w base v ps) : ∃ A c, v = .slice A ps.length c ∧ ps.length ≤ c ∧ ReadsRow R size w A ps.length ps := by
  obtain ⟨inner, ho, hr⟩ := h
  obtain ⟨A, c, rfl, hrow⟩ := own_reads_row ho hr rfl
  exact ⟨A, c, rfl, own_le ho, hrow⟩
end
section
variable {P : Program} {ops : Array Oper} {rest : List Oper} {o : Oper} {a : Act} {Q : Exit → Act → World → Prop} {α : Type} {R : α → List Value → Prop}
end
section
variable {P : Program} {ops : Array Oper} {o : Oper} {a : Act} {Q : Exit → Act → World → Prop} {K : Act → World → Prop} {α : Type} {R : α → List Value → Prop}
end
theorem ReadsRow.inner_ {α : Type} {R : α → List Value → Prop} {size : Nat} {w : World} {ad : Addr} {n : Nat} {ps : List α} (h : ReadsRow R size w (some ad) n ps) :
    ∃ inner, Reps R size ps inner ∧ ∀ j u, inner[j]? = some u → w.cell? (ad.add j) = some u := by
  have key : ∀ m, m ≤ ps.length → ∃ inner, Reps R size (ps.take m) inner ∧ ∀ j u, inner[j]? = some u → w.cell? (ad.add j) = some u := by
    intro m
    induction m with
    | zero => exact fun _ => ⟨[], Reps.none _ _, fun j u hu => by simp at hu⟩
    | succ m ih =>
      intro hm
      obtain ⟨inner, hr, hc⟩ := ih (by omega)
      obtain ⟨ad', he, hcell⟩ := h.2.2 (by have := h.1; omega)
      injection he with he
      subst he
      obtain ⟨c, hcl, hp, hcc⟩ := hcell m _ (List.getElem?_eq_getElem (show m < ps.length by omega))
      refine ⟨inner ++ c, ?_, fun j u hu => ?_⟩
      · rw [List.take_succ_eq_append_getElem (show m < ps.length by omega)]
        exact hr.snoc hp hcl
      · have hil : inner.length = m * size := by rw [hr.1, List.length_take, Nat.min_eq_left (by omega)]
        rcases Nat.lt_or_ge j inner.length with hj | hj
        · rw [List.getElem?_append_left hj] at hu
          exact hc j u hu
        · rw [List.getElem?_append_right hj] at hu
          have := hcc (j - inner.length) u hu
          rwa [hil, Nat.add_sub_cancel' (by omega)] at this
  obtain ⟨inner, hr, hc⟩ := key ps.length (Nat.le_refl _)
  rw [List.take_length] at hr
  exact ⟨inner, hr, hc⟩
section
variable {α : Type} {P : Program}
theorem print_take_of (enc : α → Value) (d : α) (t e : TypeId) (kl : IntKind) {i : TypeInfo} (ht : P.underlying t = some (.slice e)) (hi : P.info? e = some i) (hsz : i.size = 1) (A : Option Addr) (c : Nat) (xs : List α) (j : Int) (h0 : 0 ≤ j) (hm : j ≤ xs.length) (hc : xs.length ≤ c) :
    (∀ W : World, (Instr.slice t (.slice A xs.length c) none (some (.int kl j)) none).run P W = .ok (.slice A (xs.take j.toNat).length c) W) ∧
      (∀ w : World, ReadsOf enc d w A xs.length xs → ReadsOf enc d w A (xs.take j.toNat).length (xs.take j.toNat)) ∧ (xs.take j.toNat).length ≤ c := by
  have hl : (xs.take j.toNat).length = j.toNat := by rw [List.length_take]; omega
  refine ⟨fun W => ?_, fun w h => by rw [hl]; exact h.take_ j.toNat (by omega), by rw [hl]; omega⟩
  have hel : P.elem t = e := by simp [Program.elem, ht]
  have hu : P.underlying t = some (.slice (P.elem t)) := by rw [hel]; exact ht
  have ha : (A.map fun x => x.add 0) = A := by cases A <;> simp [Addr.add]
  rw [run_slice_h W t A xs.length c hu kl j h0 (by omega), hel, hl]
  simp [sizeOf, typeInfo, hi, hsz, sliced, Result.andThen, ha]
theorem print_drop_of (enc : α → Value) (d : α) (t e : TypeId) (kl : IntKind) {i : TypeInfo} (ht : P.underlying t = some (.slice e)) (hi : P.info? e = some i) (hsz : i.size = 1) (A : Option Addr) (c : Nat) (xs : List α) (j : Int) (h0 : 0 ≤ j) (hm : j ≤ xs.length) (hc : xs.length ≤ c) :
    ∃ A' : Option Addr, (∀ W : World, (Instr.slice t (.slice A xs.length c) (some (.int kl j)) none none).run P W = .ok (.slice A' (xs.drop j.toNat).length (c - j.toNat)) W) ∧
      (∀ w : World, ReadsOf enc d w A xs.length xs → ReadsOf enc d w A' (xs.drop j.toNat).length (xs.drop j.toNat)) ∧ (xs.drop j.toNat).length ≤ c - j.toNat := by
  obtain ⟨m, rfl⟩ := Int.eq_ofNat_of_zero_le h0
  simp only [Int.toNat_natCast]
  have hmn : m ≤ xs.length := by omega
  obtain ⟨A', h1, h2⟩ := print_cut_of (P := P) enc d t e kl ht hi hsz A xs.length c m hmn
  have hl : (xs.drop m).length = xs.length - m := List.length_drop
  exact ⟨A', fun W => by rw [hl]; exact h1 W, fun w h => by rw [hl]; exact h2 w xs hc h, by rw [hl]; omega⟩
end
section
variable {P : Program} {ops : Array Oper} {rest : List Oper} {o : Oper} {a : Act} {Q : Exit → Act → World → Prop}
end
structure Kd (α : Type) where
  sz : Nat
  E : List Nat
  K : World → α → List Value → Prop
  M : World → Nat → (Nat → Prop) → α → List Value → Prop
  K_len : ∀ {w x cs}, K w x cs → cs.length = sz
  K_one : ∀ {w x cs}, K w x cs → ∀ u ∈ cs, u.oneCell' = true
  K_below : ∀ {w w1 : World} {x cs}, Below w.heap.size w w1 → K w x cs → K w1 x cs
  K_of_M : ∀ {w base ok x cs}, M w base ok x cs → K w x cs
  M_mono : ∀ {w base ok ok' x cs}, (∀ k, ok k → ok' k) → M w base ok x cs → M w base ok' x cs
  M_bound : ∀ {w : World} {base ok x cs}, M w base ok x cs → M w base (fun k => ok k ∧ base ≤ k ∧ k < w.heap.size ∧ ∃ q, q ∈ E ∧ ∃ cells, w.heap[k]? = some (.cells cells q (0, 0))) x cs
  M_move : ∀ {w w1 : World} {base ok x cs}, (∀ k, ok k → w1.heap[k]? = w.heap[k]?) → M w base ok x cs → M w1 base ok x cs
  M_lower : ∀ {w base base' ok x cs}, base' ≤ base → M w base ok x cs → M w base' ok x cs
theorem own_move {w w1 : World} {base : Nat} {e : TypeId} {size n : Nat} {v : Value} {xs : List Value} (h : w.ownsRow base e size v n xs) (hm : ∀ k, v.ownBlock = some k → w1.heap[k]? = w.heap[k]?) : w1.ownsRow base e size v n xs := by
  obtain ⟨h1, h2⟩ := h
  refine ⟨h1, ?_⟩
  rcases h2 with h2 | ⟨g, cap, cur, rfl, hg, hh, r⟩
  · exact .inl h2
  · exact .inr ⟨g, cap, cur, rfl, hg, (hm g (by simp [Value.ownBlock])).trans hh, r⟩
theorem own_typed {w : World} {base : Nat} {e : TypeId} {size n : Nat} {v : Value} {xs : List Value} (h : w.ownsRow base e size v n xs) (k : Nat) (hk : v.ownBlock = some k) : ∃ cells, w.heap[k]? = some (.cells cells e (0, 0)) := by
  rcases h.2 with ⟨rfl, _⟩ | ⟨g, cap, cur, rfl, hg, hh, r⟩
  · simp [Value.ownBlock] at hk
  · have : g = k := by simpa [Value.ownBlock] using hk
    subst this
    exact ⟨cur, hh⟩
namespace Kd
def C {α : Type} (d : Kd α) (w : World) (A : Option Addr) (n : Nat) (xs : List α) : Prop := ReadsRow (d.K w) d.sz w A n xs
def R {α : Type} (d : Kd α) (e : Nat) (w : World) (base : Nat) (ok : Nat → Prop) (v : Value) (xs : List α) : Prop :=
  (∀ k, v.ownBlock = some k → ok k) ∧ OwnRow (d.M w base (fun k => ok k ∧ some k ≠ v.ownBlock)) e d.sz w base v xs
section
variable {α : Type} {d : Kd α} {e : Nat} {w w1 : World} {base : Nat} {ok ok' : Nat → Prop} {v : Value} {xs : List α}
theorem C_below {A : Option Addr} {n : Nat} (h : d.C w A n xs) (hb : Below w.heap.size w w1) : d.C w1 A n xs := ReadsRow.imp_ h hb (fun _ _ hp => d.K_below hb hp)
theorem R_nil (d : Kd α) (e : Nat) (w : World) (base : Nat) (ok : Nat → Prop) : d.R e w base ok (.slice none 0 0) [] := ⟨fun k hk => by simp [Value.ownBlock] at hk, OwnRow.none_ _ _ _ _ _⟩
theorem R_mono (h : d.R e w base ok v xs) (hok : ∀ k, ok k → ok' k) : d.R e w base ok' v xs := ⟨fun k hk => hok k (h.1 k hk), h.2.imp_ (fun _ _ hp => d.M_mono (fun k hk => ⟨hok k hk.1, hk.2⟩) hp)⟩
theorem R_bound (h : d.R e w base ok v xs) : d.R e w base (fun k => ok k ∧ base ≤ k ∧ k < w.heap.size ∧ ∃ q, q ∈ e :: d.E ∧ ∃ cells, w.heap[k]? = some (.cells cells q (0, 0))) v xs := by
  obtain ⟨h0, inner, ho, hr⟩ := h
  refine ⟨fun k hk => ?_, inner, ho, hr.imp_ (fun _ _ hp => d.M_mono (fun k hk => ?_) (d.M_bound hp))⟩
  · obtain ⟨cells, hc⟩ := own_typed ho k hk
    exact ⟨h0 k hk, own_base ho k hk, own_lt ho k hk, e, List.mem_cons_self, cells, hc⟩
  · obtain ⟨⟨h1, h2⟩, h3, h4, q, hq, hc⟩ := hk
    exact ⟨⟨h1, h3, h4, q, List.mem_cons_of_mem _ hq, hc⟩, h2⟩
theorem R_move (h : d.R e w base ok v xs) (hm : ∀ k, ok k → w1.heap[k]? = w.heap[k]?) : d.R e w1 base ok v xs := by
  obtain ⟨h0, inner, ho, hr⟩ := h
  exact ⟨h0, inner, own_move ho (fun k hk => hm k (h0 k hk)), hr.imp_ (fun _ _ hp => d.M_move (fun k hk => hm k hk.1) hp)⟩
theorem R_lower {base' : Nat} (h : d.R e w base ok v xs) (hb : base' ≤ base) : d.R e w base' ok v xs := by
  obtain ⟨h0, inner, ho, hr⟩ := h
  exact ⟨h0, inner, own_weaken ho hb, hr.imp_ (fun _ _ hp => d.M_lower hb hp)⟩
theorem R_step (h : d.R e w base ok v xs) (hm : ∀ k, ok k → k < w.heap.size → w1.heap[k]? = w.heap[k]?) : d.R e w1 base ok v xs :=
  R_mono (R_move (R_bound h) (fun k hk => hm k hk.1 hk.2.2.1)) (fun _ hk => hk.1)
theorem M_step {x : α} {cs : List Value} (h : d.M w base ok x cs) (hm : ∀ k, ok k → k < w.heap.size → w1.heap[k]? = w.heap[k]?) : d.M w1 base ok x cs :=
  d.M_mono (fun _ hk => hk.1) (d.M_move (fun k hk => hm k hk.1 hk.2.2.1) (d.M_bound h))
theorem R_below (h : d.R e w base ok v xs) (hb : Below w.heap.size w w1) : d.R e w1 base ok v xs := R_step h (fun k _ hk => hb.block k hk)
theorem M_below {x : α} {cs : List Value} (h : d.M w base ok x cs) (hb : Below w.heap.size w w1) : d.M w1 base ok x cs := M_step h (fun k _ hk => hb.block k hk)
theorem R_grown (h : d.R e w base ok v xs) {row : Option Nat} (hg : w.grownBy w1 row) (hok : ∀ k, ok k → some k ≠ row) : d.R e w1 base ok v xs := R_step h (fun k ho hk => hg.block k hk (hok k ho))
theorem R_reads (h : d.R e w base ok v xs) : ∃ A c, v = .slice A xs.length c ∧ xs.length ≤ c ∧ d.C w A xs.length xs := by
  obtain ⟨A, c, he, hl, hr⟩ := OwnRow.reads h.2
  exact ⟨A, c, he, hl, hr.imp_ (Below.refl _ _) (fun _ _ hp => d.K_of_M hp)⟩
theorem R_slice (h : d.R e w base ok v xs) : ∃ A c, v = .slice A xs.length c := by
  obtain ⟨A, c, he, _⟩ := R_reads h
  exact ⟨A, c, he⟩
theorem R_own (h : d.R e w base ok v xs) : ∃ inner, w.ownsRow base e d.sz v xs.length inner := by
  obtain ⟨_, inner, ho, _⟩ := h
  exact ⟨inner, ho⟩
end
def scalar {α : Type} (enc : α → Value) (h1 : ∀ x, (enc x).oneCell' = true) : Kd α where
  sz := 1
  E := []
  K := fun _ x cs => cs = [enc x]
  M := fun _ _ _ x cs => cs = [enc x]
  K_len := fun h => by rw [h]; rfl
  K_one := fun h u hu => by
    rw [h] at hu
    rw [List.mem_singleton.1 hu]
    exact h1 _
  K_below := fun _ h => h
  K_of_M := fun h => h
  M_mono := fun _ h => h
  M_bound := fun h => h
  M_move := fun _ h => h
  M_lower := fun _ h => h
def int (k : IntKind) : Kd Int := scalar (Value.int k) (fun _ => rfl)
def bool : Kd Bool := scalar Value.bool (fun _ => rfl)
def string : Kd ByteArray := scalar Value.string (fun _ => rfl)
def slice {α : Type} (e : Nat) (d : Kd α) : Kd (List α) where
  sz := 1
  E := e :: d.E
  K := fun w xs cs => ∃ A c, cs = [.slice A xs.length c] ∧ xs.length ≤ c ∧ d.C w A xs.length xs
  M := fun w base ok xs cs => ∃ v, cs = [v] ∧ d.R e w base ok v xs
  K_len := by
    rintro w x cs ⟨A, c, rfl, _⟩
    rfl
  K_one := by
    rintro w x cs ⟨A, c, rfl, _⟩ u hu
    rw [List.mem_singleton.1 hu]
    rfl
  K_below := by
    rintro w w1 x cs hb ⟨A, c, rfl, hl, hr⟩
    exact ⟨A, c, rfl, hl, C_below hr hb⟩
  K_of_M := by
    rintro w base ok x cs ⟨v, rfl, h⟩
    obtain ⟨A, c, rfl, hl, hr⟩ := R_reads h
    exact ⟨A, c, rfl, hl, hr⟩
  M_mono := by
    rintro w base ok ok' x cs hok ⟨v, rfl, h⟩
    exact ⟨v, rfl, R_mono h hok⟩
  M_bound := by
    rintro w base ok x cs ⟨v, rfl, h⟩
    exact ⟨v, rfl, R_bound h⟩
  M_move := by
    rintro w w1 base ok x cs hm ⟨v, rfl, h⟩
    exact ⟨v, rfl, R_move h hm⟩
  M_lower := by
    rintro w base base' ok x cs hb ⟨v, rfl, h⟩
    exact ⟨v, rfl, R_lower h hb⟩
def pair {α β : Type} (a : Kd α) (b : Kd β) : Kd (α × β) where
  sz := a.sz + b.sz
  E := a.E ++ b.E
  K := fun w x cs => ∃ c0 c1, cs = c0 ++ c1 ∧ a.K w x.1 c0 ∧ b.K w x.2 c1
  M := fun w base ok x cs => ∃ c0 c1, cs = c0 ++ c1 ∧ a.M w base ok x.1 c0 ∧ b.M w base ok x.2 c1
  K_len := by
    rintro w x cs ⟨c0, c1, rfl, h0, h1⟩
    rw [List.length_append, a.K_len h0, b.K_len h1]
  K_one := by
    rintro w x cs ⟨c0, c1, rfl, h0, h1⟩ u hu
    rcases List.mem_append.1 hu with hu | hu
    · exact a.K_one h0 u hu
    · exact b.K_one h1 u hu
  K_below := by
    rintro w w1 x cs hb ⟨c0, c1, rfl, h0, h1⟩
    exact ⟨c0, c1, rfl, a.K_below hb h0, b.K_below hb h1⟩
  K_of_M := by
    rintro w base ok x cs ⟨c0, c1, rfl, h0, h1⟩
    exact ⟨c0, c1, rfl, a.K_of_M h0, b.K_of_M h1⟩
  M_mono := by
    rintro w base ok ok' x cs hok ⟨c0, c1, rfl, h0, h1⟩
    exact ⟨c0, c1, rfl, a.M_mono hok h0, b.M_mono hok h1⟩
  M_bound := by
    rintro w base ok x cs ⟨c0, c1, rfl, h0, h1⟩
    refine ⟨c0, c1, rfl, a.M_mono ?_ (a.M_bound h0), b.M_mono ?_ (b.M_bound h1)⟩
    · rintro k ⟨h2, h3, h4, q, hq, hc⟩
      exact ⟨h2, h3, h4, q, List.mem_append_left _ hq, hc⟩
    · rintro k ⟨h2, h3, h4, q, hq, hc⟩
      exact ⟨h2, h3, h4, q, List.mem_append_right _ hq, hc⟩
  M_move := by
    rintro w w1 base ok x cs hm ⟨c0, c1, rfl, h0, h1⟩
    exact ⟨c0, c1, rfl, a.M_move hm h0, b.M_move hm h1⟩
  M_lower := by
    rintro w base base' ok x cs hb ⟨c0, c1, rfl, h0, h1⟩
    exact ⟨c0, c1, rfl, a.M_lower hb h0, b.M_lower hb h1⟩
def iso {α β : Type} (d : Kd α) (f : β → α) : Kd β where
  sz := d.sz
  E := d.E
  K := fun w x cs => d.K w (f x) cs
  M := fun w base ok x cs => d.M w base ok (f x) cs
  K_len := d.K_len
  K_one := d.K_one
  K_below := d.K_below
  K_of_M := d.K_of_M
  M_mono := d.M_mono
  M_bound := d.M_bound
  M_move := d.M_move
  M_lower := d.M_lower
def bot {α : Type} (sz : Nat) (E : List Nat) : Kd α where
  sz := sz
  E := E
  K := fun _ _ _ => False
  M := fun _ _ _ _ _ => False
  K_len := fun h => h.elim
  K_one := fun h => h.elim
  K_below := fun _ h => h
  K_of_M := fun h => h
  M_mono := fun _ h => h
  M_bound := fun h => h
  M_move := fun _ h => h
  M_lower := fun _ h => h
def upto {α : Type} (F : Kd α → Kd α) (sz : Nat) (E : List Nat) : Nat → Kd α
  | 0 => bot sz E
  | n + 1 => F (upto F sz E n)
def fix {α : Type} (F : Kd α → Kd α) (sz : Nat) (E : List Nat) (hs : ∀ n, (upto F sz E n).sz = sz) (hE : ∀ n q, q ∈ (upto F sz E n).E → q ∈ E) : Kd α where
  sz := sz
  E := E
  K := fun w x cs => ∃ n, (upto F sz E n).K w x cs
  M := fun w base ok x cs => ∃ n, (upto F sz E n).M w base ok x cs
  K_len := by
    rintro w x cs ⟨n, h⟩
    rw [(upto F sz E n).K_len h, hs n]
  K_one := by
    rintro w x cs ⟨n, h⟩
    exact (upto F sz E n).K_one h
  K_below := by
    rintro w w1 x cs hb ⟨n, h⟩
    exact ⟨n, (upto F sz E n).K_below hb h⟩
  K_of_M := by
    rintro w base ok x cs ⟨n, h⟩
    exact ⟨n, (upto F sz E n).K_of_M h⟩
  M_mono := by
    rintro w base ok ok' x cs hok ⟨n, h⟩
    exact ⟨n, (upto F sz E n).M_mono hok h⟩
  M_bound := by
    rintro w base ok x cs ⟨n, h⟩
    refine ⟨n, (upto F sz E n).M_mono ?_ ((upto F sz E n).M_bound h)⟩
    rintro k ⟨h2, h3, h4, q, hq, hc⟩
    exact ⟨h2, h3, h4, q, hE n q hq, hc⟩
  M_move := by
    rintro w w1 base ok x cs hm ⟨n, h⟩
    exact ⟨n, (upto F sz E n).M_move hm h⟩
  M_lower := by
    rintro w base base' ok x cs hb ⟨n, h⟩
    exact ⟨n, (upto F sz E n).M_lower hb h⟩
theorem C_get {α : Type} {d : Kd α} {w : World} {A : Option Addr} {n : Nat} {xs : List α} (h : d.C w A n xs) (z : α) (i : Int) (h0 : 0 ≤ i) (h1 : i < n) :
    ∃ ad c, A = some ad ∧ c.length = d.sz ∧ d.K w (xs.getD i.toNat z) c ∧ ∀ j u, c[j]? = some u → w.cell? (ad.add (i.toNat * d.sz + j)) = some u := ReadsRow.get_ h z i h0 h1
theorem R_appended {α : Type} {d : Kd α} {e base : Nat} {ok okp : Nat → Prop} {W w1 : World} {v v1 : Value} {xs : List α} {p : α} {inner cs : List Value} (h0 : ∀ k, v.ownBlock = some k → ok k) (hr : Reps (d.M W base (fun k => ok k ∧ some k ≠ v.ownBlock)) d.sz xs inner) (hp : d.M W base okp p cs) (hokp : ∀ k, okp k → ok k ∧ some k ≠ v.ownBlock) (hfresh : ∀ k, W.heap.size ≤ k → ok k)
    (hown : w1.ownsRow base e d.sz v1 (xs.length + 1) (inner ++ cs)) (hg : W.grownBy w1 v.ownBlock) (hat : v1.ownBlock = v.ownBlock ∨ ∃ b, v1.ownBlock = some b ∧ W.heap.size ≤ b) : d.R e w1 base ok v1 (xs ++ [p]) := by
  have hne : ∀ k, some k ≠ v.ownBlock → k < W.heap.size → some k ≠ v1.ownBlock := by
    intro k hk hlt
    rcases hat with hat | ⟨b, hb, hle⟩
    · rw [hat]; exact hk
    · rw [hb]
      intro he
      injection he with he
      omega
  have step : ∀ {q : α} {c : List Value} {o : Nat → Prop}, d.M W base o q c → (∀ k, o k → ok k ∧ some k ≠ v.ownBlock) → d.M w1 base (fun k => ok k ∧ some k ≠ v1.ownBlock) q c := by
    intro q c o hq ho
    have h1 := d.M_move (w1 := w1) (fun k hk => hg.block k hk.2.2.1 (ho k hk.1).2) (d.M_bound hq)
    exact d.M_mono (fun k hk => ⟨(ho k hk.1).1, hne k (ho k hk.1).2 hk.2.2.1⟩) h1
  refine ⟨fun k hk => ?_, inner ++ cs, by rw [List.length_append, List.length_singleton]; exact hown, ?_⟩
  · rcases hat with hat | ⟨b, hb, hle⟩
    · exact h0 k (hat ▸ hk)
    · rw [hb] at hk
      injection hk with hk
      exact hfresh k (by omega)
  · exact (hr.imp_ (fun _ _ hq => step hq (fun _ hk => hk))).snoc (step hp hokp) (d.K_len (d.K_of_M hp))
section
variable {P : Program} {ops : Array Oper} {rest : List Oper} {o : Oper} {a : Act} {Q : Exit → Act → World → Prop} {α : Type}
theorem R_append (d : Kd α) {w0 W : World} (base : Nat) (hgd : o.guard = none) (s x : Operand) (t e : TypeId) (z : Value) (bytes : Nat)
    (ho : o.op = .call { callee := .builtin .append, args := #[s, x], argTypes := #[t, t] })
    (ht : P.underlying t = some (.slice e)) (hinfo : (P.info? e).map (fun i => (i.zero, i.size, i.bytes)) = some (some z, d.sz, bytes)) (hz : z.cells.size = d.sz) (hs0 : 0 < d.sz) (hb0 : 0 < bytes)
    (v : Value) (xs : List α) (p : α) (cs : List Value) (ok okp : Nat → Prop) (hs : a.eval s = v) (hx : a.eval x = .slice (some ⟨W.heap.size, 0, none⟩) 1 1) (hp : d.M W base okp p cs) (hokp : ∀ k, okp k → ok k ∧ some k ≠ v.ownBlock) (hfresh : ∀ k, W.heap.size ≤ k → ok k)
    (HO : d.R e W base ok v xs) (HB : Below base w0 W) (hbase : base ≤ W.heap.size) (hl : (xs.length + 1) * bytes ≤ 140737488355328)
    (h : ∀ v1 w1, d.R e w1 base ok v1 (xs ++ [p]) → Below base w0 w1 → W.grownBy w1 v.ownBlock → (v1.ownBlock = v.ownBlock ∨ ∃ b, v1.ownBlock = some b ∧ W.heap.size ≤ b) → wpList P ops Q rest (a.put o.dst v1) w1) :
    wpList P ops Q (o :: rest) a (W.alloc (.cells cs.toArray e)) := by
  obtain ⟨h0, inner, hown, hr⟩ := HO
  refine print_append_cells base hgd s x t e z d.sz bytes ho ht hinfo hz hs0 hb0 v xs.length inner cs hs hx (d.K_len (d.K_of_M hp)) (d.K_one (d.K_of_M hp)) hown HB hbase hl ?_
  intro v1 w1 hown1 hb1 hg1 hat1
  exact h v1 w1 (R_appended h0 hr hp hokp hfresh hown1 hg1 hat1) hb1 hg1 hat1
end
section
variable {P : Program} {ops : Array Oper} {o : Oper} {a : Act} {Q : Exit → Act → World → Prop} {Kc : Act → World → Prop} {α : Type}
end
theorem reps_scalar {α : Type} {enc : α → Value} (xs : List α) : Reps (fun (x : α) (cs : List Value) => cs = [enc x]) 1 xs (encs enc xs) := by
  refine ⟨by simp [encs], fun j p hj => ?_⟩
  obtain ⟨hl, hp⟩ := List.getElem?_eq_some_iff.1 hj
  have hl' : j < (encs enc xs).length := by rw [encs_length]; exact hl
  rw [Nat.mul_one, List.drop_eq_getElem_cons hl']
  simp [encs, hp]
theorem R_of_own {α : Type} {enc : α → Value} {h1 : ∀ x, (enc x).oneCell' = true} {e : Nat} {w : World} {base : Nat} {ok : Nat → Prop} {v : Value} {xs : List α} (ho : w.ownsRow base e 1 v xs.length (encs enc xs)) (hok : ∀ k, v.ownBlock = some k → ok k) : (scalar enc h1).R e w base ok v xs := ⟨hok, encs enc xs, ho, reps_scalar xs⟩
theorem own_of_R {α : Type} {enc : α → Value} {h1 : ∀ x, (enc x).oneCell' = true} {e : Nat} {w : World} {base : Nat} {ok : Nat → Prop} {v : Value} {xs : List α} (h : (scalar enc h1).R e w base ok v xs) : w.ownsRow base e 1 v xs.length (encs enc xs) := by
  obtain ⟨_, inner, ho, hr⟩ := h
  have : inner = encs enc xs := by
    apply List.ext_getElem?
    intro j
    rcases Nat.lt_or_ge j xs.length with hj | hj
    · have h2 := hr.2 j _ (List.getElem?_eq_getElem hj)
      have hl : j < inner.length := by have := hr.1; simp [scalar] at this; omega
      have h3 : (inner.drop (j * 1)).take 1 = [enc xs[j]] := h2
      rw [Nat.mul_one, List.drop_eq_getElem_cons hl] at h3
      have h4 : inner[j] = enc xs[j] := by
        have h5 := congrArg List.head? h3
        rw [List.take_succ_cons] at h5
        exact Option.some.inj h5
      rw [List.getElem?_eq_getElem hl, h4]
      simp [encs, List.getElem?_eq_getElem hj]
    · have h3 : inner.length = xs.length := by have := hr.1; simp [scalar] at this; omega
      rw [List.getElem?_eq_none (by omega), List.getElem?_eq_none (by rw [encs_length]; omega)]
  rw [← this]
  exact ho
theorem C_of_reads {α : Type} {enc : α → Value} {d : α} {h1 : ∀ x, (enc x).oneCell' = true} {w : World} {A : Option Addr} {n : Nat} {xs : List α} (h : ReadsOf enc d w A n xs) : (scalar enc h1).C w A n xs := by
  refine ⟨h.1, h.2.1, fun hn => ?_⟩
  obtain ⟨ad, e, hc⟩ := h.2.2 hn
  refine ⟨ad, e, fun j p hj => ⟨[enc p], rfl, rfl, fun i u hu => ?_⟩⟩
  obtain ⟨hl, hp⟩ := List.getElem?_eq_some_iff.1 hj
  have h2 := hc j (by have := h.1; omega)
  rw [List.getD_eq_getElem?_getD, hj] at h2
  cases i with
  | zero =>
    have : enc p = u := by simpa using hu
    subst this
    simpa [scalar] using h2
  | succ i => simp at hu
theorem reads_of_C {α : Type} {enc : α → Value} {d : α} {h1 : ∀ x, (enc x).oneCell' = true} {w : World} {A : Option Addr} {n : Nat} {xs : List α} (h : (scalar enc h1).C w A n xs) : ReadsOf enc d w A n xs := by
  refine ⟨h.1, h.2.1, fun hn => ?_⟩
  obtain ⟨ad, e, hc⟩ := h.2.2 hn
  refine ⟨ad, e, fun j hj => ?_⟩
  have hl : j < xs.length := by have := h.1; omega
  obtain ⟨c, _, hK, hcell⟩ := hc j _ (List.getElem?_eq_getElem hl)
  have hK' : c = [enc xs[j]] := hK
  subst hK'
  have := hcell 0 _ rfl
  simpa [scalar, List.getD_eq_getElem?_getD, List.getElem?_eq_getElem hl] using this
end Kd
namespace Kd
structure Mono {α β : Type} (F : Kd α → Kd β) : Prop where
  sz : ∀ d d' : Kd α, d.sz = d'.sz → (F d).sz = (F d').sz
  K : ∀ d d' : Kd α, d.sz = d'.sz → (∀ w x cs, d.K w x cs → d'.K w x cs) → ∀ w x cs, (F d).K w x cs → (F d').K w x cs
  M : ∀ d d' : Kd α, d.sz = d'.sz → (∀ w base ok x cs, d.M w base ok x cs → d'.M w base ok x cs) → ∀ w base ok x cs, (F d).M w base ok x cs → (F d').M w base ok x cs
def Sub {α β : Type} (F : Kd α → Kd β) (E : List Nat) : Prop := ∀ d : Kd α, (∀ q, q ∈ d.E → q ∈ E) → ∀ q, q ∈ (F d).E → q ∈ E
section
variable {α : Type} {F : Kd α → Kd α} {sz : Nat} {E : List Nat} {hs : ∀ n, (upto F sz E n).sz = sz} {hE : ∀ n q, q ∈ (upto F sz E n).E → q ∈ E}
end
end Kd
namespace Kd
theorem R_after {α : Type} {d : Kd α} {e base : Nat} {ok : Nat → Prop} {W w1 : World} {u v v1 : Value} {xs : List α} (h : d.R e W base (fun k => ok k ∧ some k ≠ v.ownBlock) u xs) (hg : W.grownBy w1 v.ownBlock) (hat : v1.ownBlock = v.ownBlock ∨ ∃ b, v1.ownBlock = some b ∧ W.heap.size ≤ b) : d.R e w1 base (fun k => ok k ∧ some k ≠ v1.ownBlock) u xs := by
  refine R_mono (R_move (R_bound h) (fun k hk => hg.block k hk.2.2.1 hk.1.2)) (fun k hk => ⟨hk.1.1, ?_⟩)
  rcases hat with hat | ⟨b, hb, hle⟩
  · rw [hat]; exact hk.1.2
  · rw [hb]
    intro he
    injection he with he
    have := hk.2.2.1
    omega
end Kd
namespace Kd
section
variable {α β : Type} {d : Kd α} {d' : Kd β} {e e' : Nat} {w w1 W : World} {base b b' : Nat} {ok ok' okv oku : Nat → Prop} {v u : Value} {xs : List α} {ys : List β}
theorem R_alloc (h : d.R e w base ok v xs) (o : Obj) : d.R e (w.alloc o) base ok v xs := R_below h (below_alloc (Below.refl _ _) o)
theorem R_drew (h : d.R e w base ok v xs) : d.R e w.drew base ok v xs := R_below h (below_drew (Below.refl _ _))
theorem R_drewN (h : d.R e w base ok v xs) (m : Nat) : d.R e (w.drewN m) base ok v xs := R_below h (pw_below_drewN (Below.refl _ _) m)
theorem C_alloc {A : Option Addr} {n : Nat} (h : d.C w A n xs) (o : Obj) : d.C (w.alloc o) A n xs := C_below h (below_alloc (Below.refl _ _) o)
theorem C_drew {A : Option Addr} {n : Nat} (h : d.C w A n xs) : d.C w.drew A n xs := C_below h (below_drew (Below.refl _ _))
theorem C_drewN {A : Option Addr} {n : Nat} (h : d.C w A n xs) (m : Nat) : d.C (w.drewN m) A n xs := C_below h (pw_below_drewN (Below.refl _ _) m)
theorem C_nil (d : Kd α) (w : World) : d.C w none ([] : List α).length [] := ⟨rfl, by simp, fun h => absurd h (Nat.lt_irrefl 0)⟩
theorem C_max {A : Option Addr} {n : Nat} (h : d.C w A n xs) : n ≤ 9223372036854775807 := h.2.1
theorem R_reads' {A : Option Addr} {n c : Nat} (h : d.R e w base ok (.slice A n c) xs) : n = xs.length ∧ n ≤ c ∧ d.C w A xs.length xs := by
  obtain ⟨A', c', he, hl, hr⟩ := R_reads h
  injection he with h1 h2 h3
  subst h1
  exact ⟨h2, by omega, hr⟩
theorem R_lt (h : d.R e w base ok v xs) : ∀ k, v.ownBlock = some k → k < w.heap.size := by
  obtain ⟨inner, ho⟩ := R_own h
  exact own_lt ho
theorem R_base (h : d.R e w base ok v xs) : ∀ k, v.ownBlock = some k → base ≤ k := by
  obtain ⟨inner, ho⟩ := R_own h
  exact own_base ho
theorem R_form (h : d.R e w base ok v xs) (hp : 0 < xs.length) : ∃ g cap, v = .slice (some ⟨g, 0, none⟩) xs.length cap ∧ base ≤ g ∧ g < w.heap.size ∧ ∃ cells, w.heap[g]? = some (.cells cells e (0, 0)) := by
  obtain ⟨inner, ho⟩ := R_own h
  obtain ⟨g, cap, he, hb, hl⟩ := ho.form hp
  obtain ⟨cells, hc⟩ := own_typed ho g (by rw [he]; simp [Value.ownBlock])
  exact ⟨g, cap, he, hb, hl, cells, hc⟩
end
section
variable {w W : World} {A : Option Addr} {n : Nat}
theorem at_int {k : IntKind} {xs : List Int} (h : (Kd.int k).C w A n xs) (i : Int) (h0 : 0 ≤ i) (h1 : i < n) : ∃ ad, A = some ad ∧ w.cell? (ad.add i.toNat) = some (.int k (rd xs i)) :=
  ReadsOf.at_ (reads_of_C (enc := Value.int k) (d := (0 : Int)) (h1 := fun _ => rfl) h) i h0 h1
variable {α : Type} {enc : α → Value} {h1 : ∀ x, (enc x).oneCell' = true} {e base g cap : Nat} {ok : Nat → Prop} {xs : List α}
theorem R_cell (d : α) (h : (scalar enc h1).R e W base ok (.slice (some ⟨g, 0, none⟩) xs.length cap) xs) (i : Int) (h0 : 0 ≤ i) (hi : i < xs.length) : W.cell? ⟨g, i.toNat, none⟩ = some (enc (rdOf d xs i)) ∧ W.frozen? ⟨g, i.toNat, none⟩ = false := own_at_of (own_of_R h) i h0 hi
theorem R_put (h : (scalar enc h1).R e W base ok (.slice (some ⟨g, 0, none⟩) xs.length cap) xs) (i : Int) (x : α) : (scalar enc h1).R e (W.setCell ⟨g, i.toNat, none⟩ (enc x)) base ok (.slice (some ⟨g, 0, none⟩) xs.length cap) (xs.set i.toNat x) ∧ W.grownBy (W.setCell ⟨g, i.toNat, none⟩ (enc x)) (some g) := by
  obtain ⟨ho, hg⟩ := own_store_of (own_of_R h) i x
  exact ⟨R_of_own (by rw [List.length_set]; exact ho) h.1, hg⟩
end
section
variable {P : Program} {ops : Array Oper} {rest : List Oper} {o : Oper} {a : Act} {Q : Exit → Act → World → Prop}
theorem event_run {W w1 : World} {v : Value} (hgd : o.guard = none) (hrun : (execOp a.eval o).run P W = .ok (.value v) w1) (h : wpList P ops Q rest (a.put o.dst v) w1) : wpList P ops Q (o :: rest) a W := by
  refine wpList_plain hgd fun K hK => ?_
  unfold Oper.wp
  rw [hrun]
  exact hK _ _ h
variable {α : Type}
theorem R_lit (d : Kd α) {w0 W : World} (base e : Nat) (hgd : o.guard = none) {N : Tmp} (_hd : o.dst = some N) {xs : List α} {inner : List Value} {ok okp : Nat → Prop}
    (hrun : (execOp a.eval o).run P W = .ok (.value (.slice (some ⟨W.heap.size, 0, none⟩) xs.length xs.length)) (W.alloc (.cells inner.toArray e)))
    (hrep : Reps (d.M W base okp) d.sz xs inner) (hok : ∀ k, okp k → ok k) (hfresh : ok W.heap.size) (HB : Below base w0 W) (hbase : base ≤ W.heap.size) (hm : xs.length ≤ 9223372036854775807)
    (h : ∀ v1 w1, d.R e w1 base ok v1 xs → Below base w0 w1 → W.grownBy w1 none → (∃ b, v1.ownBlock = some b ∧ W.heap.size ≤ b) → wpList P ops Q rest (a.put o.dst v1) w1) : wpList P ops Q (o :: rest) a W := by
  refine event_run hgd hrun (h _ _ ⟨fun k hk => ?_, inner, ?_, ?_⟩ (HB.alloc hbase _) (World.grownBy_alloc W _ none) ⟨W.heap.size, by simp [Value.ownBlock], Nat.le_refl _⟩)
  · have : W.heap.size = k := by simpa [Value.ownBlock] using hk
    subst this
    exact hfresh
  · have h2 := World.ownsRow_lit (base := base) (e := e) (size := d.sz) W inner.toArray xs.length hbase (by simpa [maxLen] using hm) (by simpa using hrep.1)
    simpa using h2
  · refine hrep.imp_ (fun p c hp => d.M_mono (fun k hk => ⟨hok k hk.1, fun he => ?_⟩) (M_below (d.M_bound hp) (below_alloc (Below.refl _ _) _)))
    have h3 : k = W.heap.size := by simpa [Value.ownBlock] using he
    have := hk.2.2.1
    omega
theorem reps_made {α : Type} {R : α → List Value → Prop} {z : Value} {size : Nat} {z0 : α} (hz : z.cells.size = size) (hs : 0 < size) (h0 : R z0 z.cells.toList) (m : Nat) : Reps R size (List.replicate m z0) (madeCells z.cells (m * size)).toList := by
  refine ⟨by simp [size_madeCells], fun j p hj => ?_⟩
  obtain ⟨hjl, hp⟩ := List.getElem?_eq_some_iff.1 hj
  have hjm : j < m := by simpa using hjl
  have hp' : z0 = p := by simpa using hp
  subst hp'
  have hle : j * size + size ≤ m * size := by rw [← Nat.succ_mul]; exact Nat.mul_le_mul_right _ hjm
  have : ((madeCells z.cells (m * size)).toList.drop (j * size)).take size = z.cells.toList := by
    apply List.ext_getElem
    · simp [size_madeCells, hz]
      omega
    · intro i h1 h2
      have hi : i < size := by rw [Array.length_toList, hz] at h2; exact h2
      have hmod : (j * size + i) % size = i := by
        rw [Nat.mul_comm, Nat.mul_add_mod]
        exact Nat.mod_eq_of_lt hi
      simp [madeCells, hz, hmod]
      rw [getElem!_pos z.cells i (by omega)]
  rw [this]
  exact h0
theorem R_make (d : Kd α) {w0 W : World} (base e : Nat) (hgd : o.guard = none) {N : Tmp} (hd : o.dst = some N) (t : TypeId) (x y : Operand) (ho : o.op = .makeSlice t x y) (n : Int) (hx : a.eval x = .int .i64 n) (hy : a.eval y = .int .i64 n)
    (ht : P.underlying t = some (.slice e)) (z : Value) (bytes : Nat) (hinfo : (P.info? e).map (fun i => (i.zero, i.size, i.bytes)) = some (some z, d.sz, bytes)) (hz : z.cells.size = d.sz) (hs0 : 0 < d.sz) (hb0 : 0 < bytes)
    (z0 : α) {ok okp : Nat → Prop} (hzero : d.M W base okp z0 z.cells.toList) (hok : ∀ k, okp k → ok k) (hfresh : ok W.heap.size) (h0 : 0 ≤ n) (hl : n.toNat * bytes ≤ 281474976710656) (HB : Below base w0 W) (hbase : base ≤ W.heap.size)
    (h : ∀ v1 w1, d.R e w1 base ok v1 (List.replicate n.toNat z0) → Below base w0 w1 → W.grownBy w1 none → (∃ b, v1.ownBlock = some b ∧ W.heap.size ≤ b) → wpList P ops Q rest (a.put o.dst v1) w1) : wpList P ops Q (o :: rest) a W := by
  obtain ⟨m, rfl⟩ := Int.eq_ofNat_of_zero_le h0
  simp only [Int.toNat_natCast] at hl h
  obtain ⟨i0, hi, hzz⟩ := Option.map_eq_some_iff.1 hinfo
  simp only [Prod.mk.injEq] at hzz
  obtain ⟨hz0, hz1, hz2⟩ := hzz
  have hm : m ≤ 281474976710656 := Nat.le_trans (Nat.le_mul_of_pos_right _ hb0) hl
  have hr := run_make (P := P) W t e i0 z ht hi hz0 .i64 .i64 (m : Int) (m : Int) (by omega) (by omega)
    (by
      have h3 : ((i0.bytes * m : Nat) : Int) ≤ 281474976710656 := by rw [hz2, Nat.mul_comm]; omega
      rwa [Int.natCast_mul] at h3) (by omega)
  simp only [Int.toNat_natCast] at hr
  rw [hz1] at hr
  refine R_lit d base e hgd hd (xs := List.replicate m z0) (inner := (madeCells z.cells (m * d.sz)).toList) (okp := okp) (ok := ok) ?_ (reps_made hz hs0 hzero m) hok hfresh HB hbase (by simp; omega) h
  simp [execOp, ho, hx, hy, hr]
end
end Kd
theorem own_take {w : World} {base n m c size : Nat} {e : TypeId} {A : Option Addr} {xs : List Value} (h : w.ownsRow base e size (.slice A n c) n xs) (hm : m ≤ n) : w.ownsRow base e size (.slice A m c) m (xs.take (m * size)) := by
  obtain ⟨h1, h2⟩ := h
  refine ⟨by rw [List.length_take, h1]; exact Nat.min_eq_left (Nat.mul_le_mul_right _ hm), ?_⟩
  rcases h2 with ⟨he, h0⟩ | ⟨g, cap, cur, he, hb, hh, hnc, hcm, hcs, ht⟩
  · injection he with ha _ hc
    subst ha; subst hc
    exact .inl ⟨by rw [show m = 0 by omega], by omega⟩
  · injection he with ha _ hc
    subst ha; subst hc
    refine .inr ⟨g, c, cur, rfl, hb, hh, by omega, hcm, hcs, ?_⟩
    rw [← ht, List.take_take, Nat.min_eq_left (Nat.mul_le_mul_right _ hm)]
section
variable {P : Program}
end
def QRow (w : World) (base : Nat) (e : TypeId) (size : Nat) (v : Value) (n : Nat) (xs : List Value) : Prop :=
  xs.length = n * size ∧
  ((n = 0 ∧ ∃ A, v = .slice A 0 0 ∧ ∀ a, A = some a → base ≤ a.block ∧ ∃ cur, w.heap[a.block]? = some (.cells cur e (0, 0))) ∨
   ∃ g off cap cur, v = .slice (some ⟨g, off * size, none⟩) n cap ∧ base ≤ g ∧ w.heap[g]? = some (.cells cur e (0, 0)) ∧ n ≤ cap ∧ off + cap ≤ maxLen ∧ cur.size = (off + cap) * size ∧ (cur.toList.drop (off * size)).take (n * size) = xs)
section
variable {w w1 : World} {base n size : Nat} {e : TypeId} {v : Value} {xs : List Value}
theorem q_of_own (h : w.ownsRow base e size v n xs) : QRow w base e size v n xs := by
  obtain ⟨h1, h2⟩ := h
  refine ⟨h1, ?_⟩
  rcases h2 with ⟨rfl, h0⟩ | ⟨g, cap, cur, rfl, hb, hh, hnc, hcm, hcs, ht⟩
  · exact .inl ⟨h0, none, rfl, fun a ha => by cases ha⟩
  · exact .inr ⟨g, 0, cap, cur, by rw [Nat.zero_mul], hb, hh, hnc, by rw [Nat.zero_add]; exact hcm, by rw [Nat.zero_add]; exact hcs, by rw [Nat.zero_mul, List.drop_zero]; exact ht⟩
end
section
variable {P : Program}
end
namespace Kd
theorem reps_take {α : Type} {R : α → List Value → Prop} {size m : Nat} {ps : List α} {cs : List Value} (h : Reps R size ps cs) (hm : m ≤ ps.length) : Reps R size (ps.take m) (cs.take (m * size)) := by
  refine ⟨by rw [List.length_take, List.length_take, h.1, Nat.min_eq_left hm, Nat.min_eq_left (Nat.mul_le_mul_right _ hm)], fun j p hj => ?_⟩
  rw [List.getElem?_take] at hj
  split at hj
  · rename_i hjm
    have := h.2 j p hj
    have hle : j * size + size ≤ m * size := by rw [← Nat.succ_mul]; exact Nat.mul_le_mul_right _ hjm
    rw [List.drop_take, List.take_take, Nat.min_eq_left (by omega)]
    exact this
  · cases hj
theorem R_take {α : Type} {d : Kd α} {e m n c : Nat} {w : World} {base : Nat} {ok : Nat → Prop} {A : Option Addr} {xs : List α} (h : d.R e w base ok (.slice A n c) xs) (hm : m ≤ xs.length) : d.R e w base ok (.slice A m c) (xs.take m) := by
  obtain ⟨h0, inner, ho, hr⟩ := h
  have hn : n = xs.length := by
    obtain ⟨A', c', he⟩ := own_slice ho
    injection he
  subst hn
  have hb : ∀ x y : Nat, (Value.slice A x c).ownBlock = (Value.slice A y c).ownBlock := by
    intro x y
    cases A <;> rfl
  refine ⟨fun k hk => h0 k (by rw [hb _ m]; exact hk), inner.take (m * d.sz), ?_, ?_⟩
  · rw [List.length_take, Nat.min_eq_left hm]
    exact own_take ho hm
  · rw [hb m xs.length]
    exact reps_take hr hm
def Q {α : Type} (d : Kd α) (e : Nat) (w : World) (base : Nat) (ok : Nat → Prop) (v : Value) (xs : List α) : Prop :=
  (∀ k, v.ownBlock = some k → ok k) ∧ ∃ inner, QRow w base e d.sz v xs.length inner ∧ Reps (d.M w base (fun k => ok k ∧ some k ≠ v.ownBlock)) d.sz xs inner
section
variable {α : Type} {d : Kd α} {e : Nat} {w w1 W : World} {base : Nat} {ok ok' : Nat → Prop} {v : Value} {xs : List α}
theorem Q_of_R (h : d.R e w base ok v xs) : d.Q e w base ok v xs := by
  obtain ⟨h0, inner, ho, hr⟩ := h
  exact ⟨h0, inner, q_of_own ho, hr⟩
theorem Q_nil (d : Kd α) (e : Nat) (w : World) (base : Nat) (ok : Nat → Prop) : d.Q e w base ok (.slice none 0 0) [] := Q_of_R (R_nil d e w base ok)
end
section
variable {P : Program} {ops : Array Oper} {rest : List Oper} {o : Oper} {a : Act} {Q' : Exit → Act → World → Prop} {Kc : Act → World → Prop} {α : Type}
end
end Kd
namespace Kd
section
variable {α : Type} {d : Kd α} {e e' : Nat} {w w1 W : World} {base : Nat} {ok : Nat → Prop} {u v : Value} {xs : List α}
theorem R_typed (h : d.R e w base ok v xs) : ∀ k, v.ownBlock = some k → ∃ cells, w.heap[k]? = some (.cells cells e (0, 0)) := by
  obtain ⟨inner, ho⟩ := R_own h
  exact fun k hk => own_typed ho k hk
theorem R_elder' (hu : d.R e W base ok u xs) (hbase : ∀ k, v.ownBlock = some k → W.heap.size ≤ k) (hb : Below W.heap.size W w1) : d.R e w1 base (fun k => ok k ∧ some k ≠ v.ownBlock) u xs :=
  R_mono (R_move (R_bound hu) (fun k hk => hb.block k hk.2.2.1)) (fun k hk => ⟨hk.1, fun he => by have := hbase k he.symm; have := hk.2.2.1; omega⟩)
theorem R_new' (h : d.R e w1 W.heap.size ok v xs) (hlt : ∀ k, u.ownBlock = some k → k < W.heap.size) : d.R e w1 W.heap.size (fun k => ok k ∧ some k ≠ u.ownBlock) v xs :=
  R_mono (R_bound h) (fun k hk => ⟨hk.1, fun he => by have := hlt k he.symm; have := hk.2.1; omega⟩)
theorem fresh' (hlt : ∀ k, u.ownBlock = some k → k < W.heap.size) : ∀ k, W.heap.size ≤ k → some k ≠ u.ownBlock := fun k hk he => by have := hlt k he.symm; omega
end
end Kd
namespace Kd
section
variable {α : Type} {d : Kd α} {e base g n cap : Nat} {ok okp : Nat → Prop} {W : World} {xs : List α}
end
end Kd
namespace Kd
def fixed {α : Type} (d : Kd α) (w0 : World) : Kd α where
  sz := d.sz
  E := []
  K := fun _ x cs => d.K w0 x cs
  M := fun _ _ _ x cs => d.K w0 x cs
  K_len := d.K_len
  K_one := d.K_one
  K_below := fun _ h => h
  K_of_M := fun h => h
  M_mono := fun _ h => h
  M_bound := fun h => h
  M_move := fun _ h => h
  M_lower := fun _ h => h
def or_ {α : Type} (a b : Kd α) (h : b.sz = a.sz) : Kd α where
  sz := a.sz
  E := a.E ++ b.E
  K := fun w x cs => a.K w x cs ∨ b.K w x cs
  M := fun w base ok x cs => a.M w base ok x cs ∨ b.M w base ok x cs
  K_len := fun hk => hk.elim a.K_len (fun hk => (b.K_len hk).trans h)
  K_one := fun hk => hk.elim a.K_one b.K_one
  K_below := fun hb hk => hk.imp (a.K_below hb) (b.K_below hb)
  K_of_M := fun hk => hk.imp a.K_of_M b.K_of_M
  M_mono := fun hok hk => hk.imp (a.M_mono hok) (b.M_mono hok)
  M_bound := fun hk => hk.imp
    (fun hk => a.M_mono (fun _ ⟨h1, h2, h3, q, hq, hc⟩ => ⟨h1, h2, h3, q, List.mem_append_left _ hq, hc⟩) (a.M_bound hk))
    (fun hk => b.M_mono (fun _ ⟨h1, h2, h3, q, hq, hc⟩ => ⟨h1, h2, h3, q, List.mem_append_right _ hq, hc⟩) (b.M_bound hk))
  M_move := fun hm hk => hk.imp (a.M_move hm) (b.M_move hm)
  M_lower := fun hb hk => hk.imp (a.M_lower hb) (b.M_lower hb)
def mix {α : Type} (e : Nat) (d dm : Kd α) (w0 : World) : Kd (List α) := or_ (fixed (slice e d) w0) (slice e dm) rfl
section
variable {α : Type} {F : Kd α → Kd α} {sz : Nat} {E : List Nat} {hs : ∀ n, (upto F sz E n).sz = sz} {hE : ∀ n q, q ∈ (upto F sz E n).E → q ∈ E}
end
end Kd
namespace Kd
theorem reps_append {α : Type} {R : α → List Value → Prop} {size : Nat} {ps qs : List α} {cs ds : List Value} (h : Reps R size ps cs) (h' : Reps R size qs ds) : Reps R size (ps ++ qs) (cs ++ ds) := by
  refine ⟨by rw [List.length_append, List.length_append, h.1, h'.1, Nat.add_mul], fun j p hj => ?_⟩
  rcases Nat.lt_or_ge j ps.length with hlt | hge
  · rw [List.getElem?_append_left hlt] at hj
    have hle : j * size + size ≤ cs.length := by rw [h.1, ← Nat.succ_mul]; exact Nat.mul_le_mul_right _ hlt
    rw [List.drop_append_of_le_length (by omega), List.take_append_of_le_length (by rw [List.length_drop]; omega)]
    exact h.2 j p hj
  · rw [List.getElem?_append_right hge] at hj
    have h2 := h'.2 (j - ps.length) p hj
    have hle : ps.length * size ≤ j * size := Nat.mul_le_mul_right _ hge
    rw [List.drop_append, List.drop_eq_nil_of_le (by rw [h.1]; exact hle), List.nil_append, h.1, ← Nat.sub_mul]
    exact h2
section
variable {P : Program} {ops : Array Oper} {rest : List Oper} {o : Oper} {a : Act} {Q : Exit → Act → World → Prop} {α : Type}
theorem R_append_rows (d : Kd α) {Rr : α → List Value → Prop} {w0 W : World} (base : Nat) (hgd : o.guard = none) (s x : Operand) (t e : TypeId) (z : Value) (bytes : Nat)
    (ho : o.op = .call { callee := .builtin .append, args := #[s, x], argTypes := #[t, t] })
    (ht : P.underlying t = some (.slice e)) (hinfo : (P.info? e).map (fun i => (i.zero, i.size, i.bytes)) = some (some z, d.sz, bytes)) (hz : z.cells.size = d.sz) (hs0 : 0 < d.sz) (hb0 : 0 < bytes)
    (v : Value) (xs ys : List α) (A : Option Addr) (m c : Nat) (ok okp : Nat → Prop) (hs : a.eval s = v) (hx : a.eval x = .slice A m c)
    (HO : d.R e W base ok v xs) (HR : ReadsRow Rr d.sz W A m ys) (hKM : ∀ x cs, Rr x cs → d.M W base okp x cs) (hokp : ∀ k, okp k → ok k ∧ some k ≠ v.ownBlock) (hfresh : ∀ k, W.heap.size ≤ k → ok k)
    (HB : Below base w0 W) (hbase : base ≤ W.heap.size) (hl : (xs.length + m) * bytes ≤ 140737488355328)
    (h : ∀ v1 w1, d.R e w1 base ok v1 (xs ++ ys) → Below base w0 w1 → W.grownBy w1 v.ownBlock → (v1.ownBlock = v.ownBlock ∨ ∃ b, v1.ownBlock = some b ∧ W.heap.size ≤ b) → wpList P ops Q rest (a.put o.dst v1) w1) :
    wpList P ops Q (o :: rest) a W := by
  obtain ⟨i0, hi, hzz⟩ := Option.map_eq_some_iff.1 hinfo
  simp only [Prod.mk.injEq] at hzz
  obtain ⟨hz0, hz1, hz2⟩ := hzz
  have hm : ys.length = m := HR.1
  have hlen : xs.length + m ≤ 140737488355328 := Nat.le_trans (Nat.le_mul_of_pos_right _ hb0) hl
  obtain ⟨hok, inner, hown, hr⟩ := HO
  have hrun : ∃ v1 w1, (Builtin.append_ #[t, t] o.type #[v, .slice A m c]).run P W = .ok v1 w1 ∧ d.R e w1 base ok v1 (xs ++ ys) ∧ W.grownBy w1 v.ownBlock ∧ (v1.ownBlock = v.ownBlock ∨ ∃ b, v1.ownBlock = some b ∧ W.heap.size ≤ b) := by
    rcases A with _ | ad
    · have h0 : m = 0 := by
        rcases Nat.eq_zero_or_pos m with h0 | h0
        · exact h0
        · obtain ⟨ad, h, _⟩ := HR.2.2 h0
          cases h
      subst h0
      obtain rfl : ys = [] := List.eq_nil_of_length_eq_zero hm
      refine ⟨v, W, ?_, by rw [List.append_nil]; exact ⟨hok, inner, hown, hr⟩, World.grownBy.refl W _, .inl rfl⟩
      rcases hown.2 with ⟨rfl, hn⟩ | ⟨g, cap, cur, rfl, _, _, hnc, _⟩
      · simp [Builtin.append_, run_underlying ht, sizeOf, typeInfo, hi, Builtin.lenOf, Builtin.firstCells]
      · simp [Builtin.append_, run_underlying ht, sizeOf, typeInfo, hi, Builtin.lenOf, Builtin.firstCells, hnc, storeCells]
    · obtain ⟨news, hnr, hnc⟩ := ReadsRow.inner_ HR
      have hnM : Reps (d.M W base okp) d.sz ys news := hnr.imp_ (fun p c hp => hKM p c hp)
      have hone : ∀ u ∈ news, u.oneCell' = true := by
        intro u hu
        obtain ⟨q, hq, rfl⟩ := List.mem_iff_getElem.1 hu
        have hql : q / d.sz < ys.length := by
          rw [Nat.div_lt_iff_lt_mul hs0]
          rw [← hnM.1]
          exact hq
        have hc := hnM.2 (q / d.sz) _ (List.getElem?_eq_getElem hql)
        refine d.K_one (d.K_of_M hc) _ ?_
        rw [List.mem_iff_getElem?]
        refine ⟨q % d.sz, ?_⟩
        rw [List.getElem?_take, if_pos (Nat.mod_lt _ hs0), List.getElem?_drop, Nat.mul_comm, Nat.div_add_mod, List.getElem?_eq_getElem hq]
      obtain ⟨v1, w1, hrun, h2, hg, _, hat⟩ := run_append_own_at (P := P) W base t o.type e i0 z d.sz bytes ht hi hz0 hz1 hz2 hz hs0 v xs.length inner hown ad m c news (by rw [hnM.1, hm]) hnc hone (by simp only [maxLen]; omega) hl hbase
      have hat' : v1.ownBlock = v.ownBlock ∨ ∃ b, v1.ownBlock = some b ∧ W.heap.size ≤ b := by
        rcases hat with hat | hat
        · exact .inl hat
        · exact .inr ⟨_, hat, Nat.le_refl _⟩
      have hne : ∀ k, some k ≠ v.ownBlock → k < W.heap.size → some k ≠ v1.ownBlock := by
        intro k hk hlt
        rcases hat' with hat | ⟨b, hb, hle⟩
        · rw [hat]; exact hk
        · rw [hb]
          intro he
          injection he with he
          omega
      have step : ∀ {q : α} {c : List Value} {o : Nat → Prop}, d.M W base o q c → (∀ k, o k → ok k ∧ some k ≠ v.ownBlock) → d.M w1 base (fun k => ok k ∧ some k ≠ v1.ownBlock) q c := by
        intro q c o hq ho
        have h1 := d.M_move (w1 := w1) (fun k hk => hg.block k hk.2.2.1 (ho k hk.1).2) (d.M_bound hq)
        exact d.M_mono (fun k hk => ⟨(ho k hk.1).1, hne k (ho k hk.1).2 hk.2.2.1⟩) h1
      refine ⟨v1, w1, hrun, ⟨fun k hk => ?_, inner ++ news, by rw [List.length_append, hm]; exact h2, reps_append (hr.imp_ (fun _ _ hq => step hq (fun _ hk => hk))) (hnM.imp_ (fun _ _ hq => step hq hokp))⟩, hg, hat'⟩
      rcases hat' with hat | ⟨b, hb, hle⟩
      · exact hok k (hat ▸ hk)
      · rw [hb] at hk
        injection hk with hk
        exact hfresh k (by omega)
  obtain ⟨v1, w1, hr1, h1, hg, hat⟩ := hrun
  refine wpList_plain hgd fun K hK => ?_
  unfold Oper.wp execOp
  simp only [ho, resolve, invoke, builtin, Sem.run_bind, Sem.run_pure, Result.andThen_ok, List.map_toArray, List.map_cons, List.map_nil, hs, hx, hr1]
  exact hK _ _ (h v1 w1 h1 (HB.grown hg hbase (own_base hown)) hg hat)
end
end Kd
namespace Kd
section
variable {P : Program} {ops : Array Oper} {rest : List Oper} {o : Oper} {a : Act} {Q : Exit → Act → World → Prop} {α : Type}
end
end Kd
namespace Kd
section
variable {α : Type} {k : Kd α} {w : World} {A : Option Addr} {xs : List α} {m c : Nat}
end
end Kd
section
variable {P : Program}
end
theorem string_of_reads {P : Program} {w : World} {src dst e : TypeId} {A : Option Addr} {n c : Nat} {xs : List Int} (hs : P.underlying src = some (.slice e)) (he : P.underlying e = some (.int .u8)) (hd : P.underlying dst = some .string)
    (h : ReadsInt w .u8 A n xs) : (convert src dst (.slice A n c)).run P w = .ok (.string (strOfNums xs)) w := by
  have hn : xs.length = n := h.1
  rcases A with _ | ad
  · have h0 : n = 0 := by
      rcases Nat.eq_zero_or_pos n with h0 | h0
      · exact h0
      · obtain ⟨ad, h', _⟩ := h.2.2 h0
        cases h'
    subst h0
    obtain rfl : xs = [] := List.eq_nil_of_length_eq_zero hn
    exact run_convert_bytes_nil w src e hs he 0 c dst hd
  · have hl : (loadCells ad n).run P w = .ok (xs.map (Value.int .u8)).toArray w := by
      have := run_loadCells_list (P := P) w ad (xs.map (Value.int .u8)) (fun j v hj => by
        have hjl : j < xs.length := by
          rcases Nat.lt_or_ge j xs.length with h' | h'
          · exact h'
          · rw [List.getElem?_eq_none (by rw [List.length_map]; exact h')] at hj
            cases hj
        obtain ⟨ad', he', hc⟩ := h.2.2 (by omega)
        injection he' with he'
        subst he'
        rw [hc j (by omega)]
        rw [List.getElem?_map, List.getElem?_eq_getElem hjl] at hj
        simp at hj
        subst hj
        simp [List.getD_eq_getElem?_getD, List.getElem?_eq_getElem hjl])
      simpa [hn] using this
    rw [run_convert_bytes_string w src dst e _ n c hs he hd, run_bytesToString w ad n c xs hl, foldl_push_bytes]
    simp [strOfNums, ByteArray.empty, ByteArray.emptyWithCapacity]
    rfl
theorem Kd.C_string {P : Program} {w : World} {src dst e : TypeId} {A : Option Addr} {n c : Nat} {xs : List Int} (hs : P.underlying src = some (.slice e)) (he : P.underlying e = some (.int .u8)) (hd : P.underlying dst = some .string)
    (h : (Kd.int .u8).C w A n xs) : (convert src dst (.slice A n c)).run P w = .ok (.string (strOfNums xs)) w :=
  string_of_reads hs he hd (Kd.reads_of_C (enc := Value.int .u8) (d := (0 : Int)) (h1 := fun _ => rfl) h)
theorem below_size {w W : World} (h : Below w.heap.size w W) : w.heap.size ≤ W.heap.size := h.size
theorem below_step {w W w2 : World} (h : Below w.heap.size w W) (k : Below W.heap.size W w2) : Below w.heap.size w w2 := below_then h h.size k
theorem ReadsInt.drewN {W : World} {k : IntKind} {A : Option Addr} {n : Nat} {xs : List Int} (h : ReadsInt W k A n xs) (m : Nat) : ReadsInt (W.drewN m) k A n xs := h
theorem below_set {w W : World} {g j : Nat} {v : Value} (h : Below w.heap.size w W) (hg : w.heap.size ≤ g) : Below w.heap.size w (W.setCell ⟨g, j, none⟩ v) := h.setCell hg _
theorem add_block (a : Addr) (i : Nat) : (a.add i).block = a.block := by unfold Addr.add; split <;> rfl
theorem ReadsOf.drewN {α : Type} {enc : α → Value} {d : α} {W : World} {A : Option Addr} {n : Nat} {xs : List α} (h : ReadsOf enc d W A n xs) (m : Nat) : ReadsOf enc d (W.drewN m) A n xs := h
theorem below_drew1 {base : Nat} {w W : World} (h : Below base w W) : Below base w W.drew := h.drew
namespace Kd
section
variable {α β : Type} {d : Kd α} {d' : Kd β} {e e' base base' n : Nat} {ok ok' : Nat → Prop} {w W w1 W1 : World} {v u : Value} {xs : List α} {ys : List β} {A : Option Addr} {c : Nat}
end
section
variable {α : Type} {enc : α → Value} {h1 : ∀ x, (enc x).oneCell' = true} {w W : World} {A : Option Addr} {n g : Nat} {xs : List α}
end
end Kd
namespace Kd
section
variable {α : Type} {d : Kd α} {e base g : Nat} {ok : Nat → Prop} {w w1 : World} {v : Value} {xs : List α} {o : Obj}
end
end Kd
section
variable {P : Program} {ops : Array Oper} {rest : List Oper} {o : Oper} {a : Act} {Q : Exit → Act → World → Prop}
end
namespace Kd
section
variable {α : Type} {enc : α → Value} {h1 : ∀ x, (enc x).oneCell' = true} {e base g n cap : Nat} {ok : Nat → Prop} {W : World} {xs : List α}
theorem R_celln (d : α) (h : (scalar enc h1).R e W base ok (.slice (some ⟨g, 0, none⟩) n cap) xs) (i : Int) (h0 : 0 ≤ i) (hi : i < n) : W.cell? ⟨g, i.toNat, none⟩ = some (enc (rdOf d xs i)) ∧ W.frozen? ⟨g, i.toNat, none⟩ = false := by
  obtain ⟨rfl, _⟩ := R_reads' h
  exact R_cell d h i h0 hi
theorem R_putn (h : (scalar enc h1).R e W base ok (.slice (some ⟨g, 0, none⟩) n cap) xs) (i : Int) (x : α) : (scalar enc h1).R e (W.setCell ⟨g, i.toNat, none⟩ (enc x)) base ok (.slice (some ⟨g, 0, none⟩) n cap) (xs.set i.toNat x) := by
  obtain ⟨rfl, _⟩ := R_reads' h
  exact (R_put h i x).1
end
end Kd
section
variable {P : Program} {ops : Array Oper} {rest : List Oper} {o : Oper} {a : Act} {Q : Exit → Act → World → Prop}
end
namespace Kd
section
variable {α : Type} {enc : α → Value} {h1 : ∀ x, (enc x).oneCell' = true} {e base g n cap : Nat} {ok : Nat → Prop} {W : World} {xs : List α}
end
end Kd
section
variable {P : Program} {ops : Array Oper} {rest : List Oper} {o : Oper} {a : Act} {Q : Exit → Act → World → Prop} {W : World}
theorem gate_dst {N : Tmp} (_hN : o.dst = some N) (h : wpList P ops Q (o :: rest) a W) : wpList P ops Q (o :: rest) a W := h
end
section
variable {P : Program} {ops : Array Oper} {o : Oper} {a : Act} {Q : Exit → Act → World → Prop} {Kc : Act → World → Prop}
namespace Kd
variable {α : Type}
end Kd
end
inductive Vals (P : Program) (tmps : Array Value) (w : World) : List ResultVar → List Value → Prop where
  | nil : Vals P tmps w [] []
  | tmp {u : Tmp} {rs : List ResultVar} {vs : List Value} (h : Vals P tmps w rs vs) : Vals P tmps w (.tmp u :: rs) (tmps.getD u undef :: vs)
  | cell {p : Tmp} {ty : TypeId} {rs : List ResultVar} {vs : List Value} (g : Nat) (t : TypeId) (cs : Array Value) (fr : Nat × Nat) (d : TypeDesc)
      (hp : tmps.getD p undef = .pointer (some ⟨g, 0, none⟩)) (hg : w.heap[g]? = some (.cells cs t fr))
      (hu : P.underlying ty = some d) (hd : (match d with | .struct _ | .array _ _ => true | _ => false) = true) (hi : (P.info? ty).map (·.size) = some cs.size)
      (h : Vals P tmps w rs vs) : Vals P tmps w (.cell p ty :: rs) (.agg cs :: vs)
section
variable {P : Program} {tmps : Array Value} {w : World}
end
namespace Kd
section
variable {P : Program} {α : Type}
end
section
variable {P : Program} {ops : Array Oper} {rest : List Oper} {o : Oper} {a : Act} {Q : Exit → Act → World → Prop} {Kc : Act → World → Prop} {α : Type}
end
end Kd
end Go.Proofs.YtplkndmkchpcdaaGreatW.PrintWords
end
section
namespace Go.Proofs.YtplkndmkchpcdaaGreatW.PrintLast
open YtplkndmkchpcdaaGreatW.PrintWords (Aside0)
def needsOf (md : Region.Mode) (o : Oper) : List Nat := (o.after.toList.filter (fun e => Region.binds md e)).map (fun e => e.on)
def clashOf (md : Region.Mode) (ops : Array Oper) (i : Nat) (oi : Oper) : List Nat := (List.range ops.size).filter fun j => !(j == i) && match ops[j]? with
  | some oj => !(oj.after.any (fun e => Region.binds md e && e.on == i) || oi.apart ops oj)
  | none => false
def rtab (md : Region.Mode) (ops : Array Oper) : Bool × List (List Nat × List Nat) := (Region.noSelect ops, (List.range ops.size).map fun i => match ops[i]? with
  | some o => (needsOf md o, clashOf md ops i o)
  | none => ([], []))
def readyAt (T : List (List Nat × List Nat)) (l : List Bool) (i : Nat) : Bool := !l.getD i true && match T[i]? with
  | some r => r.1.all (fun j => l.getD j false)
  | none => false
def readyT (T : List (List Nat × List Nat)) (l : List Bool) : List Nat := (List.range T.length).filter (readyAt T l)
def freeT (T : List (List Nat × List Nat)) (l : List Bool) (i : Nat) : Bool := match T[i]? with
  | some r => r.2.all (fun j => l.getD j true)
  | none => false
def closedT (T : List (List Nat × List Nat)) (l : List Bool) : Bool := (List.range T.length).all fun j => !l.getD j false || match T[j]? with
  | some r => r.1.all (fun k => l.getD k false)
  | none => true
def reachT (T : List (List Nat × List Nat)) (i : Nat) : Nat → Nat → Bool
  | 0, _ => false
  | fuel + 1, d => match T[d]? with
    | some r => r.1.any fun j => j == i || reachT T i fuel j
    | none => false
def lastT (T : List (List Nat × List Nat)) (l : List Bool) (ds : List Nat) (i : Nat) : Bool := ds.all fun d => l.getD d true || reachT T i T.length d
section
variable {md : Region.Mode} {ops : Array Oper} {T : Bool × List (List Nat × List Nat)} {l l' li lj lk : Array Bool} {ds : List Nat} {i j k : Nat}
theorem gd (l : Array Bool) (j : Nat) (b : Bool) : l.getD j b = l.toList.getD j b := by simp [Array.getD_eq_getD_getElem?, List.getD_eq_getElem?_getD]
theorem needs_all (o : Oper) (p : Nat → Bool) : o.after.all (fun e => !Region.binds md e || p e.on) = (needsOf md o).all p := by
  unfold needsOf
  rw [← Array.all_toList]
  induction o.after.toList with
  | nil => rfl
  | cons e r ih =>
    rw [List.all_cons, ih, List.filter_cons]
    cases h : Region.binds md e <;> simp
theorem needs_any (o : Oper) (p : Nat → Bool) : o.after.any (fun e => Region.binds md e && p e.on) = (needsOf md o).any p := by
  unfold needsOf
  rw [← Array.any_toList]
  induction o.after.toList with
  | nil => rfl
  | cons e r ih =>
    rw [List.any_cons, ih, List.filter_cons]
    cases h : Region.binds md e <;> simp
theorem rtab_length : (rtab md ops).2.length = ops.size := by simp [rtab]
theorem rtab_some {o : Oper} (h : ops[i]? = some o) : (rtab md ops).2[i]? = some (needsOf md o, clashOf md ops i o) := by
  have hi := (Array.getElem?_eq_some_iff.1 h).1
  unfold rtab
  rw [List.getElem?_map, List.getElem?_range hi, Option.map_some, h]
theorem rtab_none (h : ops[i]? = none) : (rtab md ops).2[i]? = none := by
  have hi : ops.size ≤ i := Array.getElem?_eq_none_iff.1 h
  exact List.getElem?_eq_none (by rw [rtab_length]; exact hi)
theorem readyAt_eq : readyAt (rtab md ops).2 l.toList i = (!l.getD i true && ((ops[i]?).map (·.after.all fun e => !Region.binds md e || l.getD e.on false)).getD false) := by
  unfold readyAt
  rw [gd]
  cases h : ops[i]? with
  | none => rw [rtab_none h]; rfl
  | some o =>
    rw [rtab_some h]
    simp only [Option.map_some, Option.getD_some]
    rw [← needs_all]
    simp only [gd]
theorem ready_eq : Region.ready md ops l = readyT (rtab md ops).2 l.toList := by
  unfold Region.ready readyT
  rw [rtab_length]
  refine List.filter_congr (fun i _ => ?_)
  rw [readyAt_eq]
theorem free_eq : Region.free md ops l i = freeT (rtab md ops).2 l.toList i := by
  unfold Region.free freeT
  cases h : ops[i]? with
  | none => rw [rtab_none h]
  | some oi =>
    rw [rtab_some h]
    simp only [clashOf]
    rw [List.all_filter]
    congr 1
    funext j
    rw [gd]
    cases hj : ops[j]? with
    | none => cases (j == i) <;> cases (l.toList.getD j true) <;> simp
    | some oj =>
      cases (j == i) <;> cases (l.toList.getD j true) <;> cases (oj.after.any (fun e => Region.binds md e && e.on == i) || oi.apart ops oj) <;> simp_all
theorem closed_eq : Region.closedB md ops l = closedT (rtab md ops).2 l.toList := by
  unfold Region.closedB closedT
  rw [rtab_length]
  congr 1
  funext j
  rw [gd]
  cases h : ops[j]? with
  | none => rw [rtab_none h]
  | some o =>
    rw [rtab_some h]
    simp only
    rw [← needs_all]
    simp only [gd]
theorem reach_eq : ∀ (fuel d : Nat), Region.reachB md ops i fuel d = reachT (rtab md ops).2 i fuel d
  | 0, _ => rfl
  | fuel + 1, d => by
    unfold Region.reachB reachT
    cases h : ops[d]? with
    | none => rw [rtab_none h]
    | some o =>
      rw [rtab_some h]
      simp only
      rw [← needs_any]
      congr 1
      funext e
      rw [reach_eq fuel]
theorem last_eq : Region.lastB md ops l ds i = lastT (rtab md ops).2 l.toList ds i := by
  unfold Region.lastB lastT
  rw [rtab_length]
  congr 1
  funext d
  rw [gd, reach_eq]
theorem readyAt_mem (h : readyAt T.2 l.toList i = true) (hT : rtab md ops = T) : (Region.ready md ops l).contains i = true := by
  subst hT
  rw [ready_eq]
  unfold readyT
  rw [List.contains_iff_mem, List.mem_filter, List.mem_range]
  refine ⟨?_, h⟩
  unfold readyAt at h
  rw [Bool.and_eq_true] at h
  cases hq : (rtab md ops).2[i]? with
  | none => rw [hq] at h; simp at h
  | some r => exact (List.getElem?_eq_some_iff.1 hq).1
theorem set_of (h : (l.toList.set i true == l'.toList) = true) : (l.setIfInBounds i true == l') = true := by
  rw [beq_iff_eq] at h ⊢
  apply Array.ext'
  rw [Array.toList_setIfInBounds]
  exact h
def anyT (T : Bool × List (List Nat × List Nat)) (l l' : List Bool) (i : Nat) : Bool := T.1 && freeT T.2 l i && readyAt T.2 l i && (l.set i true == l')
theorem any_of (hT : rtab md ops = T) (h : anyT T l.toList l'.toList i = true) : anyB md ops l l' i = true := by
  simp only [anyT, Bool.and_eq_true] at h
  obtain ⟨⟨⟨h1, h2⟩, h3⟩, h4⟩ := h
  have h5 := readyAt_mem h3 hT
  have h6 := set_of h4
  subst hT
  simp only [anyB, Bool.and_eq_true]
  exact ⟨⟨⟨h1, by rw [free_eq]; exact h2⟩, h5⟩, h6⟩
def takeT (T : Bool × List (List Nat × List Nat)) (ds : List Nat) (l l' : List Bool) (i : Nat) : Bool := T.1 && freeT T.2 l i && readyAt T.2 l i && closedT T.2 l && lastT T.2 l ds i && (l.set i true == l')
theorem take_of (hT : rtab md ops = T) (h : takeT T ds l.toList l'.toList i = true) : takeB md ops ds l l' i = true := by
  simp only [takeT, Bool.and_eq_true] at h
  obtain ⟨⟨⟨⟨⟨h1, h2⟩, h3⟩, h4⟩, h5⟩, h6⟩ := h
  have h7 := readyAt_mem h3 hT
  have h8 := set_of h6
  subst hT
  simp only [takeB, Bool.and_eq_true]
  exact ⟨⟨⟨⟨⟨h1, by rw [free_eq]; exact h2⟩, h7⟩, by rw [closed_eq]; exact h4⟩, by rw [last_eq]; exact h5⟩, h8⟩
theorem one_of (hT : rtab md ops = T) (h : (readyT T.2 l.toList == [i] && l.toList.set i true == l'.toList) = true) : readyB md ops l l' i = true := by
  simp only [Bool.and_eq_true] at h
  obtain ⟨h1, h2⟩ := h
  subst hT
  simp only [readyB, Bool.and_eq_true]
  exact ⟨by rw [ready_eq]; exact h1, set_of h2⟩
theorem two_of (hT : rtab md ops = T) (h : (readyT T.2 l.toList == [i, j] && l.toList.set i true == li.toList && l.toList.set j true == lj.toList) = true) : (Region.ready md ops l == [i, j] && l.setIfInBounds i true == li && l.setIfInBounds j true == lj) = true := by
  simp only [Bool.and_eq_true] at h ⊢
  obtain ⟨⟨h1, h2⟩, h3⟩ := h
  subst hT
  exact ⟨⟨by rw [ready_eq]; exact h1, set_of h2⟩, set_of h3⟩
theorem done_of (hT : rtab md ops = T) (h : (readyT T.2 l.toList == []) = true) : (Region.ready md ops l == []) = true := by
  subst hT
  rw [ready_eq]
  exact h
def upM (B : List Nat) (d : Nat) : List Nat → Nat
  | [] => 0
  | n :: r => (2 ^ n ||| (if n < d then B.getD n 0 else 0)) ||| upM B d r
def waitsOk (T : List (List Nat × List Nat)) (B : List Nat) : Bool := (List.range T.length).all fun d => match T[d]? with
  | some r => (B.getD d 0 ||| upM B d r.1) == upM B d r.1
  | none => false
theorem upM_bit {B : List Nat} {d i : Nat} : ∀ {ns : List Nat}, (upM B d ns).testBit i = true → ∃ n ∈ ns, n = i ∨ (n < d ∧ (B.getD n 0).testBit i = true)
  | [], h => by simp [upM] at h
  | n :: r, h => by
    unfold upM at h
    rw [Nat.testBit_or, Nat.testBit_or, Bool.or_eq_true, Bool.or_eq_true] at h
    rcases h with (h | h) | h
    · rw [Nat.testBit_two_pow] at h
      exact ⟨n, List.mem_cons_self, .inl (by simpa using h)⟩
    · by_cases hn : n < d
      · rw [if_pos hn] at h
        exact ⟨n, List.mem_cons_self, .inr ⟨hn, h⟩⟩
      · rw [if_neg hn] at h
        simp at h
    · obtain ⟨m, hm, h2⟩ := upM_bit h
      exact ⟨m, List.mem_cons_of_mem _ hm, h2⟩
theorem reach_bit {T : List (List Nat × List Nat)} {B : List Nat} (hB : waitsOk T B = true) : ∀ (fuel d : Nat), d < fuel → d < T.length → (B.getD d 0).testBit i = true → reachT T i fuel d = true
  | 0, d, h, _, _ => by omega
  | fuel + 1, d, h, hd, hb => by
    have h1 := List.all_eq_true.1 hB d (List.mem_range.2 hd)
    cases hr : T[d]? with
    | none => rw [hr] at h1; simp at h1
    | some r =>
      rw [hr] at h1
      simp only [beq_iff_eq] at h1
      have h2 : (upM B d r.1).testBit i = true := by rw [← h1, Nat.testBit_or, hb, Bool.true_or]
      obtain ⟨n, hn, h3⟩ := upM_bit h2
      unfold reachT
      rw [hr]
      simp only
      rw [List.any_eq_true]
      refine ⟨n, hn, ?_⟩
      rcases h3 with rfl | ⟨h4, h5⟩
      · simp
      · rw [reach_bit hB fuel n (by omega) (by omega) h5, Bool.or_true]
def lastW (T : List (List Nat × List Nat)) (B : List Nat) (l : List Bool) (ds : List Nat) (i : Nat) : Bool := ds.all fun d => l.getD d true || (decide (d < T.length) && (B.getD d 0).testBit i)
def takeW (T : Bool × List (List Nat × List Nat)) (B : List Nat) (ds : List Nat) (l l' : List Bool) (i : Nat) : Bool := T.1 && freeT T.2 l i && readyAt T.2 l i && closedT T.2 l && lastW T.2 B l ds i && (l.set i true == l')
theorem take_ofW {B : List Nat} (hT : rtab md ops = T) (hB : waitsOk T.2 B = true) (h : takeW T B ds l.toList l'.toList i = true) : takeB md ops ds l l' i = true := by
  refine take_of hT ?_
  simp only [takeW, takeT, Bool.and_eq_true] at h ⊢
  obtain ⟨⟨⟨⟨⟨h1, h2⟩, h3⟩, h4⟩, h5⟩, h6⟩ := h
  refine ⟨⟨⟨⟨⟨h1, h2⟩, h3⟩, h4⟩, ?_⟩, h6⟩
  unfold lastW at h5
  unfold lastT
  rw [List.all_eq_true] at h5 ⊢
  intro d hd
  have h7 := h5 d hd
  rw [Bool.or_eq_true, Bool.and_eq_true, decide_eq_true_eq] at h7
  rcases h7 with h7 | ⟨h8, h9⟩
  · rw [h7, Bool.true_or]
  · rw [reach_bit hB _ d h8 h8 h9, Bool.or_true]
theorem with_tabW {P : Program} {Q : Exit → Act → World → Prop} {S : World → Prop} {n : Nat} {a : Act} {w : World} {B : List Nat} (hT : rtab md ops = T) (hB : waitsOk T.2 B = true) (h : Aside0 (rtab md ops = T) → Aside0 (waitsOk T.2 B = true) → wpAnyLast P md ops Q S ds n l a w) : wpAnyLast P md ops Q S ds n l a w := h ⟨hT⟩ ⟨hB⟩
end
def opsIn : Code → Nat → Option (Array Oper)
  | .region id ops _, k => if id == k then some ops else none
  | .seq a b, k => match opsIn a k with
    | some o => some o
    | none => opsIn b k
  | .cond _ a b, k => match opsIn a k with
    | some o => some o
    | none => opsIn b k
  | .block _ c, k => opsIn c k
  | .loop c, k => opsIn c k
  | .scope c, k => opsIn c k
  | .rangeFunc _ _ a b, k => match opsIn a k with
    | some o => some o
    | none => opsIn b k
  | _, _ => none
def opsOf (f : Func) (k : Nat) : Array Oper := ((f.body.bind fun c => opsIn c k)).getD #[]
end Go.Proofs.YtplkndmkchpcdaaGreatW.PrintLast
end
section
namespace Go.Proofs.YtplkndmkchpcdaaGreat
open Go YtplkndmkchpcdaaGreatW.PrintLast YtplkndmkchpcdaaGreatW.PrintWords
def bls (n x : Nat) : Array Bool := ((List.range n).map fun i => x.testBit i).toArray
theorem qT_ {α : Type} (l : List α) (i : Nat) (a : α) : l.toArray.setIfInBounds i a = (l.set i a).toArray := by simp
theorem q0_ {α : Type} (x : α) (l : List α) (a : α) : (x :: l).set 0 a = a :: l := rfl
theorem q1_ {α : Type} (x : α) (l : List α) (n : Nat) (a : α) : (x :: l).set (n + 1) a = x :: l.set n a := rfl
section
variable {P : Program} {ops : Array Oper} {Q : Exit → Act → World → Prop} {md : Region.Mode} {S : World → Prop} {T : Bool × List (List Nat × List Nat)} {B : List Nat} {n x i fuel : Nat} {N : Option Tmp} {oi : Oper} {v : Value} {a a' : Act} {w : World}
theorem s_ {id : Nat} (n : Nat) (S : World → Prop) (hT : rtab .any ops = T) (hB : waitsOk T.2 B = true) (hS : S w.drew)
    (h : S w.drew → Aside0 (rtab .any ops = T) → Aside0 (waitsOk T.2 B = true) → wpAnyLast P .any ops Q S [] n (bls n 0) a w.drew)
    (hm : P.follows .mixedOrders = true := by kernel_rfl) (hn : ops.size = n := by exact rfl) (hl : Array.replicate n false = bls n 0 := by kernel_rfl) : (Code.region id ops true).wp P Q a w :=
  start_ _ hm hn hl hS fun hs => h hs ⟨hT⟩ ⟨hB⟩
theorem p_ (i N : Nat) (h : wpAnyLast P md ops Q S [] fuel (bls n (x + 2 ^ i)) a' w) (hT : Aside0 (rtab md ops = T) := by assumption) (hi : ops[i]? = some oi := by exact rfl) (hN : oi.dst = some N := by exact rfl)
    (hc : anyT T (bls n x).toList (bls n (x + 2 ^ i)).toList i = true := by kernel_rfl) (hw : Region.wanted oi (yielded ops a.tmps) = true := by exact rfl)
    (hy : ∀ w', (execOp a.eval oi).run P w' = .ok (.value v) w' := by (intro w'; go_simp; with_reducible rfl)) (ha : a.put (some N) v = a' := by (simp only [Act.put, qT_, q0_, q1_, i64_w, i32_w]; rfl))
    (hQ : ∀ c a w, Q (.panic c) (a.put oi.dst v) w → Q (.panic c) a w := by exact fun _ _ _ h => h) :
    wpAnyLast P md ops Q S [] (fuel + 1) (bls n x) a w := pure_ _ hi hN (any_of hT.out hc) hQ (Or.inl ⟨hw, hy⟩) ha h
theorem o_ (i : Nat) (N : Option Tmp) (h : wpAnyLast P md ops Q S [] fuel (bls n (x + 2 ^ i)) a' w) (hT : Aside0 (rtab md ops = T) := by assumption) (hi : ops[i]? = some oi := by exact rfl) (hN : oi.dst = N := by exact rfl)
    (hc : anyT T (bls n x).toList (bls n (x + 2 ^ i)).toList i = true := by kernel_rfl) (hw : Region.wanted oi (yielded ops a.tmps) = false := by exact rfl)
    (ha : a.put N undef = a' := by (simp only [Act.put, qT_, q0_, q1_, i64_w, i32_w]; rfl))
    (hQ : ∀ c a w, Q (.panic c) (a.put oi.dst undef) w → Q (.panic c) a w := by exact fun _ _ _ h => h) :
    wpAnyLast P md ops Q S [] (fuel + 1) (bls n x) a w := pure_ _ hi hN (any_of hT.out hc) hQ (Or.inr ⟨hw, rfl⟩) ha h
theorem t_ (i N : Nat) (hS : S w) (h : wpAnyLast P md ops Q S [] fuel (bls n (x + 2 ^ i)) a' w) (hT : Aside0 (rtab md ops = T) := by assumption) (hB : Aside0 (waitsOk T.2 B = true) := by assumption) (hi : ops[i]? = some oi := by exact rfl) (hN : oi.dst = some N := by exact rfl)
    (hc : takeW T B [] (bls n x).toList (bls n (x + 2 ^ i)).toList i = true := by kernel_rfl) (hw : Region.wanted oi (yielded ops a.tmps) = true := by exact rfl) (hy : ∀ w', S w' → (execOp a.eval oi).run P w' = .ok (.value v) w' := by (intro w' s1; go_simp; rfl))
    (ha : a.put (some N) v = a' := by (simp only [Act.put, qT_, q0_, q1_, i64_w, i32_w]; rfl))
    (hQ : ∀ c a w, Q (.panic c) (a.put oi.dst v) w → Q (.panic c) a w := by exact fun _ _ _ h => h) :
    wpAnyLast P md ops Q S [] (fuel + 1) (bls n x) a w := take_ _ hi hN (take_ofW hT.out hB.out hc) hQ (Or.inl ⟨hw, hy⟩) hS ha h
theorem n_ (i : Nat) (N : Option Tmp) (h : ∀ K : Act → World → Prop, Shut (∀ a' w', S w' → (S w' → wpAnyLast P md ops Q S [] fuel (bls n (x + 2 ^ i)) a' w') → K a' w') → if Region.wanted oi (yielded ops a.tmps) = true then Oper.wp P oi a w K Q else K (a.put N undef) w)
    (hT : Aside0 (rtab md ops = T) := by assumption) (hi : ops[i]? = some oi := by exact rfl) (hN : oi.dst = N := by exact rfl) (hc : (readyT T.2 (bls n x).toList == [i] && (bls n x).toList.set i true == (bls n (x + 2 ^ i)).toList) = true := by kernel_rfl) :
    wpAnyLast P md ops Q S [] (fuel + 1) (bls n x) a w := one_ _ hi hN (one_of hT.out hc) (by simp) h
theorem g_ {K : Act → World → Prop} {f : FuncId} {fn : Func} (hf : P.funcs[f]? = some fn) {as0 : Array Operand} {ts : Array TypeId} (args : Array Value) (h : Calls P f args w fun e w' => ∃ v, e = .returned v ∧ K (a.put N v) w')
    (hop : oi.op = .call { callee := .value (.func f), args := as0, argTypes := ts } := by exact rfl) (hname : (fn.name == "runtime.NumGoroutine") = false := by exact rfl) (hb : fn.body.isSome = true := by exact rfl)
    (hw : Region.wanted oi (yielded ops a.tmps) = true := by exact rfl) (hN : oi.dst = N := by exact rfl) (hargs : as0.map a.eval = args := by ((try simp only [List.map_toArray, List.map_cons, List.map_nil]); first | done | rfl)) :
    if Region.wanted oi (yielded ops a.tmps) = true then Oper.wp P oi a w K Q else K (a.put N undef) w := goes_ hf hname hb args hw hN hop hargs h
theorem k_ {K : Act → World → Prop} {l : Array Bool} (hK : Shut (∀ a' w', S w' → (S w' → wpAnyLast P md ops Q S [] fuel l a' w') → K a' w')) (hS : S w) (h : S w → wpAnyLast P md ops Q S [] fuel l a' w)
    (ha : a.put N v = a' := by first | (simp only [Act.put, qT_, q0_, q1_, i64_w, i32_w]; rfl) | rfl) : K (a.put N v) w := hK.out _ _ hS fun hs => ha ▸ h hs
theorem d_ (h : Q .normal a w) (hT : Aside0 (rtab md ops = T) := by assumption) (hc : (readyT T.2 (bls n x).toList == []) = true := by kernel_rfl) : wpAnyLast P md ops Q S [] fuel (bls n x) a w := done_ (done_of hT.out hc) h
end
end Go.Proofs.YtplkndmkchpcdaaGreat
end
section
namespace Go.Proofs.YtplkndmkchpcdaaGreat.MapFn
open Go Go.Maps Go.ChangeMaps Go.MapKept
open Go.WideElems (Fit rd rg pl rd_val elemAt)
structure Hide (p : Prop) : Prop where
  out : p
structure Enc (α : Type) where
  E : α → Value
  D : α → DataW Unit
  R : Value → Option (DataW Unit × List MemPlace)
  ok : α → Prop
  put : ∀ x, ok x → R (E x) = some (D x, [])
  inv : ∀ v d ps, R v = some (d, ps) → ∃ x, ok x ∧ v = E x ∧ d = D x
  inj : ∀ x y, D x = D y → x = y
def wf (j : Int) : Prop := (Lit.int .i64 j).wf = true
structure MapIs {α : Type} (P : Program) (k : TypeId) (C : Enc α) (w : World) (b : Nat) (m : Int → Option α) (D : DataW Unit) : Prop where
  owns : w.ownsMap P k C.R b (Maps.size D) D
  has : ∀ j, wf j → Maps.has D (.int .i64 j) = (m j).isSome
  at_ : ∀ j x, wf j → m j = some x → ∀ z, D.atKey (.int .i64 j) z = C.D x
  dom : ∀ j, (m j).isSome = true → wf j
def MapFn {α : Type} (P : Program) (k : TypeId) (C : Enc α) (w : World) (b : Nat) (m : Int → Option α) : Prop := ∃ D, MapIs P k C w b m D
def upd {α : Type} (m : Int → Option α) (j : Int) (x : α) : Int → Option α := fun i => if i = j then some x else m i
section
variable {α : Type} {P : Program} {k e t : TypeId} {C : Enc α} {w : World} {b : Nat} {m : Int → Option α} {D : DataW Unit}
theorem tight {n : Nat} (h : w.ownsMap P k C.R b n D) : w.ownsMap P k C.R b (Maps.size D) D := by
  obtain ⟨es, clock, hb, F, hs, rfl⟩ := h
  refine ⟨es, clock, hb, F, ?_, rfl⟩
  rw [Maps.size_eq, length_read]
  exact Nat.le_refl _
theorem MapFn.lt (h : MapFn P k C w b m) : b < w.heap.size := h.choose_spec.owns.lt
theorem MapFn.kept {w' : World} {row : Option Nat} (h : MapFn P k C w b m) (hg : w.grownBy w' row) (hne : some b ≠ row) : MapFn P k C w' b m := by
  obtain ⟨D, h⟩ := h
  exact ⟨D, h.owns.kept hg hne, h.has, h.at_, h.dom⟩
theorem MapFn.made (w : World) (P : Program) (k : TypeId) (C : Enc α) : MapFn P k C (w.alloc (.map #[] 0)) w.heap.size (fun _ => none) :=
  ⟨.map [], World.ownsMap_made w P k C.R, fun j _ => rfl, (fun j x _ h => by cases h), (fun j h => by cases h)⟩
theorem isKey (j : Int) : WideAt.IsKeyLit (.int .i64 j) := by simp [WideAt.IsKeyLit]
theorem MapFn.look_ok (h : MapFn P k C w b m) (hk : P.underlying k = some (.int .i64)) (ht : P.underlying t = some (.map k e)) {z : α} (hz : (zeroValue e).run P w = .ok (C.E z) w) (hok : C.ok z) {j : Int} (hj : wf j) :
    (Instr.lookup t (.map (some b)) (.int .i64 j) true).run P w = .ok (.tuple #[C.E ((m j).getD z), .bool (m j).isSome]) w := by
  obtain ⟨D, h⟩ := h
  obtain ⟨v, ps, hrun, hv⟩ := h.owns.look_ok (int_keyed hk) ht hz (C.put z hok) (keyOf_int_mk hk hj)
  obtain ⟨x, _, rfl, hd⟩ := C.inv _ _ _ hv
  rw [hrun, h.has j hj]
  have : x = (m j).getD z := by
    apply C.inj
    rw [← hd]
    cases hm : m j with
    | none =>
      have h0 := h.has j hj
      rw [hm] at h0
      show D.atKey _ _ = C.D z
      obtain ⟨es, rfl, hp, hl⟩ := h.owns.entries (int_keyed hk)
      refine WideAt.atKey_none _ fun p hpm hpe => ?_
      have : Maps.has (.map es) (.int .i64 j) = true := by
        rw [Maps.has_eq, List.any_eq_true]
        exact ⟨p, hpm, by rw [hpe]; exact WideAt.sameKey_self (isKey j)⟩
      rw [this] at h0
      cases h0
    | some y => exact h.at_ j y hj hm _
  rw [this]
theorem MapFn.look (h : MapFn P k C w b m) (hk : P.underlying k = some (.int .i64)) (ht : P.underlying t = some (.map k e)) {z : α} (hz : (zeroValue e).run P w = .ok (C.E z) w) (hok : C.ok z) {j : Int} (hj : wf j) :
    (Instr.lookup t (.map (some b)) (.int .i64 j) false).run P w = .ok (C.E ((m j).getD z)) w := by
  obtain ⟨D, h⟩ := h
  obtain ⟨v, ps, hrun, hv⟩ := h.owns.lookup (int_keyed hk) ht hz (C.put z hok) (keyOf_int_mk hk hj)
  obtain ⟨x, _, rfl, hd⟩ := C.inv _ _ _ hv
  rw [hrun]
  have : x = (m j).getD z := by
    apply C.inj
    rw [← hd]
    cases hm : m j with
    | none =>
      have h0 := h.has j hj
      rw [hm] at h0
      show D.atKey _ _ = C.D z
      obtain ⟨es, rfl, hp, hl⟩ := h.owns.entries (int_keyed hk)
      refine WideAt.atKey_none _ fun p hpm hpe => ?_
      have : Maps.has (.map es) (.int .i64 j) = true := by
        rw [Maps.has_eq, List.any_eq_true]
        exact ⟨p, hpm, by rw [hpe]; exact WideAt.sameKey_self (isKey j)⟩
      rw [this] at h0
      cases h0
    | some y => exact h.at_ j y hj hm _
  rw [this]
theorem nodup_le : ∀ (N : Nat) (l : List Nat), l.Nodup → (∀ x ∈ l, x < N) → l.length ≤ N
  | 0, l, _, h => by
    cases l with
    | nil => simp
    | cons x r => exact absurd (h x List.mem_cons_self) (Nat.not_lt_zero _)
  | N + 1, l, hn, h => by
    have := nodup_le N (l.erase N) (hn.erase N) (fun x hx => by
      have h1 := (hn.mem_erase_iff).1 hx
      have h2 := h x h1.2
      omega)
    have hl : l.length ≤ (l.erase N).length + 1 := by
      by_cases c : N ∈ l
      · rw [List.length_erase_of_mem c]; omega
      · rw [List.erase_of_not_mem c]; omega
    omega
theorem MapIs.size_le (h : MapIs P k C w b m D) (hk : P.underlying k = some (.int .i64)) {N : Nat} (hN : ∀ j, (m j).isSome = true → 0 ≤ j ∧ j < N) : Maps.size D ≤ N := by
  obtain ⟨es, rfl, hp, hl⟩ := h.owns.entries (int_keyed hk)
  have hkeys : ∀ p ∈ es, ∃ j : Int, p.1 = .int .i64 j ∧ wf j := by
    obtain ⟨es', clock, hb, F, hs, hD⟩ := h.owns
    intro p hpm
    have e1 : es = (es'.toList.map (rg P k C.R)).foldr DataW.insert [] := by injection hD
    rw [e1] at hpm
    obtain ⟨v, hv⟩ := fit_keys F p (mem_sorted.1 hpm)
    cases v <;> simp [keyOf, mapKey, hk] at hv
    obtain ⟨⟨rfl, hw⟩, he⟩ := hv
    exact ⟨_, he.symm, hw⟩
  let f : Lit → Nat := fun l => match l with | .int _ a => a.toNat | _ => 0
  have hlt : ∀ p ∈ es, ∃ j : Int, p.1 = .int .i64 j ∧ 0 ≤ j ∧ j < N := by
    intro p hpm
    obtain ⟨j, e1, hw⟩ := hkeys p hpm
    have : Maps.has (.map es) (.int .i64 j) = true := by
      rw [Maps.has_eq, List.any_eq_true]
      exact ⟨p, hpm, by rw [e1]; exact WideAt.sameKey_self (isKey j)⟩
    rw [h.has j hw] at this
    exact ⟨j, e1, hN j this⟩
  have hnd : (es.map fun p => f p.1).Nodup := by
    rw [List.Nodup, List.pairwise_map]
    refine hp.imp_of_mem fun {p q} hpm hqm hne he => hne ?_
    obtain ⟨i, e1, h1⟩ := hlt p hpm
    obtain ⟨j, e2, h2⟩ := hlt q hqm
    rw [e1, e2] at he ⊢
    have : i.toNat = j.toNat := he
    have : i = j := by omega
    rw [this]
  have := nodup_le N _ hnd (fun x hx => by
    obtain ⟨p, hpm, rfl⟩ := List.mem_map.1 hx
    obtain ⟨j, e1, h1⟩ := hlt p hpm
    show f p.1 < N
    rw [e1]
    show j.toNat < N
    omega)
  rw [Maps.size_eq]
  simpa using this
theorem MapFn.store (h : MapFn P k C w b m) (hk : P.underlying k = some (.int .i64)) (ht : P.underlying t = some (.map k e)) {j : Int} (hj : wf j) {x : α} (hx : C.ok x) {N : Nat} (hN : ∀ j, (m j).isSome = true → 0 ≤ j ∧ j < N) (hNm : N < maxLen) :
    ∃ w', (Instr.mapUpdate t (.map (some b)) (.int .i64 j) (C.E x)).run P w = .ok () w' ∧ MapFn P k C w' b (upd m j x) ∧ w.grownBy w' (some b) := by
  obtain ⟨D, h⟩ := h
  have hs := h.size_le hk hN
  obtain ⟨w', hrun, h1, h2⟩ := h.owns.update (int_keyed hk) ht (Nat.lt_of_le_of_lt hs hNm) (keyOf_int_mk hk hj) (C.put x hx)
  have hm := h.owns.isMap
  refine ⟨w', hrun, ⟨D.put (.int .i64 j) (C.D x), tight h1, fun i hi => ?_, fun i y hi hy z => ?_, fun i hi => ?_⟩, h2⟩
  · unfold upd
    by_cases c : i = j
    · subst c
      rw [if_pos rfl, Maps.has_put_same hm (isKey i)]
      rfl
    · rw [if_neg c, Maps.has_put_other (fun e1 => c (by injection e1))]
      exact h.has i hi
  · unfold upd at hy
    by_cases c : i = j
    · subst c
      rw [if_pos rfl] at hy
      cases hy
      exact Maps.atKey_put_same hm (isKey i) _ _
    · rw [if_neg c] at hy
      rw [Maps.atKey_put_other (fun e1 => c (by injection e1))]
      exact h.at_ i y hi hy z
  · unfold upd at hi
    by_cases c : i = j
    · subst c
      exact hj
    · rw [if_neg c] at hi
      exact h.dom i hi
end
end Go.Proofs.YtplkndmkchpcdaaGreat.MapFn
end
section
namespace Go.Proofs.YtplkndmkchpcdaaGreat.Disk
open Go.RowKit Go.Maps MapFn
set_option maxHeartbeats 2000000
set_option maxRecDepth 100000
def encB (l : List Int) : Array Value := (l.map (Value.int .u8)).toArray
def decB : Value → Option (List Int)
  | .agg cs => cs.toList.mapM fun | .int .u8 x => some x | _ => none
  | _ => none
theorem mapM_enc : ∀ l : List Int, (l.map (Value.int .u8)).mapM (fun | .int .u8 x => some x | _ => none) = some l
  | [] => rfl
  | x :: r => by simp [mapM_enc r]
theorem mapM_inv : ∀ (cs : List Value) (l : List Int), cs.mapM (fun | .int .u8 x => some x | _ => none) = some l → cs = l.map (Value.int .u8)
  | [], l, h => by simp at h; subst h; rfl
  | v :: r, l, h => by
    simp only [List.mapM_cons, Option.bind_eq_bind, Option.bind_eq_some_iff, Option.pure_def, Option.some.injEq] at h
    obtain ⟨x, hx, l', hl, rfl⟩ := h
    rw [mapM_inv r l' hl]
    split at hx
    · cases hx
      rfl
    · cases hx
def blkD (l : List Int) : DataW Unit := .agg (l.map fun b => .lit (.int .u8 b))
def blkR (v : Value) : Option (DataW Unit × List MemPlace) :=
  match decB v with
  | some l => if l.length = 256 then some (blkD l, []) else none
  | none => none
theorem decB_enc (l : List Int) : decB (.agg (encB l)) = some l := by
  show (encB l).toList.mapM _ = _
  rw [encB]
  exact mapM_enc l
theorem lits_inj : ∀ x y : List Int, x.map (fun b => (DataW.lit (.int .u8 b) : DataW Unit)) = y.map (fun b => .lit (.int .u8 b)) → x = y
  | [], [], _ => rfl
  | [], _ :: _, h => by cases h
  | _ :: _, [], h => by cases h
  | a :: x, b :: y, h => by
    simp only [List.map_cons, List.cons.injEq, DataW.lit.injEq, Lit.int.injEq, true_and] at h
    rw [h.1, lits_inj x y h.2]
def blk : Enc (List Int) where
  E l := .agg (encB l)
  D := blkD
  R := blkR
  ok l := l.length = 256
  put l h := by simp [blkR, decB_enc, h]
  inv v d ps h := by
    unfold blkR at h
    split at h
    · rename_i l hl
      split at h
      · rename_i h256
        cases h
        refine ⟨l, h256, ?_, rfl⟩
        unfold decB at hl
        split at hl
        · rename_i cs
          have := mapM_inv _ _ hl
          show Value.agg cs = .agg (l.map (Value.int .u8)).toArray
          rw [← this]
        · cases hl
      · cases h
    · cases h
  inj x y h := by
    have : x.map (fun b => (DataW.lit (.int .u8 b) : DataW Unit)) = y.map (fun b => .lit (.int .u8 b)) := by injection h
    exact lits_inj x y this
def zeros : List Int := List.replicate 256 0
theorem zero110 : Tryz.zeroCells112 = encB zeros := by kernel_rfl
theorem zeroV (w : World) : (zeroValue 112).run Tryz.prog w = .ok (blk.E zeros) w := by
  have := Tryz.zeroValue112 w
  rw [this, zero110]
  rfl
theorem encB_size (l : List Int) : (encB l).size = l.length := by simp [encB]
theorem encB_one (l : List Int) : (encB l).all (·.oneCell') = true := by
  simp [encB]
  intro x _
  rfl
section
variable {w : World} {ops : Array Oper} {rest : List Oper} {o : Oper} {a : Act} {Q : Exit → Act → World → Prop}
theorem info110 : (Tryz.prog.info? 112).map (·.size) = some 256 := by kernel_rfl
theorem load_blk (hg : o.guard = none) (x : Operand) (hop : o.op = Op.load 112 x) (g : Nat) (cs : Array Value) (hx : a.eval x = .pointer (some ⟨g, 0, none⟩)) (hrow : w.heap[g]? = some (.cells cs 112 (0, 0))) (hs : cs.size = 256)
    (hK : wpList Tryz.prog ops Q rest (a.put o.dst (.agg cs)) w) : wpList Tryz.prog ops Q (o :: rest) a w := by
  refine wpList_plain hg fun K' hK' => ?_
  have hrun : (Instr.loadAt 112 (.pointer (some ⟨g, 0, none⟩))).run Tryz.prog w = .ok (.agg cs) w := by
    simp only [Instr.loadAt, Instr.sureAddr, Sem.run_bind, Sem.run_pure, Result.andThen]
    exact run_loadVar_row w g _ _ cs (0, 0) _ hrow Tryz.underlying112 rfl (by rw [info110, hs])
  unfold Oper.wp
  simp [execOp, hop, hx, hrun, Result.andThen]
  exact hK' _ _ hK
theorem store_blk (hg : o.guard = none) (x v : Operand) (hop : o.op = Op.store 112 x v) (g : Nat) (cs cs' : Array Value) (hx : a.eval x = .pointer (some ⟨g, 0, none⟩)) (hv : a.eval v = .agg cs') (hrow : w.heap[g]? = some (.cells cs 112 (0, 0))) (hs : cs.size = 256) (hs' : cs'.size = 256) (h1 : cs'.all (·.oneCell') = true)
    (hK : ∀ w', w'.heap[g]? = some (.cells cs' 112 (0, 0)) → w.grownBy w' (some g) → w'.heap.size = w.heap.size → wpList Tryz.prog ops Q rest (a.put o.dst undef) w') : wpList Tryz.prog ops Q (o :: rest) a w := by
  refine wpList_plain hg fun K' hK' => ?_
  have hrun : (Instr.storeAt 112 (.pointer (some ⟨g, 0, none⟩)) (.agg cs')).run Tryz.prog w = .ok () (w.setRow g cs') := by
    simp only [Instr.storeAt, Instr.sureAddr, Sem.run_bind, Sem.run_pure, Result.andThen]
    exact run_storeVar_row w g _ _ cs cs' hrow (by rw [info110, hs']) (by rw [hs, hs']) h1
  have h2 := hK (w.setRow g cs') (setRow_heap w g cs cs' _ _ hrow) ⟨rfl, rfl, rfl, by simp, fun k hk hne => setRow_other w g k cs' (fun e => hne (by rw [e]))⟩ (by simp)
  unfold Oper.wp
  simp [execOp, hop, hx, hv, hrun, Result.andThen]
  first | exact hK' _ _ h2 | (simp [Oper.upon]; exact hK' _ _ h2) | (unfold Oper.upon; simp; exact hK' _ _ h2)
end
end Go.Proofs.YtplkndmkchpcdaaGreat.Disk
end
section
namespace Go.Proofs.YtplkndmkchpcdaaGreat.Disk
open Go.RowKit Go.Maps MapFn
set_option maxHeartbeats 2000000
set_option maxRecDepth 100000
structure DiskSt where
  blocks : Int
  safe : Int → Option (List Int)
  loose : Int → Option (List Int)
  down : Bool
  ops : Int
  reads : Int
  fails : Int
  done : Bool
def DiskSt.get (D : DiskSt) (n : Int) : List Int := (D.loose n).getD ((D.safe n).getD zeros)
abbrev MapB (w : World) (b : Nat) (m : Int → Option (List Int)) : Prop := MapFn.MapFn Tryz.prog 3 blk w b m
structure DiskAt (w : World) (p ms ml : Nat) (D : DiskSt) : Prop where
  row : w.heap[p]? = some (.cells #[.int .i64 D.blocks, .map (some ms), .map (some ml), .bool D.down, .int .i64 D.ops, .int .i64 D.reads, .int .i64 D.fails, .bool D.done] 80 (0, 0))
  safe : MapB w ms D.safe
  loose : MapB w ml D.loose
  ne : ms ≠ ml
  dom : ∀ k, (D.safe k).isSome = true ∨ (D.loose k).isSome = true → 0 ≤ k ∧ k < D.blocks
  most : D.blocks ≤ 4096
  len : ∀ k l, D.safe k = some l ∨ D.loose k = some l → l.length = 256
structure Moves (l : List Nat) (w w' : World) : Prop where
  os : w'.os = w.os
  tape : w'.tape = w.tape
  output : w'.output = w.output
  size : w.heap.size ≤ w'.heap.size
  block : ∀ k, k < w.heap.size → ¬ k ∈ l → w'.heap[k]? = w.heap[k]?
theorem Moves.refl (l : List Nat) (w : World) : Moves l w w := ⟨rfl, rfl, rfl, Nat.le_refl _, fun _ _ _ => rfl⟩
theorem Moves.trans {l : List Nat} {a b c : World} (h : Moves l a b) (k : Moves l b c) : Moves l a c :=
  ⟨k.os.trans h.os, k.tape.trans h.tape, k.output.trans h.output, Nat.le_trans h.size k.size, fun i hi hn => (k.block i (Nat.lt_of_lt_of_le hi h.size) hn).trans (h.block i hi hn)⟩
theorem Moves.more {l l' : List Nat} {a b : World} (h : Moves l a b) (hs : ∀ x ∈ l, x ∈ l' ∨ a.heap.size ≤ x) : Moves l' a b :=
  ⟨h.os, h.tape, h.output, h.size, fun i hi hn => h.block i hi (fun hm => by rcases hs i hm with h1 | h1; exact hn h1; omega)⟩
theorem Moves.of_below {w w' : World} (h : Below w.heap.size w w') (l : List Nat) : Moves l w w' := ⟨h.os, h.tape, h.output, h.size, fun k hk _ => h.block k hk⟩
theorem Moves.of_grown {w w' : World} {b : Nat} (h : w.grownBy w' (some b)) : Moves [b] w w' := ⟨h.os, h.tape, h.output, h.size, fun k hk hn => h.block k hk (by simpa using hn)⟩
theorem Moves.below {w w' : World} (h : Moves [] w w') : Below w.heap.size w w' := ⟨h.os, h.tape, h.output, h.size, fun k hk => h.block k hk (by simp)⟩
theorem Moves.grown {w w' : World} (h : Moves [] w w') (row : Option Nat) : w.grownBy w' row := ⟨h.os, h.tape, h.output, h.size, fun k hk _ => h.block k hk (by simp)⟩
theorem Moves.none {w w' : World} {l : List Nat} (h : Moves l w w') {b : Nat} (hb : ¬ b ∈ l) (hlt : b < w.heap.size) : w'.heap[b]? = w.heap[b]? := h.block b hlt hb
theorem MapB.moves {w w' : World} {b : Nat} {m : Int → Option (List Int)} {l : List Nat} (h : MapB w b m) (hm : Moves l w w') (hb : ¬ b ∈ l) : MapB w' b m := by
  have hlt := h.lt
  obtain ⟨D, ⟨es, clock, hh, F, hs, hD⟩, h2, h3, h4⟩ := h
  exact ⟨D, ⟨es, clock, (hm.block b hlt hb).trans hh, F, hs, hD⟩, h2, h3, h4⟩
theorem lt_of_row {w : World} {p : Nat} {o : Obj} (h : w.heap[p]? = some o) : p < w.heap.size := (Array.getElem?_eq_some_iff.1 h).1
theorem row_ne_map {w : World} {p b : Nat} {c : Array Value} {t : TypeId} {fr : Nat × Nat} {m : Int → Option (List Int)} (h : w.heap[p]? = some (.cells c t fr)) (hm : MapB w b m) : p ≠ b := by
  rintro rfl
  obtain ⟨D, ⟨es, clock, hh, _⟩, _⟩ := hm
  rw [h] at hh
  cases hh
theorem DiskAt.moves {w w' : World} {p ms ml : Nat} {D : DiskSt} {l : List Nat} (h : DiskAt w p ms ml D) (hm : Moves l w w') (h1 : ¬ p ∈ l) (h2 : ¬ ms ∈ l) (h3 : ¬ ml ∈ l) : DiskAt w' p ms ml D :=
  ⟨(hm.block p (lt_of_row h.row) h1).trans h.row, h.safe.moves hm h2, h.loose.moves hm h3, h.ne, h.dom, h.most, h.len⟩
theorem DiskAt.below {w w' : World} {p ms ml : Nat} {D : DiskSt} (h : DiskAt w p ms ml D) (hb : Below w.heap.size w w') : DiskAt w' p ms ml D :=
  h.moves (Moves.of_below hb []) (by simp) (by simp) (by simp)
theorem cell_of {w : World} {p i : Nat} {c : Array Value} {t : TypeId} {fr : Nat × Nat} (h : w.heap[p]? = some (.cells c t fr)) : w.cell? ⟨p, i, none⟩ = c[i]? := cell_of_row w p i c t fr h
theorem zsize : Tryz.zeroCells112.size = 256 := by rw [zero110]; rfl
theorem DiskSt.get_len {w : World} {p ms ml : Nat} {D : DiskSt} (h : DiskAt w p ms ml D) (n : Int) : (D.get n).length = 256 := by
  unfold DiskSt.get
  cases h1 : D.loose n with
  | some l => exact h.len n l (.inr h1)
  | none =>
    cases h2 : D.safe n with
    | some l => exact h.len n l (.inl h2)
    | none => rfl
theorem heap_last (w : World) (o : Obj) : (w.alloc o).heap[w.heap.size]? = some o := heap_alloc_last w o
theorem heap_old (w : World) (o : Obj) (k : Nat) (hk : k < w.heap.size) : (w.alloc o).heap[k]? = w.heap[k]? := ((Below.refl w.heap.size w).alloc (Nat.le_refl _) o).block k hk
noncomputable abbrev zrow : Obj := .cells Tryz.zeroCells112 112
theorem two_last (w : World) : ((w.alloc zrow).alloc zrow).heap[w.heap.size + 1]? = some zrow := by
  have := heap_last (w.alloc zrow) zrow
  rwa [show (w.alloc zrow).heap.size = w.heap.size + 1 by simp] at this
theorem two_first (w : World) : ((w.alloc zrow).alloc zrow).heap[w.heap.size]? = some zrow := by
  rw [heap_old _ _ _ (by simp), heap_last]
theorem get_any (p ms ml : Nat) (D : DiskSt) (n : Int) (w : World) (h : DiskAt w p ms ml D) (hn : wf n) :
    Calls Tryz.prog 130 #[.pointer (some ⟨p, 0, none⟩), .int .i64 n] w fun e w' => e = .returned (.agg (encB (D.get n))) ∧ Below w.heap.size w w' := by
  have hp := lt_of_row h.row
  have b1 : Below w.heap.size w (w.alloc zrow) := (Below.refl _ _).alloc (Nat.le_refl _) _
  have b2 : Below w.heap.size w ((w.alloc zrow).alloc zrow) := b1.alloc b1.size _
  have c2 := cell_of (i := 2) (h.below b1).row
  have r1 := (h.below b1).loose.look_ok (C := blk) (t := 78) Tryz.underlying3 Tryz.underlying78 (zeroV _) (by rfl) hn
  have hlen := DiskSt.get_len h n
  have L1 := Hide.mk (two_last w)
  have L0 := Hide.mk (two_first w)
  have B2 := Hide.mk b2
  have D2 := Hide.mk (h.below b2)
  have HD := Hide.mk h
  have LG := Hide.mk hlen
  cases hl : D.loose n with
  | some l =>
    have eg : D.get n = l := by simp [DiskSt.get, hl]
    rw [eg] at LG ⊢
    rw [hl] at r1
    replace r1 : (Instr.lookup 78 (.map (some ml)) (.int .i64 n) true).run Tryz.prog (w.alloc zrow) = .ok (.tuple #[.agg (encB l), .bool true]) (w.alloc zrow) := r1
    simp at c2
    clear b1 b2 hlen h hl eg
    go_enter Tryz.func130, Tryz.ntmps130
    go_wp2_with (first
      | (refine store_blk rfl _ _ rfl (w.heap.size + 1) Tryz.zeroCells112 (encB l) rfl rfl L1.out zsize (by rw [encB_size]; exact LG.out) (encB_one _) ?_
         intro w2 hr2 hg2 hs2
         have M2 := Hide.mk hg2
         have R2 := Hide.mk hr2
         have L2 := Hide.mk ((hg2.block _ (by simp; omega) (by simp)).trans L0.out)
         clear hr2 hg2 hs2 L1)
      | (refine load_blk rfl _ rfl (w.heap.size + 1) (encB l) rfl R2.out (by rw [encB_size]; exact LG.out) ?_)
      | (refine store_blk rfl _ _ rfl w.heap.size Tryz.zeroCells112 (encB l) rfl rfl L2.out zsize (by rw [encB_size]; exact LG.out) (encB_one _) ?_
         intro w3 hr3 hg3 hs3
         have M3 := Hide.mk hg3
         have R3 := Hide.mk hr3
         clear hr3 hg3 hs3 L2))
    (try simp only [Exit.inBlock, Exit.then])
    refine bodyPost_ret (results_cell_row rfl _ _ w.heap.size 112 (encB l) (0, 0) _ rfl R3.out Tryz.underlying112 rfl (by rw [info110, encB_size, LG.out])) rfl ?_
    have b3 := B2.out.grown M2.out B2.out.size (fun j hj => by cases hj; omega)
    exact ⟨rfl, b3.grown M3.out b3.size (fun j hj => by cases hj; exact Nat.le_refl _)⟩
  | none =>
    have eg : D.get n = (D.safe n).getD zeros := by simp [DiskSt.get, hl]
    rw [eg] at LG ⊢
    rw [hl] at r1
    replace r1 : (Instr.lookup 78 (.map (some ml)) (.int .i64 n) true).run Tryz.prog (w.alloc zrow) = .ok (.tuple #[.agg (encB zeros), .bool false]) (w.alloc zrow) := r1
    have HN := Hide.mk hn
    obtain ⟨X, hX⟩ : ∃ X, (D.safe n).getD zeros = X := ⟨_, rfl⟩
    have EX := Hide.mk hX
    rw [hX] at LG ⊢
    simp at c2
    clear b1 b2 hlen h hl eg hX
    go_enter Tryz.func130, Tryz.ntmps130
    go_wp2_with (first
      | (refine store_blk rfl _ _ rfl (w.heap.size + 1) Tryz.zeroCells112 (encB zeros) rfl rfl L1.out zsize (by rw [encB_size]; rfl) (encB_one _) ?_
         intro w2 hr2 hg2 hs2
         have M2 := Hide.mk hg2
         have L2 := Hide.mk ((hg2.block _ (by simp; omega) (by simp)).trans L0.out)
         have d2 : DiskAt w2 p ms ml D := D2.out.moves (Moves.of_grown hg2) (by simp; omega) (by have := HD.out.safe.lt; simp; omega) (by have := HD.out.loose.lt; simp; omega)
         have c1 := cell_of (i := 1) d2.row
         have r2 : (Instr.lookup 78 (.map (some ms)) (.int .i64 n) false).run Tryz.prog w2 = .ok (.agg (encB X)) w2 := by
           have := d2.safe.look (C := blk) (t := 78) Tryz.underlying3 Tryz.underlying78 (zeroV _) (by rfl) HN.out
           rw [EX.out] at this
           exact this
         simp at c1
         clear hr2 hg2 hs2 L1 d2)
      | (refine store_blk rfl _ _ rfl w.heap.size Tryz.zeroCells112 (encB X) rfl rfl L2.out zsize (by rw [encB_size]; exact LG.out) (encB_one _) ?_
         intro w3 hr3 hg3 hs3
         have M3 := Hide.mk hg3
         have R3 := Hide.mk hr3
         clear hr3 hg3 hs3 L2))
    (try simp only [Exit.inBlock, Exit.then])
    refine bodyPost_ret (results_cell_row rfl _ _ w.heap.size 112 (encB X) (0, 0) _ rfl R3.out Tryz.underlying112 rfl (by rw [info110, encB_size, LG.out])) rfl ?_
    have b3 := B2.out.grown M2.out B2.out.size (fun j hj => by cases hj; omega)
    exact ⟨rfl, b3.grown M3.out b3.size (fun j hj => by cases hj; exact Nat.le_refl _)⟩
end Go.Proofs.YtplkndmkchpcdaaGreat.Disk
end
section
namespace Go.Proofs.YtplkndmkchpcdaaGreat.Disk
open Go.RowKit Go.Maps MapFn
set_option maxHeartbeats 2000000
set_option maxRecDepth 100000
structure DCells (w : World) (p ms ml : Nat) (D : DiskSt) : Prop where
  c0 : w.cell? ⟨p, 0, none⟩ = some (.int .i64 D.blocks)
  c1 : w.cell? ⟨p, 1, none⟩ = some (.map (some ms))
  c2 : w.cell? ⟨p, 2, none⟩ = some (.map (some ml))
  c3 : w.cell? ⟨p, 3, none⟩ = some (.bool D.down)
  c4 : w.cell? ⟨p, 4, none⟩ = some (.int .i64 D.ops)
  c5 : w.cell? ⟨p, 5, none⟩ = some (.int .i64 D.reads)
  c6 : w.cell? ⟨p, 6, none⟩ = some (.int .i64 D.fails)
  c7 : w.cell? ⟨p, 7, none⟩ = some (.bool D.done)
theorem DiskAt.cells {w : World} {p ms ml : Nat} {D : DiskSt} (h : DiskAt w p ms ml D) : DCells w p ms ml D := by
  constructor <;> (rw [cell_of h.row]; rfl)
theorem free_of {w : World} {p i : Nat} {c : Array Value} {t : TypeId} (h : w.heap[p]? = some (.cells c t (0, 0))) : w.frozen? ⟨p, i, none⟩ = false := frozen_of_row w p i c t h
def DiskSt.asked (D : DiskSt) : Int := if D.down = true then 11 else 0
def DiskSt.at_ (D : DiskSt) (n : Int) : Int := if D.down = true then 11 else if n < 0 ∨ D.blocks ≤ n then 12 else 0
def DiskSt.read (D : DiskSt) : DiskSt := { D with reads := wrap64 (D.reads + 1) }
section
variable {p ms ml : Nat} {D : DiskSt} {w : World}
theorem asked_any (h : DiskAt w p ms ml D) : Calls Tryz.prog 80 #[.pointer (some ⟨p, 0, none⟩)] w fun e w' => e = .returned (.int .i64 D.asked) ∧ w' = w := by
  have c3 := h.cells.c3
  unfold DiskSt.asked
  clear h
  cases hd : D.down
  · rw [hd] at c3
    go_enter Tryz.func80, Tryz.ntmps80
    go_wp2
    go_ret
    exact ⟨rfl, rfl⟩
  · rw [hd] at c3
    go_enter Tryz.func80, Tryz.ntmps80
    go_wp2
    go_ret
    exact ⟨rfl, rfl⟩
theorem at_any (n : Int) (h : DiskAt w p ms ml D) : Calls Tryz.prog 112 #[.pointer (some ⟨p, 0, none⟩), .int .i64 n] w fun e w' => e = .returned (.int .i64 (D.at_ n)) ∧ Below w.heap.size w w' := by
  have c0 := h.cells.c0
  have H := Hide.mk h
  clear h
  cases hd : D.down with
  | true =>
    have ea : D.asked = 11 := by simp [DiskSt.asked, hd]
    have e1 : D.at_ n = 11 := by simp [DiskSt.at_, hd]
    rw [e1]
    have HA := Hide.mk (asked_any H.out)
    rw [ea] at HA
    clear ea hd e1
    go_enter Tryz.func112, Tryz.ntmps112
    go_wp2_with (go_at_call 80; refine HA.out.mono ?_; rintro e w1 ⟨rfl, rfl⟩)
    go_ret
    exact ⟨rfl, Below.refl _ _⟩
  | false =>
    have ea : D.asked = 0 := by simp [DiskSt.asked, hd]
    have HA := Hide.mk (asked_any H.out)
    rw [ea] at HA
    by_cases c1 : n < 0
    · have e1 : D.at_ n = 12 := by simp [DiskSt.at_, hd, c1]
      rw [e1]
      clear ea hd e1
      go_enter Tryz.func112, Tryz.ntmps112
      go_wp2_with (go_at_call 80; refine HA.out.mono ?_; rintro e w1 ⟨rfl, rfl⟩)
      go_ret
      exact ⟨rfl, Below.refl _ _⟩
    · by_cases c2 : n ≥ D.blocks
      · have e1 : D.at_ n = 12 := by
          have : D.blocks ≤ n := c2
          simp [DiskSt.at_, hd, this]
        rw [e1]
        clear ea hd e1
        go_enter Tryz.func112, Tryz.ntmps112
        go_wp2_with (go_at_call 80; refine HA.out.mono ?_; rintro e w1 ⟨rfl, rfl⟩)
        go_ret
        exact ⟨rfl, Below.refl _ _⟩
      · have e1 : D.at_ n = 0 := by
          have : ¬ D.blocks ≤ n := c2
          simp only [DiskSt.at_, hd]
          rw [if_neg (by simp), if_neg (by rintro (h | h) <;> contradiction)]
        rw [e1]
        clear ea hd e1
        go_enter Tryz.func112, Tryz.ntmps112
        go_wp2_with (go_at_call 80; refine HA.out.mono ?_; rintro e w1 ⟨rfl, rfl⟩)
        go_ret
        exact ⟨rfl, Below.refl _ _⟩
theorem set_row {w : World} {p i : Nat} {c : Array Value} {t : TypeId} (h : w.heap[p]? = some (.cells c t (0, 0))) (v : Value) : (w.setCell ⟨p, i, none⟩ v).heap[p]? = some (.cells (c.setIfInBounds i v) t (0, 0)) := by
  rw [setCell_eq_setRow w p i c t (0, 0) v h]
  exact setRow_heap w p c _ t _ h
theorem set_moves {w : World} {p i : Nat} (v : Value) : Moves [p] w (w.setCell ⟨p, i, none⟩ v) :=
  ⟨rfl, rfl, rfl, by simp, fun k hk hn => by simp only [List.mem_singleton] at hn; exact heap_setCell_other _ _ _ _ hn⟩
theorem DiskAt.row_set {w w' : World} {D' : DiskSt} (h : DiskAt w p ms ml D) (hm : Moves [p] w w') (hr : w'.heap[p]? = some (.cells #[.int .i64 D'.blocks, .map (some ms), .map (some ml), .bool D'.down, .int .i64 D'.ops, .int .i64 D'.reads, .int .i64 D'.fails, .bool D'.done] 80 (0, 0)))
    (e1 : D'.safe = D.safe) (e2 : D'.loose = D.loose) (e3 : D'.blocks = D.blocks) : DiskAt w' p ms ml D' := by
  refine ⟨hr, ?_, ?_, h.ne, ?_, ?_, ?_⟩
  · rw [e1]; exact h.safe.moves hm (by simpa using (row_ne_map h.row h.safe).symm)
  · rw [e2]; exact h.loose.moves hm (by simpa using (row_ne_map h.row h.loose).symm)
  · rw [e1, e2, e3]; exact h.dom
  · rw [e3]; exact h.most
  · rw [e1, e2]; exact h.len
end
end Go.Proofs.YtplkndmkchpcdaaGreat.Disk
end
section
namespace Go.Proofs.YtplkndmkchpcdaaGreat.Disk
open Go.RowKit Go.Maps MapFn
set_option maxHeartbeats 2000000
set_option maxRecDepth 100000
structure Fresh (w w' : World) (g : Nat) (l : List Int) : Prop where
  row : w'.heap[g]? = some (.cells (encB l) 112 (0, 0))
  new : w.heap.size ≤ g
section
variable {p ms ml : Nat} {D : DiskSt} {w : World}
theorem read_bad (n : Int) (h : DiskAt w p ms ml D) (he : D.at_ n ≠ 0) : Calls Tryz.prog 98 #[.pointer (some ⟨p, 0, none⟩), .int .i64 n] w fun e w' => e = .returned (.tuple #[.slice none 0 0, .int .i64 (D.at_ n)]) ∧ Below w.heap.size w w' := by
  have HA := Hide.mk (at_any n h)
  obtain ⟨x, hx⟩ : ∃ x, D.at_ n = x := ⟨_, rfl⟩
  rw [hx] at HA he ⊢
  have q : (x != 0) = true := by simp [he]
  clear h hx he
  go_enter Tryz.func98, Tryz.ntmps98
  go_wp2_with (go_at_call 112; refine HA.out.mono ?_; rintro e w1 ⟨rfl, hb⟩; have B1 := Hide.mk hb; clear hb)
  go_ret2
  exact ⟨rfl, B1.out⟩
theorem DiskAt.count_read (h : DiskAt w p ms ml D) : DiskAt (w.setCell ⟨p, 5, none⟩ (.int .i64 (wrap64 (D.reads + 1)))) p ms ml D.read :=
  h.row_set (set_moves _) (by have h1 := set_row (i := 5) h.row (.int .i64 (wrap64 (D.reads + 1))); simp at h1; exact h1) rfl rfl rfl
theorem read_ok (n : Int) (h : DiskAt w p ms ml D) (hn : wf n) (he : D.at_ n = 0) : Calls Tryz.prog 98 #[.pointer (some ⟨p, 0, none⟩), .int .i64 n] w fun e w' =>
    ∃ g, e = .returned (.tuple #[.slice (some ⟨g, 0, none⟩) 256 256, .int .i64 0]) ∧ Fresh w w' g (D.get n) ∧ DiskAt w' p ms ml D.read ∧ Moves [p] w w' := by
  have HA := Hide.mk (at_any n h)
  rw [he] at HA
  have H := Hide.mk h
  have HN := Hide.mk hn
  have HP := Hide.mk (lt_of_row h.row)
  clear h hn he
  go_enter Tryz.func98, Tryz.ntmps98
  go_wp2_with (first
    | (go_at_call 112; refine HA.out.mono ?_; rintro e w1 ⟨rfl, hb⟩
       have B1 := Hide.mk hb
       have D1 := Hide.mk (H.out.below hb)
       have c5 := D1.out.cells.c5
       have f5 := free_of (i := 5) D1.out.row
       clear hb)
    | (go_at_call 130
       have M2 := Hide.mk ((Moves.of_below B1.out [p]).trans (set_moves (i := 5) (.int .i64 (wrap64 (D.reads + 1)))))
       have D2 := Hide.mk D1.out.count_read
       have HG := Hide.mk (get_any p ms ml D.read n _ D2.out HN.out)
       refine HG.out.mono ?_; rintro e w3 ⟨rfl, hb3⟩
       have D3 := Hide.mk (D2.out.below hb3)
       have M3 := Hide.mk (M2.out.trans (Moves.of_below hb3 _))
       have L3 := Hide.mk (heap_last w3 zrow)
       have LG := Hide.mk (DiskSt.get_len D3.out n)
       clear hb3)
    | (refine store_blk rfl _ _ rfl w3.heap.size Tryz.zeroCells112 (encB (D.read.get n)) rfl rfl L3.out zsize (by rw [encB_size]; exact LG.out) (encB_one _) ?_
       intro w4 hr4 hg4 hs4
       have R4 := Hide.mk hr4
       have G4 := Hide.mk hg4
       clear hr4 hg4 hs4 L3))
  go_ret2
  have hm : Moves [p] w3 w4 := ((Moves.of_below ((Below.refl w3.heap.size w3).alloc (Nat.le_refl _) zrow) [w3.heap.size]).trans (Moves.of_grown G4.out)).more (fun x hx => by simp at hx; right; omega)
  have hd : DiskAt w4 p ms ml D.read := by
    have d := D3.out.below ((Below.refl w3.heap.size w3).alloc (Nat.le_refl _) zrow)
    have hlt := lt_of_row D3.out.row
    have h1 := D3.out.safe.lt
    have h2 := D3.out.loose.lt
    exact d.moves (Moves.of_grown G4.out) (by simp; omega) (by simp; omega) (by simp; omega)
  exact ⟨w3.heap.size, rfl, ⟨R4.out, M3.out.size⟩, hd, M3.out.trans hm⟩
theorem Blocks_any (h : DiskAt w p ms ml D) : Calls Tryz.prog 47 #[.pointer (some ⟨p, 0, none⟩)] w fun e w' => e = .returned (.int .i64 D.blocks) ∧ w' = w := by
  have c0 := h.cells.c0
  clear h
  go_enter Tryz.func47, Tryz.ntmps47
  go_wp2
  go_ret
  exact ⟨rfl, rfl⟩
end
end Go.Proofs.YtplkndmkchpcdaaGreat.Disk
end
section
namespace Go.Proofs.YtplkndmkchpcdaaGreat.Disk
open Go.RowKit Go.Maps MapFn
set_option maxHeartbeats 2000000
set_option maxRecDepth 100000
def clampB (n : Int) : Int := if 0 < (if 4096 < n then 4096 else n) then (if 4096 < n then 4096 else n) else 0
def DiskSt.new (n : Int) : DiskSt := ⟨clampB n, fun _ => none, fun _ => none, false, 0, 0, -1, false⟩
section
theorem new_any (n : Int) (w : World) : Calls Tryz.prog 11 #[.int .i64 n] w fun e w' => ∃ p ms ml, e = .returned (.pointer (some ⟨p, 0, none⟩)) ∧ DiskAt w' p ms ml (DiskSt.new n) ∧ Below w.heap.size w w' ∧ w.heap.size ≤ p ∧ w.heap.size ≤ ms ∧ w.heap.size ≤ ml := by
  have hmm := @run_makeMap Tryz.prog
  obtain ⟨x, hx⟩ : ∃ x, (if 4096 < n then 4096 else n) = x := ⟨_, rfl⟩
  obtain ⟨y, hy⟩ : ∃ y, (if 0 < x then x else 0) = y := ⟨_, rfl⟩
  have e1 : DiskSt.new n = ⟨y, fun _ => none, fun _ => none, false, 0, 0, -1, false⟩ := by
    unfold DiskSt.new clampB
    rw [hx, hy]
  have hy1 : y ≤ 4096 := by rw [← hy, ← hx]; split <;> split <;> omega
  rw [e1]
  have HY := Hide.mk hy1
  clear e1 hy1
  go_enter Tryz.func11, Tryz.ntmps11
  go_wp2
  go_ret
  refine ⟨w.heap.size + 1 + 1, w.heap.size, w.heap.size + 1, rfl, ?_, ((Below.refl _ _).alloc (Nat.le_refl _) _ |>.alloc (by simp) _).alloc (by simp; omega) _, by omega, Nat.le_refl _, by omega⟩
  have m1 := MapFn.MapFn.made w Tryz.prog 3 blk
  have m2 := MapFn.MapFn.made (w.alloc (.map #[] 0)) Tryz.prog 3 blk
  rw [show (w.alloc (.map #[] 0)).heap.size = w.heap.size + 1 by simp] at m2
  refine ⟨?_, (m1.kept (row := none) (World.grownBy_alloc _ _ _) (by simp)).kept (row := none) (World.grownBy_alloc _ _ _) (by simp), m2.kept (row := none) (World.grownBy_alloc _ _ _) (by simp), by omega, (fun k h => by rcases h with h | h <;> cases h), HY.out, (fun k l h => by rcases h with h | h <;> cases h)⟩
  have := heap_last ((w.alloc (.map #[] 0)).alloc (.map #[] 0)) (.cells #[.int .i64 y, .map (some w.heap.size), .map (some (w.heap.size + 1)), .bool false, .int .i64 0, .int .i64 0, .int .i64 (-1), .bool false] 80)
  rwa [show ((w.alloc (.map #[] 0)).alloc (.map #[] 0)).heap.size = w.heap.size + 1 + 1 by simp] at this
end
end Go.Proofs.YtplkndmkchpcdaaGreat.Disk
end
section
namespace Go.Proofs.YtplkndmkchpcdaaGreat.Disk
open Go.RowKit Go.Maps MapFn
set_option maxHeartbeats 4000000
set_option maxRecDepth 100000
def mergeM (ms ml : Int → Option (List Int)) : Int → Option (List Int) := fun j => match ml j with | some x => some x | none => ms j
theorem lawI : Keyed Tryz.prog 3 := int_keyed Tryz.underlying3
theorem merge_fn {w : World} {bd nd : Nat} {md ms : Int → Option (List Int)} {Dout Dd Ds : DataW Unit} {w1 w2 : World} {b1 b2 : Nat} {left : Lit → Bool} (hM : Merged Dout Dd Ds left) (hl : ∀ k, left k = false)
    (ho : w.ownsMap Tryz.prog 3 blk.R bd nd Dout) (hd : MapIs Tryz.prog 3 blk w1 b1 md Dd) (hs : MapIs Tryz.prog 3 blk w2 b2 ms Ds) : MapB w bd (mergeM md ms) := by
  refine ⟨Dout, MapFn.tight ho, fun j hj => ?_, fun j x hj hx z => ?_, fun j hj => ?_⟩
  · rw [hM.1, hd.has j hj, hs.has j hj, hl]
    unfold mergeM
    cases ms j <;> simp
  · rw [hM.2, hs.has j hj, hl]
    unfold mergeM at hx
    cases hm : ms j with
    | some y =>
      rw [hm] at hx
      cases hx
      simp
      exact hs.at_ j _ hj hm z
    | none =>
      rw [hm] at hx
      simp
      exact hd.at_ j x hj hx z
  · unfold mergeM at hj
    cases hm : ms j with
    | some y => exact hs.dom j (by rw [hm]; rfl)
    | none =>
      rw [hm] at hj
      exact hd.dom j hj
theorem copy_any (bd bs : Nat) (md ms : Int → Option (List Int)) (w : World) (hd0 : MapB w bd md) (hs0 : MapB w bs ms) (hne : bd ≠ bs) (hdN : ∀ j, (md j).isSome = true → 0 ≤ j ∧ j < (4096 : Nat)) (hsN : ∀ j, (ms j).isSome = true → 0 ≤ j ∧ j < (4096 : Nat)) :
    Calls Tryz.prog 110 #[.map (some bd), .map (some bs)] w fun e w' => e = .returned (.tuple #[]) ∧ MapB w' bd (mergeM md ms) ∧ w.grownBy w' (some bd) := by
  obtain ⟨Dd, hdM⟩ := hd0
  obtain ⟨Ds, hsM⟩ := hs0
  have hd := hdM.owns
  have hs := hsM.owns
  have hbd := hd.lt
  have hbs := hs.lt
  have hdz := hdM.size_le Tryz.underlying3 hdN
  have hsz := hsM.size_le Tryz.underlying3 hsN
  have HDM := Hide.mk hdM
  have HSM := Hide.mk hsM
  clear hdM hsM hdN hsN
  go_enter Tryz.func110, Tryz.ntmps110
  go_wp2_with (first
    | (at_range; refine wpList_range_own _ rfl _ 78 rfl 3 112 lawI Tryz.underlying78 blk.R bs _ _ rfl hs ?_; intro w0 hrg0 hg0 hs0)
    | go_in)
  go_frame
  go_loopw [8] (fun _ wr => ∃ (left : Lit → Bool) (cnt : Nat) (Dout : DataW Unit), wr.ranges Tryz.prog 3 blk.R bs w.heap.size (Maps.size Ds) Ds left cnt ∧ cnt ≤ Maps.size Ds ∧
      wr.ownsMap Tryz.prog 3 blk.R bd (Maps.size Dd + (Maps.size Ds - cnt)) Dout ∧ Merged Dout Dd Ds left ∧ w.grownBy wr (some bd))
    (fun _ wr => wr.rangeLeft bs w.heap.size)
  case atStart =>
    exact ⟨_, _, Dd, hrg0, Nat.le_refl _, (hd.kept hg0 (by simp)).mono (by omega), merged_start Dd Ds, hg0.but _⟩
  case round =>
    obtain ⟨left, cnt, Dout, hrg, hcs, hout, hM, hgw⟩ := hrel
    go_wp2_with (first
      | (at_next; refine wpList_next_ranges (α := Int) (β := List Int) _ rfl _ rfl 3 lawI blk.R (Value.int .i64) blk.E ?hk1 ?hv1 bs w.heap.size _ _ _ _ rfl hrg ?_ ?_)
      | go_in)
    case hk1 =>
      intro key kl h
      cases key <;> simp [keyOf, mapKey, Tryz.underlying3] at h
      obtain ⟨⟨rfl, _⟩, _⟩ := h
      exact ⟨_, rfl⟩
    case hv1 =>
      intro v y h
      obtain ⟨l, _, e, _⟩ := blk.inv v y.1 y.2 h
      exact ⟨l, e⟩
    · intro hc0 hl0
      go_wp2
      go_end0
      exact ⟨rfl, merge_fn hM hl0 hout HDM.out HSM.out, hgw⟩
    · intro x c kl yd yp w1 cnt1 hkey hlx hv hat hrg1 hlt hg1 hs1 hen
      have hout1 := hout.kept hg1 (fun e => by have := Option.some.inj e; omega)
      have hc : c.length = 256 := by
        have h1 : blkR (.agg (encB c)) = some (yd, yp) := hv
        simp only [blkR, decB_enc] at h1
        by_cases q : c.length = 256
        · exact q
        · rw [if_neg q] at h1
          cases h1
      replace hen : (Instr.entry (.pointer (some ⟨w.heap.size, 0, none⟩))).run Tryz.prog w1 = .ok (.tuple #[.int .i64 x, .agg (encB c)]) w1 := hen
      have LG := Hide.mk hc
      have HV := Hide.mk (show blk.R (.agg (encB c)) = some (yd, yp) from hv)
      have HO := Hide.mk (hout1.kept (World.grownBy_alloc w1 zrow none) (by simp))
      have HR := Hide.mk (hrg1.alloc zrow)
      have L1 := Hide.mk (heap_last w1 zrow)
      have HX := Hide.mk hout
      have HRG := Hide.mk hrg
      have HRG1 := Hide.mk hrg1
      have HO1 := Hide.mk hout1
      have HK := Hide.mk hkey
      have HAT := Hide.mk hat
      have HM := Hide.mk hM
      have HG := Hide.mk ((hgw.andThen hg1 (fun j hj => .inl (by cases hj; exact Nat.le_refl _))).andThen (World.grownBy_alloc w1 zrow (some bd)) (fun j hj => .inr hj))
      have HZ := Hide.mk (show bd < w1.heap.size ∧ bs < w1.heap.size ∧ w.heap.size < w1.heap.size from ⟨by have := hout1.lt; omega, by have := hrg1.owns.lt; omega, hrg1.lt⟩)
      clear hout1 hv hrg1 hg1 hs1 hout hkey hat hM hgw hrg
      go_wp2_with (first
        | (refine store_blk rfl _ _ rfl w1.heap.size Tryz.zeroCells112 (encB c) rfl rfl L1.out zsize (by rw [encB_size]; exact LG.out) (encB_one _) ?_
           intro w2 hr2 hg2 hs2
           have R2 := Hide.mk hr2
           have O2 := Hide.mk (HO.out.kept hg2 (by have := HZ.out; simp; omega))
           have X2 := Hide.mk (HR.out.kept hg2 (by have := HZ.out; simp; omega) (by have := HZ.out; simp; omega))
           have G2 := Hide.mk (HG.out.andThen hg2 (fun j hj => by have := HZ.out; cases hj; left; omega))
           clear hr2 hg2 hs2 L1)
        | (refine load_blk rfl _ rfl w1.heap.size (encB c) rfl R2.out (by rw [encB_size]; exact LG.out) ?_)
        | (at_mapUpdate; refine wpList_mapUpdate_own _ rfl _ _ _ 78 rfl 3 112 lawI Tryz.underlying78 blk.R bd _ _ rfl O2.out (by unfold maxLen; omega) _ _ _ rfl rfl HK.out yd yp HV.out ?_; intro w3 hout3 hg3; go_frame)
        | go_in)
      have hrg2 := X2.out.kept hg3 (fun e => hne (Option.some.inj e).symm) (fun e => by have := HZ.out; have := Option.some.inj e; omega)
      go_roundw
      case rel =>
        exact ⟨_, cnt1, _, hrg2, by omega, hout3.mono (by omega), merged_step HM.out HX.out.isMap (lawI.key HK.out) HAT.out, G2.out.andThen hg3 (fun j hj => .inr hj)⟩
      case measure => rw [hrg2.left_eq, HRG.out.left_eq]; exact hlt
end Go.Proofs.YtplkndmkchpcdaaGreat.Disk
end
section
namespace Go.Proofs.YtplkndmkchpcdaaGreat.Disk
open Go.RowKit Go.Maps MapFn YtplkndmkchpcdaaGreatW.PrintWords YtplkndmkchpcdaaGreatW.PrintLast
set_option maxHeartbeats 4000000
set_option maxRecDepth 100000
def DiskSt.settled (D : DiskSt) : DiskSt := { D with safe := mergeM D.safe D.loose, loose := fun _ => none }
theorem cells_grown {w w' : World} {p ms ml : Nat} {D : DiskSt} {b : Nat} (h : DCells w p ms ml D) (hg : w.grownBy w' (some b)) (hne : p ≠ b) : DCells w' p ms ml D :=
  ⟨hg.cell h.c0 (by simpa using hne), hg.cell h.c1 (by simpa using hne), hg.cell h.c2 (by simpa using hne), hg.cell h.c3 (by simpa using hne), hg.cell h.c4 (by simpa using hne), hg.cell h.c5 (by simpa using hne), hg.cell h.c6 (by simpa using hne), hg.cell h.c7 (by simpa using hne)⟩
theorem copied {w w' : World} {p ms ml : Nat} {D : DiskSt} (h : DiskAt w p ms ml D) (hg : w.grownBy w' (some ms)) : DCells w' p ms ml D :=
  cells_grown h.cells hg (row_ne_map h.row h.safe)
theorem dom4096 {w : World} {p ms ml : Nat} {D : DiskSt} (h : DiskAt w p ms ml D) (k : Int) (hk : (D.safe k).isSome = true ∨ (D.loose k).isSome = true) : 0 ≤ k ∧ k < (4096 : Nat) := by
  have := h.dom k hk
  have := h.most
  omega
def T83_0 : Bool × List (List Nat × List Nat) := (true, [([], []), ([0], [0]), ([1], [1]), ([2], [2]), ([], []), ([4], [4]), ([5], [5]), ([6], [6]), ([3, 7], [3, 7])])
def B83_0 : List Nat := [0, 1, 3, 7, 0, 16, 48, 112, 255]
theorem tab83_0 : rtab .any (opsOf Tryz.f83 0) = T83_0 := by kernel_rfl
theorem bits83_0 : waitsOk T83_0.2 B83_0 = true := by kernel_rfl
theorem settle_any (p ms ml : Nat) (D : DiskSt) (w : World) (h : DiskAt w p ms ml D) :
    Calls Tryz.prog 83 #[.pointer (some ⟨p, 0, none⟩)] w fun e w' => e = .returned (.tuple #[]) ∧ ∃ ml', DiskAt w' p ms ml' D.settled ∧ w.heap.size ≤ ml' ∧ Moves [p, ms] w w' := by
  have hmm := @run_makeMap Tryz.prog
  have HH := Hide.mk h
  have HNE := Hide.mk h.ne
  have KS : Hide (∀ j, (D.safe j).isSome = true → 0 ≤ j ∧ j < (4096 : Nat)) := ⟨fun j hj => dom4096 h j (.inl hj)⟩
  have KL : Hide (∀ j, (D.loose j).isSome = true → 0 ≤ j ∧ j < (4096 : Nat)) := ⟨fun j hj => dom4096 h j (.inr hj)⟩
  have KD : DiskAt w.drew p ms ml D := h.below (below_drew (Below.refl _ _))
  clear h
  go_enter Tryz.func83, Tryz.ntmps83
  go_wp2
  refine s_ 9 (fun w' => DCells w' p ms ml D) tab83_0 bits83_0 KD.cells (fun hHeld HT_ HW_ => ?_)
  refine p_ 0 2 ?_
  refine p_ 1 3 ?_
  refine p_ 2 4 ?_
  refine t_ 3 5 hHeld ?_ (hy := by
      intro w' hS'
      have s1 := hS'.c1
      go_simp
      rfl)
  refine p_ 4 6 ?_
  refine p_ 5 7 ?_
  refine p_ 6 8 ?_
  refine t_ 7 9 hHeld ?_ (hy := by
      intro w' hS'
      have s2 := hS'.c2
      go_simp
      rfl)
  refine n_ 8 (some 10) (fun K hK => ?_)
  refine g_ Tryz.func110 #[.map (some ms), .map (some ml)] ?_
  with_reducible refine (copy_any ms ml D.safe D.loose _ KD.safe KD.loose HNE.out KS.out KL.out).mono ?_
  rintro e w1 ⟨rfl, hm, hg⟩
  refine ⟨_, rfl, ?_⟩
  have KM := Hide.mk hm
  have KG := Hide.mk hg
  have KC := copied KD hg
  clear hm hg
  refine k_ hK KC (fun hHeld => ?_)
  clear hK K
  refine d_ ?_
  have hr1 := (KG.out.block p (lt_of_row KD.row) (by simpa using row_ne_map KD.row KD.safe)).trans KD.row
  have hr2 : (w1.alloc (.map #[] 0)).heap[p]? = _ := (heap_old w1 _ p (lt_of_row hr1)).trans hr1
  have f2 := free_of (i := 2) hr2
  have c2 := cell_of (i := 2) hr2
  simp at c2
  have HR2 := Hide.mk hr2
  have HR1 := Hide.mk hr1
  have HD := Hide.mk KD
  have HL := Hide.mk (KD.loose.kept KG.out (by have := HNE.out; simp; omega))
  clear hr1 hr2 KC KD hHeld
  go_wp2
  go_end0
  have s2 := set_row (i := 2) HR2.out (.map (some w1.heap.size))
  have p1 := lt_of_row HR1.out
  have hdr : Moves [p, ms] w w.drew := ⟨rfl, rfl, rfl, Nat.le_refl _, fun _ _ _ => rfl⟩
  have hm1 : Moves [p, ms] w w1 := hdr.trans ((Moves.of_grown KG.out).more (by simp))
  have hm2 : Moves [p] w1 ((w1.alloc (.map #[] 0)).setCell ⟨p, 2, none⟩ (.map (some w1.heap.size))) :=
    (Moves.of_below ((Below.refl w1.heap.size w1).alloc (Nat.le_refl _) (.map #[] 0)) [p]).trans (set_moves (i := 2) (.map (some w1.heap.size)))
  refine ⟨rfl, w1.heap.size, ?_, hm1.size, hm1.trans (hm2.more (by simp))⟩
  have mm := KM.out.lt
  have hms : ms ≠ p := (row_ne_map HD.out.row HD.out.safe).symm
  refine ⟨by simp at s2; exact s2, KM.out.moves hm2 (by simpa using hms), ?_, by omega, ?_, HD.out.most, ?_⟩
  · have m1 := MapFn.MapFn.made w1 Tryz.prog 3 blk
    exact MapB.moves m1 (set_moves (i := 2) (.map (some w1.heap.size))) (by simp; omega)
  · intro k hk
    rcases hk with hk | hk
    · refine HD.out.dom k ?_
      simp only [DiskSt.settled, mergeM] at hk
      cases h1 : D.loose k with
      | some x => right; rfl
      | none => rw [h1] at hk; left; exact hk
    · cases hk
  · intro k l hk
    rcases hk with hk | hk
    · simp only [DiskSt.settled, mergeM] at hk
      cases h1 : D.loose k with
      | some x => rw [h1] at hk; exact HD.out.len k l (.inr (by rw [h1]; exact hk))
      | none => rw [h1] at hk; exact HD.out.len k l (.inl hk)
    · cases hk
end Go.Proofs.YtplkndmkchpcdaaGreat.Disk
end
section
namespace Go.Proofs.YtplkndmkchpcdaaGreat.Disk
open Go.RowKit Go.Maps MapFn YtplkndmkchpcdaaGreatW.PrintWords YtplkndmkchpcdaaGreatW.PrintLast
set_option maxHeartbeats 4000000
set_option maxRecDepth 100000
theorem exec_load {w : World} {a : Act} {o : Oper} {x : Operand} {g : Nat} {cs : Array Value} (hop : o.op = Op.load 112 x) (hx : a.eval x = .pointer (some ⟨g, 0, none⟩)) (hrow : w.heap[g]? = some (.cells cs 112 (0, 0))) (hs : cs.size = 256) :
    (execOp a.eval o).run Tryz.prog w = .ok (.value (.agg cs)) w := by
  have hrun : (Instr.loadAt 112 (.pointer (some ⟨g, 0, none⟩))).run Tryz.prog w = .ok (.agg cs) w := by
    simp only [Instr.loadAt, Instr.sureAddr, Sem.run_bind, Sem.run_pure, Result.andThen]
    exact run_loadVar_row w g _ _ cs (0, 0) _ hrow Tryz.underlying112 rfl (by rw [info110, hs])
  simp [execOp, hop, hx, hrun, Result.andThen]
def DiskSt.wrote (D : DiskSt) (n : Int) (x : List Int) : DiskSt := { D with loose := upd D.loose n x }
structure W1 (w : World) (bx bd bn p ms ml : Nat) (n : Int) (x : List Int) (D : DiskSt) : Prop where
  px : w.heap[bx]? = some (.cells (encB x) 112 (0, 0))
  pd : w.cell? ⟨bd, 0, none⟩ = some (.pointer (some ⟨p, 0, none⟩))
  pn : w.cell? ⟨bn, 0, none⟩ = some (.int .i64 n)
  disk : DiskAt w p ms ml D
  nd : bd ≠ ml
  nn : bn ≠ ml
  np : bn ≠ p
theorem W1.moves {w w' : World} {bx bd bn p ms ml : Nat} {n : Int} {x : List Int} {D : DiskSt} {l : List Nat} (h : W1 w bx bd bn p ms ml n x D) (hm : Moves l w w') (hx : ¬ bx ∈ l) (hd : ¬ bd ∈ l) (hn : ¬ bn ∈ l) (h1 : ¬ p ∈ l) (h2 : ¬ ms ∈ l) (h3 : ¬ ml ∈ l) : W1 w' bx bd bn p ms ml n x D := by
  refine ⟨(hm.block bx (lt_of_row h.px) hx).trans h.px, ?_, ?_, h.disk.moves hm h1 h2 h3, h.nd, h.nn, h.np⟩
  · have : bd < w.heap.size := block_lt_of_cell h.pd
    exact (World.cell?_of_block (hm.block bd this hd)).trans h.pd
  · have : bn < w.heap.size := block_lt_of_cell h.pn
    exact (World.cell?_of_block (hm.block bn this hn)).trans h.pn
structure W1c (w : World) (bx bd bn p ms ml : Nat) (n : Int) (x : List Int) (D : DiskSt) : Prop where
  px : w.heap[bx]? = some (.cells (encB x) 112 (0, 0))
  pd : w.cell? ⟨bd, 0, none⟩ = some (.pointer (some ⟨p, 0, none⟩))
  pn : w.cell? ⟨bn, 0, none⟩ = some (.int .i64 n)
  cells : DCells w p ms ml D
theorem W1c.grown {w w' : World} {bx bd bn p ms ml : Nat} {n : Int} {x : List Int} {D : DiskSt} (h : W1c w bx bd bn p ms ml n x D) (hg : w.grownBy w' (some ml)) (hx : bx ≠ ml) (hd : bd ≠ ml) (hn : bn ≠ ml) (hp : p ≠ ml) : W1c w' bx bd bn p ms ml n x D :=
  ⟨(hg.block bx (lt_of_row h.px) (by simpa using hx)).trans h.px, hg.cell h.pd (by simpa using hd), hg.cell h.pn (by simpa using hn), cells_grown h.cells hg hp⟩
def T114_0 : Bool × List (List Nat × List Nat) := (true, [([], []), ([0], [0]), ([1], [1]), ([2], [2]), ([], []), ([], []), ([3, 4, 5, 0, 1, 2, 3, 4, 5], [3, 4, 5])])
def B114_0 : List Nat := [0, 1, 3, 7, 0, 0, 63]
theorem tab114_0 : rtab .any (opsOf Tryz.f114 0) = T114_0 := by kernel_rfl
theorem bits114_0 : waitsOk T114_0.2 B114_0 = true := by kernel_rfl
theorem write1_any (bx bd bn p ms ml : Nat) (n : Int) (x : List Int) (D : DiskSt) (w : World) (h : W1 w bx bd bn p ms ml n x D) (hx : x.length = 256) (hn : wf n) (h0 : 0 ≤ n) (h1 : n < D.blocks) :
    Calls Tryz.prog 114 #[.pointer (some ⟨bx, 0, none⟩), .pointer (some ⟨bd, 0, none⟩), .pointer (some ⟨bn, 0, none⟩)] w fun e w' => e = .returned (.tuple #[]) ∧ DiskAt w' p ms ml (D.wrote n x) ∧ Moves [ml] w w' := by
  have HX := Hide.mk hx
  have HN := Hide.mk hn
  have HB := Hide.mk (show 0 ≤ n ∧ n < D.blocks from ⟨h0, h1⟩)
  have HL : Hide (∀ j, (D.loose j).isSome = true → 0 ≤ j ∧ j < (4096 : Nat)) := ⟨fun j hj => dom4096 h.disk j (.inr hj)⟩
  have KD : W1 w.drew bx bd bn p ms ml n x D := h.moves (l := []) ⟨rfl, rfl, rfl, Nat.le_refl _, fun _ _ _ => rfl⟩ (by simp) (by simp) (by simp) (by simp) (by simp) (by simp)
  have KC : W1c w.drew bx bd bn p ms ml n x D := ⟨KD.px, KD.pd, KD.pn, KD.disk.cells⟩
  have KX := Hide.mk (row_ne_map KD.px KD.disk.loose)
  clear h hx hn h0 h1
  go_enter Tryz.func114, Tryz.ntmps114
  go_wp2
  refine s_ 7 (fun w' => W1c w' bx bd bn p ms ml n x D) tab114_0 bits114_0 KC (fun hHeld HT_ HW_ => ?_)
  refine t_ 0 3 hHeld ?_ (hy := by
      intro w' hS'
      have s1 := hS'.pd
      go_simp
      rfl)
  refine p_ 1 4 ?_
  refine p_ 2 5 ?_
  refine t_ 3 6 hHeld ?_ (hy := by
      intro w' hS'
      have s2 := hS'.cells.c2
      go_simp
      rfl)
  refine t_ 4 7 hHeld ?_ (hy := by
      intro w' hS'
      have s3 := hS'.pn
      go_simp
      rfl)
  refine t_ 5 8 hHeld ?_ (hy := by
      intro w' hS'
      refine exec_load (x := .tmp 0) ?_ ?_ hS'.px (by rw [encB_size]; exact HX.out)
      · rfl
      · rfl)
  refine n_ 6 none (fun K hK => ?_)
  obtain ⟨w5, hrun, hm, hg⟩ := KD.disk.loose.store (C := blk) (t := 78) (N := 4096) Tryz.underlying3 Tryz.underlying78 HN.out HX.out HL.out (by unfold maxLen; omega)
  replace hrun : (Instr.mapUpdate 78 (.map (some ml)) (.int .i64 n) (.agg (encB x))).run Tryz.prog w.drew = .ok () w5 := hrun
  have KM := Hide.mk hm
  have KG := Hide.mk hg
  have h5 := hHeld.grown hg KX.out KD.nd KD.nn (row_ne_map KD.disk.row KD.disk.loose)
  clear hm hg
  refine skip_ (w1 := w5) (by rfl) rfl ?_ ?_
  · first | (go_simp; done) | (go_simp; rfl)
  refine hK.out _ _ h5 (fun hHeld => ?_)
  clear hK K
  refine d_ ?_
  have HD := Hide.mk KD.disk
  clear KD KC h5 hHeld
  go_wp2
  go_end0
  have hdr : Moves [ml] w w.drew := ⟨rfl, rfl, rfl, Nat.le_refl _, fun _ _ _ => rfl⟩
  have hm : Moves [ml] w.drew w5 := Moves.of_grown KG.out
  have hp : p ≠ ml := row_ne_map HD.out.row HD.out.loose
  refine ⟨rfl, ⟨(hm.block p (lt_of_row HD.out.row) (by simpa using hp)).trans HD.out.row, HD.out.safe.moves hm (by simpa using HD.out.ne), KM.out, HD.out.ne, ?_, HD.out.most, ?_⟩, hdr.trans hm⟩
  · intro k hk
    rcases hk with hk | hk
    · exact HD.out.dom k (.inl hk)
    · simp only [DiskSt.wrote, upd] at hk
      by_cases c : k = n
      · subst c
        exact HB.out
      · rw [if_neg c] at hk
        exact HD.out.dom k (.inr hk)
  · intro k l hk
    rcases hk with hk | hk
    · exact HD.out.len k l (.inl hk)
    · simp only [DiskSt.wrote, upd] at hk
      by_cases c : k = n
      · rw [if_pos c] at hk
        cases hk
        exact HX.out
      · rw [if_neg c] at hk
        exact HD.out.len k l (.inr hk)
end Go.Proofs.YtplkndmkchpcdaaGreat.Disk
end
section
namespace Go.Proofs.YtplkndmkchpcdaaGreat.Disk
open Go.RowKit Go.Maps MapFn
set_option maxHeartbeats 4000000
set_option maxRecDepth 100000
def DiskSt.op (D : DiskSt) : DiskSt := { D with ops := wrap64 (D.ops + 1) }
def DiskSt.fail1 (D : DiskSt) : DiskSt := { D with fails := wrap64 (D.fails - 1) }
def DiskSt.dead (D : DiskSt) : DiskSt := { D with down := true }
def DiskSt.step (D : DiskSt) (act : DiskSt → DiskSt) : DiskSt × Int :=
  if D.fails = -1 then (act D.op, 0)
  else if D.fails = 0 then ((if D.done = true then act D.op.fail1 else D.op.fail1).dead, 11)
  else (act D.op.fail1, 0)
section
variable {p ms ml : Nat} {D : DiskSt} {w : World}
theorem DiskAt.count_op (h : DiskAt w p ms ml D) : DiskAt (w.setCell ⟨p, 4, none⟩ (.int .i64 (wrap64 (D.ops + 1)))) p ms ml D.op :=
  h.row_set (set_moves _) (by have h1 := set_row (i := 4) h.row (.int .i64 (wrap64 (D.ops + 1))); simp at h1; exact h1) rfl rfl rfl
theorem DiskAt.count_fail (h : DiskAt w p ms ml D) : DiskAt (w.setCell ⟨p, 6, none⟩ (.int .i64 (wrap64 (D.fails - 1)))) p ms ml D.fail1 :=
  h.row_set (set_moves _) (by have h1 := set_row (i := 6) h.row (.int .i64 (wrap64 (D.fails - 1))); simp at h1; exact h1) rfl rfl rfl
theorem DiskAt.die (h : DiskAt w p ms ml D) : DiskAt (w.setCell ⟨p, 3, none⟩ (.bool true)) p ms ml D.dead :=
  h.row_set (set_moves _) (by have h1 := set_row (i := 3) h.row (.bool true); simp at h1; exact h1) rfl rfl rfl
end
theorem W1.disk' {w w' : World} {bx bd bn p ms ml : Nat} {n : Int} {x : List Int} {D D' : DiskSt} (h : W1 w bx bd bn p ms ml n x D) (hm : Moves [p] w w') (hd : DiskAt w' p ms ml D') : W1 w' bx bd bn p ms ml n x D' := by
  have hxp : bx ≠ p := by
    rintro rfl
    have h1 := h.px
    rw [h.disk.row] at h1
    injection h1 with h1
    injection h1 with h1 h2
    cases h2
  have hdp : bd ≠ p := by
    rintro rfl
    have h1 := h.pd
    rw [h.disk.cells.c0] at h1
    cases h1
  refine ⟨(hm.block bx (lt_of_row h.px) (by simpa using hxp)).trans h.px, ?_, ?_, hd, h.nd, h.nn, h.np⟩
  · exact (World.cell?_of_block (hm.block bd (block_lt_of_cell h.pd) (by simpa using hdp))).trans h.pd
  · exact (World.cell?_of_block (hm.block bn (block_lt_of_cell h.pn) (by simpa using h.np))).trans h.pn
theorem step_write (bx bd bn p ms ml : Nat) (n : Int) (x : List Int) (D : DiskSt) (w : World) (h : W1 w bx bd bn p ms ml n x D) (hx : x.length = 256) (hn : wf n) (h0 : 0 ≤ n) (h1 : n < D.blocks) :
    Calls Tryz.prog 113 #[.pointer (some ⟨p, 0, none⟩), .func (.func 114) #[] #[.pointer (some ⟨bx, 0, none⟩), .pointer (some ⟨bd, 0, none⟩), .pointer (some ⟨bn, 0, none⟩)]] w fun e w' =>
      e = .returned (.int .i64 (D.step (·.wrote n x)).2) ∧ DiskAt w' p ms ml (D.step (·.wrote n x)).1 ∧ Moves [p, ml] w w' := by
  have hd := h.disk
  have c4 := hd.cells.c4
  have c6 := hd.cells.c6
  have c7 := hd.cells.c7
  have f4 := free_of (i := 4) hd.row
  have f6 := free_of (i := 6) hd.row
  have HH := Hide.mk h
  have M1 := Hide.mk (set_moves (w := w) (p := p) (i := 4) (.int .i64 (wrap64 (D.ops + 1))))
  have M2 := Hide.mk (M1.out.trans (set_moves (w := w.setCell ⟨p, 4, none⟩ (.int .i64 (wrap64 (D.ops + 1)))) (p := p) (i := 6) (.int .i64 (wrap64 (D.fails - 1)))))
  have H1 := Hide.mk (h.disk' M1.out hd.count_op)
  have H2 := Hide.mk (h.disk' M2.out hd.count_op.count_fail)
  have C1 := Hide.mk (write1_any bx bd bn p ms ml n x D.op _ H1.out hx hn h0 h1)
  have C2 := Hide.mk (write1_any bx bd bn p ms ml n x D.op.fail1 _ H2.out hx hn h0 h1)
  have HD := Hide.mk hd
  clear h hd hx h0 h1
  unfold DiskSt.step
  by_cases e1 : D.fails = -1
  · rw [if_pos e1]
    rw [e1] at c6
    clear e1
    go_enter Tryz.func113, Tryz.ntmps113
    go_wp2_with (go_at_call 114; refine C1.out.mono ?_; rintro e w3 ⟨rfl, hd3, hm3⟩; have D3 := Hide.mk hd3; have M3 := Hide.mk hm3; clear hd3 hm3)
    go_ret
    exact ⟨rfl, D3.out, (M1.out.more (by simp)).trans (M3.out.more (by simp))⟩
  · rw [if_neg e1]
    have q1 : (D.fails != -1) = true := by simp [e1]
    by_cases e2 : D.fails = 0
    · rw [if_pos e2]
      have ew : wrap64 (D.fails - 1) = -1 := by rw [e2]; unfold wrap64; omega
      rw [ew] at C2 M2 H2
      rw [e2] at c6
      clear q1 e1
      cases e3 : D.done with
      | true =>
        rw [e3] at c7
        clear e3
        go_enter Tryz.func113, Tryz.ntmps113
        go_wp2_with (go_at_call 114; refine C2.out.mono ?_; rintro e w3 ⟨rfl, hd3, hm3⟩; have D3 := Hide.mk hd3; have M3 := Hide.mk hm3; have f3 := free_of (i := 3) hd3.row; have c3 := hd3.cells.c3; clear hd3 hm3)
        go_ret
        exact ⟨rfl, D3.out.die, ((M2.out.more (by simp)).trans (M3.out.more (by simp))).trans ((set_moves (i := 3) (.bool true)).more (by simp))⟩
      | false =>
        rw [e3] at c7
        clear e3
        have f3 := free_of (i := 3) H2.out.disk.row
        have c3 := H2.out.disk.cells.c3
        go_enter Tryz.func113, Tryz.ntmps113
        go_wp2
        go_ret
        exact ⟨rfl, H2.out.disk.die, (M2.out.more (by simp)).trans ((set_moves (i := 3) (.bool true)).more (by simp))⟩
    · rw [if_neg e2]
      have q2 : (D.fails == 0) = false := by simp [e2]
      clear e1 e2
      go_enter Tryz.func113, Tryz.ntmps113
      go_wp2_with (go_at_call 114; refine C2.out.mono ?_; rintro e w3 ⟨rfl, hd3, hm3⟩; have D3 := Hide.mk hd3; have M3 := Hide.mk hm3; clear hd3 hm3)
      go_ret
      exact ⟨rfl, D3.out, (M2.out.more (by simp)).trans (M3.out.more (by simp))⟩
theorem step_sync (p ms ml : Nat) (D : DiskSt) (w : World) (h : DiskAt w p ms ml D) :
    Calls Tryz.prog 113 #[.pointer (some ⟨p, 0, none⟩), .func (.func 83) #[.pointer (some ⟨p, 0, none⟩)] #[]] w fun e w' =>
      e = .returned (.int .i64 (D.step DiskSt.settled).2) ∧ ∃ ml', DiskAt w' p ms ml' (D.step DiskSt.settled).1 ∧ (ml' = ml ∨ w.heap.size ≤ ml') ∧ Moves [p, ms] w w' := by
  have hd := h
  have c4 := hd.cells.c4
  have c6 := hd.cells.c6
  have c7 := hd.cells.c7
  have f4 := free_of (i := 4) hd.row
  have f6 := free_of (i := 6) hd.row
  have HH := Hide.mk h
  have M1 := Hide.mk (set_moves (w := w) (p := p) (i := 4) (.int .i64 (wrap64 (D.ops + 1))))
  have M2 := Hide.mk (M1.out.trans (set_moves (w := w.setCell ⟨p, 4, none⟩ (.int .i64 (wrap64 (D.ops + 1)))) (p := p) (i := 6) (.int .i64 (wrap64 (D.fails - 1)))))
  have H1 := Hide.mk hd.count_op
  have H2 := Hide.mk (show DiskAt ((w.setCell ⟨p, 4, none⟩ (.int .i64 (wrap64 (D.ops + 1)))).setCell ⟨p, 6, none⟩ (.int .i64 (wrap64 (D.fails - 1)))) p ms ml D.op.fail1 from hd.count_op.count_fail)
  have C1 := Hide.mk (settle_any p ms ml D.op _ H1.out)
  have C2 := Hide.mk (settle_any p ms ml D.op.fail1 _ H2.out)
  have HD := Hide.mk hd
  clear h hd
  unfold DiskSt.step
  by_cases e1 : D.fails = -1
  · rw [if_pos e1]
    rw [e1] at c6
    clear e1
    go_enter Tryz.func113, Tryz.ntmps113
    go_wp2_with (go_at_call 83; refine C1.out.mono ?_; rintro e w3 ⟨rfl, ml3, hd3, hl3, hm3⟩; have L3 := Hide.mk hl3; clear hl3; have D3 := Hide.mk hd3; have M3 := Hide.mk hm3; clear hd3 hm3)
    go_ret
    exact ⟨rfl, ml3, D3.out, .inr (Nat.le_trans M1.out.size L3.out), (M1.out.more (by simp)).trans (M3.out.more (by simp))⟩
  · rw [if_neg e1]
    have q1 : (D.fails != -1) = true := by simp [e1]
    by_cases e2 : D.fails = 0
    · rw [if_pos e2]
      have ew : wrap64 (D.fails - 1) = -1 := by rw [e2]; unfold wrap64; omega
      rw [ew] at C2 M2 H2
      rw [e2] at c6
      clear q1 e1
      cases e3 : D.done with
      | true =>
        rw [e3] at c7
        clear e3
        go_enter Tryz.func113, Tryz.ntmps113
        go_wp2_with (go_at_call 83; refine C2.out.mono ?_; rintro e w3 ⟨rfl, ml3, hd3, hl3, hm3⟩; have L3 := Hide.mk hl3; clear hl3; have D3 := Hide.mk hd3; have M3 := Hide.mk hm3; have f3 := free_of (i := 3) hd3.row; have c3 := hd3.cells.c3; clear hd3 hm3)
        go_ret
        exact ⟨rfl, ml3, D3.out.die, .inr (Nat.le_trans M2.out.size L3.out), ((M2.out.more (by simp)).trans (M3.out.more (by simp))).trans ((set_moves (i := 3) (.bool true)).more (by simp))⟩
      | false =>
        rw [e3] at c7
        clear e3
        have f3 := free_of (i := 3) H2.out.row
        have c3 := H2.out.cells.c3
        go_enter Tryz.func113, Tryz.ntmps113
        go_wp2
        go_ret
        exact ⟨rfl, ml, H2.out.die, .inl rfl, (M2.out.more (by simp)).trans ((set_moves (i := 3) (.bool true)).more (by simp))⟩
    · rw [if_neg e2]
      have q2 : (D.fails == 0) = false := by simp [e2]
      clear e1 e2
      go_enter Tryz.func113, Tryz.ntmps113
      go_wp2_with (go_at_call 83; refine C2.out.mono ?_; rintro e w3 ⟨rfl, ml3, hd3, hl3, hm3⟩; have L3 := Hide.mk hl3; clear hl3; have D3 := Hide.mk hd3; have M3 := Hide.mk hm3; clear hd3 hm3)
      go_ret
      exact ⟨rfl, ml3, D3.out, .inr (Nat.le_trans M2.out.size L3.out), (M2.out.more (by simp)).trans (M3.out.more (by simp))⟩
end Go.Proofs.YtplkndmkchpcdaaGreat.Disk
end
section
namespace Go.Proofs.YtplkndmkchpcdaaGreat.Disk
open Go.RowKit Go.Maps MapFn YtplkndmkchpcdaaGreatW.PrintWords
set_option maxHeartbeats 4000000
set_option maxRecDepth 100000
theorem copy_blk {w : World} {ops : Array Oper} {rest : List Oper} {o : Oper} {a : Act} {Q : Exit → Act → World → Prop} (hgd : o.guard = none) (d s : Operand)
    (hop : o.op = .call { callee := .builtin .copy, args := #[d, s], argTypes := #[22, 22] }) (g : Nat) (cs : Array Value) (ad : Addr) (c : Nat) (l : List Int) (hd : a.eval d = .slice (some ⟨g, 0, none⟩) 256 256) (hs : a.eval s = .slice (some ad) 256 c)
    (hrow : w.heap[g]? = some (.cells cs 112 (0, 0))) (hcs : cs.size = 256) (hl : l.length = 256) (hsrc : ∀ j v, (l.map (Value.int .u8))[j]? = some v → w.cell? (ad.add j) = some v)
    (hK : ∀ w', w'.heap[g]? = some (.cells (encB l) 112 (0, 0)) → w.grownBy w' (some g) → w'.heap.size = w.heap.size → wpList Tryz.prog ops Q rest (a.put o.dst (goInt 256)) w') : wpList Tryz.prog ops Q (o :: rest) a w := by
  have hml : (l.map (Value.int .u8)).length = 256 := by simp [hl]
  have hr := run_copy_row Tryz.prog w 22 22 o.type 5 g 0 256 256 ad 256 c cs 112 (l.map (Value.int .u8)) Tryz.underlying22 (by kernel_rfl) hrow (by rw [hml]; rfl) hsrc (by rw [hml, hcs]; omega) (by
    intro v hv
    obtain ⟨x, _, rfl⟩ := List.mem_map.1 hv
    rfl)
  have e1 : (cs.toList.take 0 ++ l.map (Value.int .u8) ++ cs.toList.drop (0 + (l.map (Value.int .u8)).length)).toArray = encB l := by
    rw [hml, List.drop_eq_nil_of_le (by simp [hcs])]
    simp [encB]
  rw [e1, hml] at hr
  refine wpList_plain hgd fun K' hK' => ?_
  have h2 := hK (w.setRow g (encB l)) (setRow_heap w g cs (encB l) _ _ hrow) ⟨rfl, rfl, rfl, by simp, fun k hk hne => setRow_other w g k _ (fun e => hne (by rw [e]))⟩ (by simp)
  unfold Oper.wp execOp
  simp only [hop, resolve, invoke, builtin, Sem.run_bind, Sem.run_pure, Result.andThen_ok, List.map_toArray, List.map_cons, List.map_nil, hd, hs, hr]
  exact hK' _ _ h2
theorem moves_new {l : List Nat} {w w1 w2 w3 : World} {g : Nat} (h1 : Moves l w w1) (h2 : Below w1.heap.size w1 w2) (hg : w2.grownBy w3 (some g)) (hn : w1.heap.size ≤ g) : Moves l w w3 :=
  h1.trans (((Moves.of_below h2 [g]).trans (Moves.of_grown hg)).more (fun x hx => by simp at hx; right; omega))
def DiskSt.write (D : DiskSt) (n : Int) (l : List Int) : DiskSt × Int := if D.at_ n ≠ 0 then (D, D.at_ n) else if l.length ≠ 256 then (D, 2) else D.step (·.wrote n l)
def DiskSt.sync (D : DiskSt) : DiskSt × Int := if D.asked ≠ 0 then (D, D.asked) else D.step DiskSt.settled
theorem at_in {D : DiskSt} {n : Int} (h : D.at_ n = 0) : 0 ≤ n ∧ n < D.blocks := by
  unfold DiskSt.at_ at h
  split at h
  · cases h
  · split at h
    · cases h
    · omega
section
variable {p ms ml : Nat} {D : DiskSt} {w : World}
theorem sync_any (h : DiskAt w p ms ml D) : Calls Tryz.prog 91 #[.pointer (some ⟨p, 0, none⟩)] w fun e w' => e = .returned (.int .i64 D.sync.2) ∧ ∃ ml', DiskAt w' p ms ml' D.sync.1 ∧ (ml' = ml ∨ w.heap.size ≤ ml') ∧ Moves [p, ms] w w' := by
  have HA := Hide.mk (asked_any h)
  have HS := Hide.mk (step_sync p ms ml D w h)
  have HD := Hide.mk h
  unfold DiskSt.sync
  obtain ⟨x, hx⟩ : ∃ x, D.asked = x := ⟨_, rfl⟩
  rw [hx] at HA ⊢
  clear h hx
  by_cases c : x = 0
  · subst c
    rw [if_neg (by simp)]
    go_enter Tryz.func91, Tryz.ntmps91
    go_wp2_with (first
      | (go_at_call 80; refine HA.out.mono ?_; rintro e w1 ⟨rfl, rfl⟩)
      | (go_at_call 113; refine HS.out.mono ?_; rintro e w2 ⟨rfl, ml2, hd2, hl2, hm2⟩; have D2 := Hide.mk hd2; have L2 := Hide.mk hl2; have M2 := Hide.mk hm2; clear hd2 hl2 hm2))
    go_ret
    exact ⟨rfl, ml2, D2.out, L2.out, M2.out⟩
  · rw [if_pos c]
    have q : (x != 0) = true := by simp [c]
    clear c
    go_enter Tryz.func91, Tryz.ntmps91
    go_wp2_with (go_at_call 80; refine HA.out.mono ?_; rintro e w1 ⟨rfl, rfl⟩)
    go_ret
    exact ⟨rfl, ml, HD.out, .inl rfl, Moves.refl _ _⟩
theorem write_any (n : Int) (A : Option Addr) (c : Nat) (l : List Int) (h : DiskAt w p ms ml D) (hn : wf n) (hr : Kd.C (Kd.int .u8) w A l.length l) :
    Calls Tryz.prog 88 #[.pointer (some ⟨p, 0, none⟩), .int .i64 n, .slice A l.length c] w fun e w' => e = .returned (.int .i64 (D.write n l).2) ∧ DiskAt w' p ms ml (D.write n l).1 ∧ Moves [p, ml] w w' := by
  have b2 : Below w.heap.size w ((w.alloc (.cells #[.pointer (some ⟨p, 0, none⟩)] 28)).alloc (.cells #[.int .i64 n] 3)) := ((Below.refl _ _).alloc (Nat.le_refl _) _).alloc (by simp) _
  have HA := Hide.mk (at_any n (h.below b2))
  have B2 := Hide.mk b2
  have HD := Hide.mk h
  unfold DiskSt.write
  obtain ⟨x, hx⟩ : ∃ x, D.at_ n = x := ⟨_, rfl⟩
  have HX := Hide.mk hx
  rw [hx] at HA ⊢
  clear hx b2
  by_cases c0 : x = 0
  · subst c0
    rw [if_neg (by simp)]
    by_cases c1 : l.length = 256
    · rw [if_neg (by simpa using c1)]
      have hsrc : ∃ ad, A = some ad ∧ ad.block < w.heap.size ∧ ∀ j, j < 256 → w.cell? (ad.add j) = some (.int .u8 (l.getD j 0)) := by
        cases A with
        | none =>
          obtain ⟨ad, e, _⟩ := Kd.at_int hr 0 (by omega) (by omega)
          cases e
        | some ad =>
          have hj : ∀ j, j < 256 → w.cell? (ad.add j) = some (.int .u8 (l.getD j 0)) := by
            intro j hj
            obtain ⟨ad', e, hc⟩ := Kd.at_int hr (j : Int) (by omega) (by omega)
            cases e
            simpa [rd] using hc
          refine ⟨ad, rfl, ?_, hj⟩
          have := block_lt_of_cell (hj 0 (by omega))
          have e0 : (ad.add 0).block = ad.block := by unfold Addr.add; split <;> rfl
          rwa [e0] at this
      rw [c1]
      obtain ⟨ad, rfl, hadlt, hcells⟩ := hsrc
      have HC := Hide.mk hcells
      have HL := Hide.mk c1
      have HN := Hide.mk hn
      have HLT := Hide.mk hadlt
      have HI := Hide.mk (at_in HX.out)
      have hp0 := lt_of_row h.row
      have HP := Hide.mk hp0
      have k0 : ((w.alloc (.cells #[.pointer (some ⟨p, 0, none⟩)] 28)).alloc (.cells #[.int .i64 n] 3)).cell? ⟨w.heap.size, 0, none⟩ = some (.pointer (some ⟨p, 0, none⟩)) := by go_simp
      have k1 : ((w.alloc (.cells #[.pointer (some ⟨p, 0, none⟩)] 28)).alloc (.cells #[.int .i64 n] 3)).cell? ⟨w.heap.size + 1, 0, none⟩ = some (.int .i64 n) := by go_simp
      have ksz : ((w.alloc (.cells #[.pointer (some ⟨p, 0, none⟩)] 28)).alloc (.cells #[.int .i64 n] 3)).heap.size = w.heap.size + 2 := by simp
      have K0 := Hide.mk k0
      have K1 := Hide.mk k1
      have KZ := Hide.mk ksz
      clear c1 h hn hr hcells hadlt hp0 k0 k1 ksz
      go_enter Tryz.func88, Tryz.ntmps88
      go_wp2_with (first
        | (go_at_call 112; refine HA.out.mono ?_; rintro e w3 ⟨rfl, hb3⟩; have B3 := Hide.mk hb3
           have Z3 := Hide.mk (show w.heap.size + 2 ≤ w3.heap.size by have := hb3.size; have := KZ.out; omega)
           have L3 := Hide.mk (heap_last w3 zrow)
           have B4 := Hide.mk (hb3.trans ((Below.refl _ _).alloc hb3.size zrow))
           clear hb3)
        | (refine copy_blk rfl _ _ rfl w3.heap.size Tryz.zeroCells112 ad c l rfl rfl L3.out zsize HL.out ?hsrc ?_
           case hsrc =>
             intro j v hv
             have hj : j < 256 := by
               have := (List.getElem?_eq_some_iff.1 hv).1
               simpa [HL.out] using this
             have e1 := HC.out j hj
             have e2 : v = .int .u8 (l.getD j 0) := by
               rw [List.getElem?_map] at hv
               obtain ⟨y, hy, rfl⟩ := Option.map_eq_some_iff.1 hv
               simp [List.getD_eq_getElem?_getD, hy]
             have e3 : (ad.add j).block = ad.block := by unfold Addr.add; split <;> rfl
             rw [e2]
             exact (B4.out.cell (by rw [e3, KZ.out]; have := HLT.out; omega)).trans ((B2.out.cell (by rw [e3]; exact HLT.out)).trans e1)
           intro w5 hr5 hg5 hs5
           have d5 : DiskAt w5 p ms ml D := by
             have d4 := ((HD.out.below B2.out).below B3.out).below ((Below.refl _ _).alloc (Nat.le_refl _) zrow)
             have h1 := HP.out
             have h2 := HD.out.safe.lt
             have h3 := HD.out.loose.lt
             have h4 := Z3.out
             exact d4.moves (Moves.of_grown hg5) (by simp; omega) (by simp; omega) (by simp; omega)
           have p5 : w5.cell? ⟨w.heap.size, 0, none⟩ = some (.pointer (some ⟨p, 0, none⟩)) := hg5.cell ((B4.out.cell (by rw [KZ.out]; show w.heap.size < _; omega)).trans K0.out) (by have := Z3.out; simp; omega)
           have n5 : w5.cell? ⟨w.heap.size + 1, 0, none⟩ = some (.int .i64 n) := hg5.cell ((B4.out.cell (by rw [KZ.out]; show w.heap.size + 1 < _; omega)).trans K1.out) (by have := Z3.out; simp; omega)
           have W5 := Hide.mk (show W1 w5 w3.heap.size w.heap.size (w.heap.size + 1) p ms ml n l D from ⟨hr5, p5, n5, d5, by have := HD.out.loose.lt; omega, by have := HD.out.loose.lt; omega, by have := HP.out; omega⟩)
           have S5 := Hide.mk (step_write _ _ _ p ms ml n l D w5 W5.out HL.out HN.out HI.out.1 HI.out.2)
           have M5 := Hide.mk (moves_new (l := [p, ml]) ((Moves.of_below B2.out _).trans (Moves.of_below B3.out _)) ((Below.refl w3.heap.size w3).alloc (Nat.le_refl _) zrow) hg5 (Nat.le_refl _))
           clear hr5 hg5 hs5 n5 d5 L3)
        | (go_at_call 113; refine S5.out.mono ?_; rintro e w6 ⟨rfl, hd6, hm6⟩; have D6 := Hide.mk hd6; have M6 := Hide.mk hm6; clear hd6 hm6))
      go_ret
      exact ⟨rfl, D6.out, M5.out.trans M6.out⟩
    · rw [if_pos c1]
      have q : ((l.length : Int) != 256) = true := by simp; omega
      clear c1 h hn
      go_enter Tryz.func88, Tryz.ntmps88
      go_wp2_with (go_at_call 112; refine HA.out.mono ?_; rintro e w3 ⟨rfl, hb3⟩; have B3 := Hide.mk hb3; clear hb3)
      go_ret
      exact ⟨rfl, (HD.out.below B2.out).below B3.out, (Moves.of_below B2.out _).trans (Moves.of_below B3.out _)⟩
  · rw [if_pos c0]
    have q : (x != 0) = true := by simp [c0]
    clear c0 h hn
    go_enter Tryz.func88, Tryz.ntmps88
    go_wp2_with (go_at_call 112; refine HA.out.mono ?_; rintro e w3 ⟨rfl, hb3⟩; have B3 := Hide.mk hb3; clear hb3)
    go_ret
    exact ⟨rfl, (HD.out.below B2.out).below B3.out, (Moves.of_below B2.out _).trans (Moves.of_below B3.out _)⟩
end
end Go.Proofs.YtplkndmkchpcdaaGreat.Disk
end
section
namespace Go.Proofs.YtplkndmkchpcdaaGreat.Disk
open Go.RowKit Go.Maps MapFn
set_option maxHeartbeats 4000000
set_option maxRecDepth 100000
def DiskSt.failing (D : DiskSt) (n : Int) (b : Bool) : DiskSt := { D with fails := n, done := b }
def DiskSt.fail (D : DiskSt) (n : Int) (b : Bool) : DiskSt × Int := if D.asked ≠ 0 then (D, D.asked) else if n < 0 then (D, 2) else (D.failing n b, 0)
section
variable {p ms ml : Nat} {D : DiskSt} {w : World}
end
end Go.Proofs.YtplkndmkchpcdaaGreat.Disk
end
section
namespace Go.Proofs.YtplkndmkchpcdaaGreatW.PrintWords
open Go.RowKit
namespace Kd
section
variable {α : Type} {d : Kd α} {e base g o n cap : Nat} {ok okp : Nat → Prop} {w W : World} {v : Value} {xs : List α}
end
section
variable {α : Type} {enc : α → Value} {h1 : ∀ x, (enc x).oneCell' = true} {e base g o n cap : Nat} {ok : Nat → Prop} {W : World} {xs : List α}
end
end Kd
end Go.Proofs.YtplkndmkchpcdaaGreatW.PrintWords
end
section
namespace Go.Proofs.YtplkndmkchpcdaaGreatW.PrintWords
open Go.RowKit
namespace Kd
def tag {α : Type} (f : Nat → Nat) (d : Kd α) : Kd (α × Nat) where
  sz := d.sz
  E := d.E
  K := fun w x cs => d.K w x.1 cs
  M := fun w base ok x cs => d.M w base (fun k => ok k ∧ f k = x.2) x.1 cs
  K_len := fun h => d.K_len h
  K_one := fun h => d.K_one h
  K_below := fun hb h => d.K_below hb h
  K_of_M := fun h => d.K_of_M h
  M_mono := fun hok h => d.M_mono (fun k hk => ⟨hok k hk.1, hk.2⟩) h
  M_bound := fun h => d.M_mono (fun _ hk => ⟨⟨hk.1.1, hk.2⟩, hk.1.2⟩) (d.M_bound h)
  M_move := fun hm h => d.M_move (fun k hk => hm k hk.1) h
  M_lower := fun hb h => d.M_lower hb h
def bare {α : Type} (d : Kd α) : Kd α where
  sz := d.sz
  E := d.E
  K := d.K
  M := fun w base _ x cs => d.M w base (fun _ => False) x cs
  K_len := fun h => d.K_len h
  K_one := fun h => d.K_one h
  K_below := fun hb h => d.K_below hb h
  K_of_M := fun h => d.K_of_M h
  M_mono := fun _ h => h
  M_bound := fun h => h
  M_move := fun _ h => d.M_move (fun _ hk => hk.elim) h
  M_lower := fun hb h => d.M_lower hb h
def raw (sz : Nat) : Kd (List Value) where
  sz := sz
  E := []
  K := fun _ x cs => cs = x ∧ cs.length = sz ∧ ∀ u ∈ cs, u.oneCell' = true
  M := fun _ _ _ x cs => cs = x ∧ cs.length = sz ∧ ∀ u ∈ cs, u.oneCell' = true
  K_len := fun h => h.2.1
  K_one := fun h => h.2.2
  K_below := fun _ h => h
  K_of_M := fun h => h
  M_mono := fun _ h => h
  M_bound := fun h => h
  M_move := fun _ h => h
  M_lower := fun _ h => h
def S {α : Type} (d : Kd α) (e : Nat) (w : World) (base : Nat) (ok : Nat → Prop) (v : Value) (xs : List α) : Prop := ∃ f, (tag f d).R e w base ok v xs.zipIdx
section
variable {α β : Type} {d : Kd α} {d' : Kd β} {e e' : Nat} {w w1 W : World} {base b : Nat} {ok ok' okv oku : Nat → Prop} {u v : Value} {xs : List α} {ys : List β}
theorem R_tight (hE : d.E = []) (h : d.R e w base ok v xs) : d.R e w base (fun k => some k = v.ownBlock) v xs := by
  obtain ⟨h0, inner, ho, hr⟩ := h
  refine ⟨fun k hk => hk.symm, inner, ho, hr.imp_ (fun p c hp => d.M_mono (fun k hk => ?_) (d.M_bound hp))⟩
  obtain ⟨_, _, _, q, hq, _⟩ := hk
  rw [hE] at hq
  cases hq
theorem S_nil (d : Kd α) (e : Nat) (w : World) (base : Nat) (ok : Nat → Prop) : S d e w base ok (.slice none 0 0) [] := ⟨fun _ => 0, R_nil _ _ _ _ _⟩
end
section
variable {α β : Type} {d : Kd α} {d' : Kd β} {e e' g : Nat} {w w1 W : World} {base b : Nat} {ok ok' okv oku : Nat → Prop} {u v : Value} {xs : List α} {ys : List β}
end
section
variable {P : Program} {ops : Array Oper} {rest : List Oper} {o : Oper} {a : Act} {Q : Exit → Act → World → Prop} {Kc : Act → World → Prop} {α : Type}
end
def gap {α : Type} (f : Nat → Nat) (d : Kd α) (i : Nat) (c : List Value) : Kd (α × Nat) where
  sz := d.sz
  E := d.E
  K := fun w x cs => (x.2 = i → cs = c ∧ cs.length = d.sz ∧ ∀ u ∈ cs, u.oneCell' = true) ∧ (x.2 ≠ i → d.K w x.1 cs)
  M := fun w base ok x cs => (x.2 = i → cs = c ∧ cs.length = d.sz ∧ ∀ u ∈ cs, u.oneCell' = true) ∧ (x.2 ≠ i → d.M w base (fun k => ok k ∧ f k = x.2) x.1 cs)
  K_len := fun {w x cs} h => by
    by_cases hx : x.2 = i
    · exact (h.1 hx).2.1
    · exact d.K_len (h.2 hx)
  K_one := fun {w x cs} h => by
    by_cases hx : x.2 = i
    · exact (h.1 hx).2.2
    · exact d.K_one (h.2 hx)
  K_below := fun hb h => ⟨h.1, fun hx => d.K_below hb (h.2 hx)⟩
  K_of_M := fun h => ⟨h.1, fun hx => d.K_of_M (h.2 hx)⟩
  M_mono := fun hok h => ⟨h.1, fun hx => d.M_mono (fun k hk => ⟨hok k hk.1, hk.2⟩) (h.2 hx)⟩
  M_bound := fun h => ⟨h.1, fun hx => d.M_mono (fun _ hk => ⟨⟨hk.1.1, hk.2⟩, hk.1.2⟩) (d.M_bound (h.2 hx))⟩
  M_move := fun hm h => ⟨h.1, fun hx => d.M_move (fun k hk => hm k hk.1) (h.2 hx)⟩
  M_lower := fun hb h => ⟨h.1, fun hx => d.M_lower hb (h.2 hx)⟩
def H {α : Type} (d : Kd α) (e : Nat) (w : World) (base : Nat) (ok : Nat → Prop) (v : Value) (xs : List α) (i : Int) (oki : Nat → Prop) (c : List Value) : Prop :=
  (∀ k, oki k → ok k) ∧ ∃ f, (gap f d i.toNat c).R e w base (fun k => ok k ∧ ¬ oki k) v xs.zipIdx
section
variable {α β : Type} {d : Kd α} {e e' g n cap : Nat} {w w1 W : World} {base : Nat} {ok ok' oki okp : Nat → Prop} {u v : Value} {xs : List α} {i : Int} {c : List Value}
end
section
variable {P : Program} {ops : Array Oper} {rest : List Oper} {o : Oper} {a : Act} {Q : Exit → Act → World → Prop} {α : Type}
end
end Kd
end Go.Proofs.YtplkndmkchpcdaaGreatW.PrintWords
end
section
namespace Go.Proofs.YtplkndmkchpcdaaGreatW.PrintWords
open Go.RowKit
namespace Kd
theorem reps_one {α : Type} {R : α → List Value → Prop} {size : Nat} {ps : List α} {cs : List Value} (h : Reps R size ps cs) (hs0 : 0 < size) (hR : ∀ p c, R p c → ∀ u ∈ c, u.oneCell' = true) : ∀ u ∈ cs, u.oneCell' = true := by
  intro u hu
  obtain ⟨q, hq, rfl⟩ := List.mem_iff_getElem.1 hu
  have hql : q / size < ps.length := by
    rw [Nat.div_lt_iff_lt_mul hs0, ← h.1]
    exact hq
  refine hR _ _ (h.2 (q / size) _ (List.getElem?_eq_getElem hql)) _ ?_
  rw [List.mem_iff_getElem?]
  refine ⟨q % size, ?_⟩
  rw [List.getElem?_take, if_pos (Nat.mod_lt _ hs0), List.getElem?_drop, Nat.mul_comm, Nat.div_add_mod, List.getElem?_eq_getElem hq]
def arr {α : Type} (n : Nat) (d : Kd α) (hs : 0 < d.sz) : Kd (List α) where
  sz := n * d.sz
  E := d.E
  K := fun w xs cs => xs.length = n ∧ Reps (d.K w) d.sz xs cs
  M := fun w base ok xs cs => xs.length = n ∧ Reps (d.M w base ok) d.sz xs cs
  K_len := fun h => by rw [← h.1]; exact h.2.1
  K_one := fun h => reps_one h.2 hs (fun _ _ hk => d.K_one hk)
  K_below := fun hb h => ⟨h.1, h.2.imp_ (fun _ _ hk => d.K_below hb hk)⟩
  K_of_M := fun h => ⟨h.1, h.2.imp_ (fun _ _ hk => d.K_of_M hk)⟩
  M_mono := fun hok h => ⟨h.1, h.2.imp_ (fun _ _ hk => d.M_mono hok hk)⟩
  M_bound := fun h => ⟨h.1, h.2.imp_ (fun _ _ hk => d.M_bound hk)⟩
  M_move := fun hm h => ⟨h.1, h.2.imp_ (fun _ _ hk => d.M_move hm hk)⟩
  M_lower := fun hb h => ⟨h.1, h.2.imp_ (fun _ _ hk => d.M_lower hb hk)⟩
section
variable {α : Type} {n : Nat} {d : Kd α} {hs : 0 < d.sz} {w : World} {base : Nat} {ok : Nat → Prop} {xs : List α} {cs : List Value}
end
section
variable {α : Type} {n : Nat} {enc : α → Value} {h1 : ∀ x, (enc x).oneCell' = true} {hs : 0 < (scalar enc h1).sz} {w : World} {base : Nat} {ok : Nat → Prop} {xs : List α} {cs : List Value}
end
end Kd
end Go.Proofs.YtplkndmkchpcdaaGreatW.PrintWords
end
section
namespace Go.Proofs.YtplkndmkchpcdaaGreatW.PrintWords
open Go.RowKit
section
variable {P : Program}
end
namespace Kd
section
variable {P : Program} {ops : Array Oper} {rest : List Oper} {o : Oper} {a : Act} {Q : Exit → Act → World → Prop} {Kc : Act → World → Prop} {α : Type}
end
def tagO {α : Type} (f : Nat → Nat) (d : Kd α) : Kd (α × Option Nat) where
  sz := d.sz
  E := d.E
  K := fun w x cs => d.K w x.1 cs
  M := fun w base ok x cs => d.M w base (fun k => ok k ∧ some (f k) = x.2) x.1 cs
  K_len := fun h => d.K_len h
  K_one := fun h => d.K_one h
  K_below := fun hb h => d.K_below hb h
  K_of_M := fun h => d.K_of_M h
  M_mono := fun hok h => d.M_mono (fun k hk => ⟨hok k hk.1, hk.2⟩) h
  M_bound := fun h => d.M_mono (fun _ hk => ⟨⟨hk.1.1, hk.2⟩, hk.1.2⟩) (d.M_bound h)
  M_move := fun hm h => d.M_move (fun k hk => hm k hk.1) h
  M_lower := fun hb h => d.M_lower hb h
section
variable {α : Type} {d : Kd α} {e : Nat} {w : World} {base : Nat} {ok : Nat → Prop} {v : Value} {xs : List α}
def zipO (xs : List α) (z : α) (m : Nat) : List (α × Option Nat) := xs.zipIdx.map (fun p => (p.1, some p.2)) ++ List.replicate m (z, none)
end
section
variable {P : Program} {ops : Array Oper} {rest : List Oper} {o : Oper} {a : Act} {Q : Exit → Act → World → Prop} {Kc : Act → World → Prop} {α : Type}
end
end Kd
end Go.Proofs.YtplkndmkchpcdaaGreatW.PrintWords
end
section
namespace Go.Proofs.YtplkndmkchpcdaaGreatW.PrintWords
open Go.RowKit
namespace Kd
structure Heap {α : Type} (d : Kd α) : Prop where
  K : ∀ {w w1 : World} {x : α} {cs : List Value}, (∀ k, k < w.heap.size → w1.heap[k]? = w.heap[k]?) → d.K w x cs → d.K w1 x cs
theorem cell_heap {w w1 : World} (hb : ∀ k, k < w.heap.size → w1.heap[k]? = w.heap[k]?) {a : Addr} {v : Value} (h : w.cell? a = some v) : w1.cell? a = some v := by
  have := hb a.block (World.block_lt_of_cell? w a h)
  simpa [World.cell?, this] using h
theorem Heap.C {α : Type} {d : Kd α} (hd : Heap d) {w w1 : World} {A : Option Addr} {n : Nat} {xs : List α} (hb : ∀ k, k < w.heap.size → w1.heap[k]? = w.heap[k]?) (h : d.C w A n xs) : d.C w1 A n xs :=
  ⟨h.1, h.2.1, fun hn => by
    obtain ⟨ad, e, hc⟩ := h.2.2 hn
    refine ⟨ad, e, fun j p hj => ?_⟩
    obtain ⟨c, hs, hr, hcell⟩ := hc j p hj
    exact ⟨c, hs, hd.K hb hr, fun i u hu => cell_heap hb (hcell i u hu)⟩⟩
theorem heap_int (k : IntKind) : Heap (Kd.int k) := ⟨fun _ h => h⟩
section
variable {α : Type} {d : Kd α} {e base g n c : Nat} {ok : Nat → Prop} {w w0 W : World} {A : Option Addr} {xs : List α}
end
end Kd
end Go.Proofs.YtplkndmkchpcdaaGreatW.PrintWords
end
section
namespace Go.Proofs.YtplkndmkchpcdaaGreatW.PrintWords
open Go.RowKit
def Kept (w W : World) (S : Nat → Prop) : Prop := w.heap.size ≤ W.heap.size ∧ ∀ i, i < w.heap.size → ¬ S i → W.heap[i]? = w.heap[i]?
section
variable {w W W2 : World} {S S2 S' : Nat → Prop}
theorem Kept.refl (w : World) (S : Nat → Prop) : Kept w w S := ⟨Nat.le_refl _, fun _ _ _ => rfl⟩
theorem Kept.of_below (h : Below w.heap.size w W) (S : Nat → Prop) : Kept w W S := ⟨h.size, fun i hi _ => h.block i hi⟩
theorem Kept.then_ (h : Kept w W S) (k : Kept W W2 S2) (hs : ∀ k, S2 k → S k ∨ w.heap.size ≤ k) : Kept w W2 S :=
  ⟨Nat.le_trans h.1 k.1, fun i hi hn => (k.2 i (Nat.lt_of_lt_of_le hi h.1) (fun h2 => (hs i h2).elim hn (fun h3 => by omega))).trans (h.2 i hi hn)⟩
theorem Kept.below (h : Kept w W S) (hb : Below W.heap.size W W2) : Kept w W2 S := h.then_ (Kept.of_below hb (fun _ => False)) (fun _ hk => hk.elim)
theorem Kept.alloc (h : Kept w W S) (o : Obj) : Kept w (W.alloc o) S := h.below (below_alloc (Below.refl _ _) o)
theorem Kept.drew (h : Kept w W S) : Kept w W.drew S := h
theorem Kept.drewN (h : Kept w W S) (m : Nat) : Kept w (W.drewN m) S := h
end
namespace Kd
section
variable {α : Type} {d : Kd α} {e base n c : Nat} {ok oki S S2 : Nat → Prop} {w w0 W W1 W2 : World} {v : Value} {A : Option Addr} {xs : List α} {i : Int} {cs : List Value}
end
end Kd
end Go.Proofs.YtplkndmkchpcdaaGreatW.PrintWords
end
section
namespace Go.Proofs.YtplkndmkchpcdaaGreatW.PrintWords
open Go.RowKit
def Foot (P : World → Prop) (W : World) (ok : Nat → Prop) : Prop := ∀ W' : World, (∀ k, ok k → k < W.heap.size → W'.heap[k]? = W.heap[k]?) → P W'
theorem heap_lt {W W1 : World} {k : Nat} (h : W1.heap[k]? = W.heap[k]?) (hlt : k < W.heap.size) : k < W1.heap.size := by
  rw [Array.getElem?_eq_getElem hlt] at h
  exact (Array.getElem?_eq_some_iff.1 h).1
namespace Foot
variable {P Q : World → Prop} {W W1 : World} {ok ok' : Nat → Prop}
theorem now (h : Foot P W ok) : P W := h W (fun _ _ _ => rfl)
theorem mono (h : Foot P W ok) (hok : ∀ k, ok k → ok' k) : Foot P W ok' := fun W' hW => h W' (fun k hk hlt => hW k (hok k hk) hlt)
theorem bound (h : Foot P W ok) : Foot P W (fun k => ok k ∧ k < W.heap.size) := fun W' hW => h W' (fun k hk hlt => hW k ⟨hk, hlt⟩ hlt)
theorem step (h : Foot P W ok) (hm : ∀ k, ok k → k < W.heap.size → W1.heap[k]? = W.heap[k]?) : Foot P W1 ok := fun W' hW => h W' (fun k hk hlt => (hW k hk (heap_lt (hm k hk hlt) hlt)).trans (hm k hk hlt))
theorem old (h : Foot P W ok) (hb : Below W.heap.size W W1) : Foot P W1 (fun k => ok k ∧ k < W.heap.size) := (h.bound).step (fun k _ hlt => hb.block k hlt)
end Foot
namespace Kd
def F {α : Type} (d : Kd α) (W : World) (ok : Nat → Prop) (A : Option Addr) (n : Nat) (xs : List α) : Prop := Foot (fun W => d.C W A n xs) W ok
def FK {α : Type} (d : Kd α) (W : World) (ok : Nat → Prop) (x : α) (c : List Value) : Prop := Foot (fun W => d.K W x c) W ok
section
variable {α β : Type} {d : Kd α} {e base n n' cc g N : Nat} {ok ok' okp S : Nat → Prop} {w w0 w1 W W1 : World} {A A' : Option Addr} {u v v1 : Value} {xs : List α} {xs' : List β} {d' : Kd β} {x : α} {c : List Value}
theorem F_now (h : F d W ok A n xs) : d.C W A n xs := Foot.now h
theorem F_mono (h : F d W ok A n xs) (hok : ∀ k, ok k → ok' k) : F d W ok' A n xs := Foot.mono h hok
theorem F_step (h : F d W ok A n xs) (hm : ∀ k, ok k → k < W.heap.size → W1.heap[k]? = W.heap[k]?) : F d W1 ok A n xs := Foot.step h hm
theorem F_below (h : F d W ok A n xs) (hb : Below W.heap.size W W1) : F d W1 ok A n xs := F_step h (fun k _ hlt => hb.block k hlt)
theorem F_alloc (h : F d W ok A n xs) (o : Obj) : F d (W.alloc o) ok A n xs := F_below h (below_alloc (Below.refl _ _) o)
theorem F_drew (h : F d W ok A n xs) : F d W.drew ok A n xs := F_below h (below_drew (Below.refl _ _))
theorem F_drewN (h : F d W ok A n xs) (m : Nat) : F d (W.drewN m) ok A n xs := F_below h (pw_below_drewN (Below.refl _ _) m)
theorem F_nil (d : Kd α) (W : World) (ok : Nat → Prop) : F d W ok none ([] : List α).length [] := fun W' _ => C_nil d W'
theorem F_elder' (h : F d W ok A n xs) (hbase : ∀ k, v.ownBlock = some k → W.heap.size ≤ k) (hb : Below W.heap.size W W1) : F d W1 (fun k => ok k ∧ some k ≠ v.ownBlock) A n xs :=
  F_mono (Foot.old h hb) (fun k hk => ⟨hk.1, fun he => by have := hbase k he.symm; have := hk.2; omega⟩)
theorem C_F (hd : Heap d) (h : d.C w A n xs) : F d w (fun k => k < w.heap.size) A n xs := fun _ hW => hd.C (fun k hlt => hW k hlt hlt) h
theorem FK_now (h : FK d W ok x c) : d.K W x c := Foot.now h
theorem FK_mono (h : FK d W ok x c) (hok : ∀ k, ok k → ok' k) : FK d W ok' x c := Foot.mono h hok
theorem FK_bound (h : FK d W ok x c) : FK d W (fun k => ok k ∧ k < W.heap.size) x c := Foot.bound h
theorem FK_step (h : FK d W ok x c) (hm : ∀ k, ok k → k < W.heap.size → W1.heap[k]? = W.heap[k]?) : FK d W1 ok x c := Foot.step h hm
theorem FK_of_M (h : d.M W base ok x c) : FK d W ok x c := fun _ hW => d.K_of_M (M_step h hW)
end
end Kd
end Go.Proofs.YtplkndmkchpcdaaGreatW.PrintWords
end
section
namespace Go.Proofs.YtplkndmkchpcdaaGreatW.PrintWords
open Go.RowKit
namespace Kd
def chunks (sz : Nat) (n : Nat) (inner : List Value) : List (List Value) := (List.range n).map fun j => (inner.drop (j * sz)).take sz
theorem chunks_length (sz n : Nat) (inner : List Value) : (chunks sz n inner).length = n := by simp [chunks]
theorem chunks_at {sz n : Nat} {inner : List Value} {j : Nat} (hj : j < n) : (chunks sz n inner)[j]? = some ((inner.drop (j * sz)).take sz) := by simp [chunks, hj]
theorem chunks_get {sz n : Nat} {inner : List Value} {j : Nat} {c : List Value} (h : (chunks sz n inner)[j]? = some c) : c = (inner.drop (j * sz)).take sz := by
  have hj : j < n := by have := (List.getElem?_eq_some_iff.1 h).1; rwa [chunks_length] at this
  rw [chunks_at hj] at h
  injection h with h
  exact h.symm
theorem reps_raw {α : Type} {Rr : α → List Value → Prop} {sz : Nat} {xs : List α} {inner : List Value} (h : Reps Rr sz xs inner) (hR : ∀ x c, Rr x c → c.length = sz ∧ ∀ u ∈ c, u.oneCell' = true) : Reps (fun x cs => cs = x ∧ cs.length = sz ∧ ∀ u ∈ cs, u.oneCell' = true) sz (chunks sz xs.length inner) inner := by
  refine ⟨by rw [chunks_length]; exact h.1, fun j p hj => ?_⟩
  have hjl : j < xs.length := by have := (List.getElem?_eq_some_iff.1 hj).1; rwa [chunks_length] at this
  have hp := chunks_get hj
  exact ⟨hp.symm, hR _ _ (h.2 j _ (List.getElem?_eq_getElem hjl))⟩
section
variable {α : Type} {d : Kd α} {e base n cc g : Nat} {ok ok' okp S : Nat → Prop} {w w1 W W1 : World} {A : Option Addr} {u v v1 : Value} {xs : List α} {x : α} {c : List Value}
def N {α : Type} (d : Kd α) (e : Nat) (w : World) (base : Nat) (ok : Nat → Prop) (v : Value) (xs : List α) : Prop :=
  (∀ k, v.ownBlock = some k → ok k) ∧ ∃ rows : List (List Value), rows.length = xs.length ∧ (raw d.sz).R e w base (fun k => some k = v.ownBlock) v rows ∧ ∀ (j : Nat) (x : α) (c : List Value), xs[j]? = some x → rows[j]? = some c → FK d w (fun k => ok k ∧ some k ≠ v.ownBlock) x c
theorem raw_tight {sz : Nat} {rows : List (List Value)} (h : (raw sz).R e w base ok v rows) : (raw sz).R e w base (fun k => some k = v.ownBlock) v rows := R_tight rfl h
theorem R_N (h : d.R e w base ok v xs) : N d e w base ok v xs := by
  obtain ⟨h0, inner, ho, hr⟩ := h
  refine ⟨h0, chunks d.sz xs.length inner, chunks_length _ _ _, ⟨fun k hk => hk.symm, inner, by rw [chunks_length]; exact ho, reps_raw hr (fun x c hp => ⟨d.K_len (d.K_of_M hp), d.K_one (d.K_of_M hp)⟩)⟩, fun j x c hx hc => ?_⟩
  rw [chunks_get hc]
  exact FK_of_M (hr.2 j x hx)
theorem N_nil (d : Kd α) (e : Nat) (w : World) (base : Nat) (ok : Nat → Prop) : N d e w base ok (.slice none 0 0) [] := R_N (R_nil _ _ _ _ _)
theorem N_mono (h : N d e w base ok v xs) (hok : ∀ k, ok k → ok' k) : N d e w base ok' v xs := by
  obtain ⟨h0, rows, hl, hR, hf⟩ := h
  exact ⟨fun k hk => hok k (h0 k hk), rows, hl, hR, fun j x c hx hc => FK_mono (hf j x c hx hc) (fun k hk => ⟨hok k hk.1, hk.2⟩)⟩
theorem N_lt (h : N d e w base ok v xs) : ∀ k, v.ownBlock = some k → k < w.heap.size := by
  obtain ⟨_, rows, _, hR, _⟩ := h
  exact R_lt hR
theorem N_base (h : N d e w base ok v xs) : ∀ k, v.ownBlock = some k → base ≤ k := by
  obtain ⟨_, rows, _, hR, _⟩ := h
  exact R_base hR
theorem N_bound (h : N d e w base ok v xs) : N d e w base (fun k => ok k ∧ k < w.heap.size) v xs := by
  have hlt := N_lt h
  obtain ⟨h0, rows, hl, hR, hf⟩ := h
  exact ⟨fun k hk => ⟨h0 k hk, hlt k hk⟩, rows, hl, hR, fun j x c hx hc => FK_mono (FK_bound (hf j x c hx hc)) (fun k hk => ⟨⟨hk.1.1, hk.2⟩, hk.1.2⟩)⟩
theorem N_lower {base' : Nat} (h : N d e w base ok v xs) (hb : base' ≤ base) : N d e w base' ok v xs := by
  obtain ⟨h0, rows, hl, hR, hf⟩ := h
  exact ⟨h0, rows, hl, R_lower hR hb, hf⟩
theorem N_step (h : N d e w base ok v xs) (hm : ∀ k, ok k → k < w.heap.size → w1.heap[k]? = w.heap[k]?) : N d e w1 base ok v xs := by
  obtain ⟨h0, rows, hl, hR, hf⟩ := h
  exact ⟨h0, rows, hl, R_step hR (fun k hk hlt => hm k (h0 k hk.symm) hlt), fun j x c hx hc => FK_step (hf j x c hx hc) (fun k hk hlt => hm k hk.1 hlt)⟩
theorem N_below (h : N d e w base ok v xs) (hb : Below w.heap.size w w1) : N d e w1 base ok v xs := N_step h (fun k _ hk => hb.block k hk)
theorem N_alloc (h : N d e w base ok v xs) (o : Obj) : N d e (w.alloc o) base ok v xs := N_below h (below_alloc (Below.refl _ _) o)
theorem N_drew (h : N d e w base ok v xs) : N d e w.drew base ok v xs := N_below h (below_drew (Below.refl _ _))
theorem N_drewN (h : N d e w base ok v xs) (m : Nat) : N d e (w.drewN m) base ok v xs := N_below h (pw_below_drewN (Below.refl _ _) m)
theorem N_elder' (h : N d e W base ok v xs) (hbase : ∀ k, u.ownBlock = some k → W.heap.size ≤ k) (hb : Below W.heap.size W w1) : N d e w1 base (fun k => ok k ∧ some k ≠ u.ownBlock) v xs :=
  N_mono (N_below (N_bound h) hb) (fun k hk => ⟨hk.1, fun he => by have := hbase k he.symm; have := hk.2; omega⟩)
theorem N_slice (h : N d e w base ok v xs) : ∃ A c, v = .slice A xs.length c := by
  obtain ⟨_, rows, hl, hR, _⟩ := h
  obtain ⟨A, c, he⟩ := R_slice hR
  exact ⟨A, c, by rw [he, hl]⟩
theorem N_reads' {n c : Nat} (h : N d e w base ok (.slice A n c) xs) : n = xs.length ∧ n ≤ c ∧ d.C w A xs.length xs := by
  obtain ⟨_, rows, hl, hR, hf⟩ := h
  obtain ⟨hn, hc, hC⟩ := R_reads' hR
  refine ⟨by omega, hc, ?_⟩
  rw [hl] at hC
  refine ⟨rfl, hC.2.1, fun hp => ?_⟩
  obtain ⟨ad, he, hcell⟩ := hC.2.2 hp
  refine ⟨ad, he, fun j p hj => ?_⟩
  have hjl : j < rows.length := by have := (List.getElem?_eq_some_iff.1 hj).1; omega
  obtain ⟨c', hcl, hK, hcc⟩ := hcell j _ (List.getElem?_eq_getElem hjl)
  have hk := FK_now (hf j p _ hj (List.getElem?_eq_getElem hjl))
  refine ⟨c', hcl, ?_, hcc⟩
  rw [show c' = rows[j] from hK.1]
  exact hk
end
end Kd
end Go.Proofs.YtplkndmkchpcdaaGreatW.PrintWords
end
section
namespace Go.Proofs.YtplkndmkchpcdaaGreatW.PrintWords
open Go.RowKit
namespace Kd
section
variable {α : Type} {d : Kd α} {e base n cap g : Nat} {ok ok' okp : Nat → Prop} {w w1 W : World} {v v1 : Value} {xs ys : List α}
theorem N_made {rows : List (List Value)} (hR : (raw d.sz).R e w1 base (fun k => k = W.heap.size) v1 rows) (hg : W.grownBy w1 none) (hat : ∃ b, v1.ownBlock = some b ∧ W.heap.size ≤ b) (hl : rows.length = xs.length) (hf : ∀ (j : Nat) (x : α) (c : List Value), xs[j]? = some x → rows[j]? = some c → FK d W okp x c)
    (hok : ∀ k, okp k → ok k) (hfresh : ok W.heap.size) : N d e w1 base ok v1 xs := by
  obtain ⟨b, hb, hle⟩ := hat
  refine ⟨fun k hk => by rw [hR.1 k hk]; exact hfresh, rows, hl, raw_tight hR, fun j x c hx hc => ?_⟩
  refine FK_mono (FK_step (FK_bound (hf j x c hx hc)) (fun k hk hlt => hg.block k hlt (by simp))) (fun k hk => ⟨hok k hk.1, fun he => ?_⟩)
  rw [hb] at he
  injection he with he
  have := hk.2
  omega
end
section
variable {P : Program} {ops : Array Oper} {rest : List Oper} {o : Oper} {a : Act} {Q : Exit → Act → World → Prop} {Kc : Act → World → Prop} {α : Type}
theorem N_lit (d : Kd α) {w0 W : World} (base e : Nat) (hgd : o.guard = none) {N' : Tmp} (_hd : o.dst = some N') {xs : List α} {inner : List Value} {ok okp : Nat → Prop}
    (hrun : (execOp a.eval o).run P W = .ok (.value (.slice (some ⟨W.heap.size, 0, none⟩) xs.length xs.length)) (W.alloc (.cells inner.toArray e)))
    (hrep : Reps (FK d W okp) d.sz xs inner) (hok : ∀ k, okp k → ok k) (hfresh : ok W.heap.size) (HB : Below base w0 W) (hbase : base ≤ W.heap.size) (hm : xs.length ≤ 9223372036854775807)
    (h : ∀ v1 w1, N d e w1 base ok v1 xs → Below base w0 w1 → W.grownBy w1 none → (∃ b, v1.ownBlock = some b ∧ W.heap.size ≤ b) → wpList P ops Q rest (a.put o.dst v1) w1) :
    wpList P ops Q (o :: rest) a W := by
  refine R_lit (raw d.sz) base e hgd _hd (xs := chunks d.sz xs.length inner) (inner := inner) (ok := fun k => k = W.heap.size) (okp := fun _ => False) (by rw [chunks_length]; exact hrun) (reps_raw hrep (fun y c hk => ⟨d.K_len (FK_now hk), d.K_one (FK_now hk)⟩)) (fun _ hk => hk.elim) rfl HB hbase (by rw [chunks_length]; exact hm) ?_
  intro v1 w1 hr hb hg hat
  exact h v1 w1 (N_made hr hg hat (chunks_length _ _ _) (fun j y c hy hc => by rw [chunks_get hc]; exact hrep.2 j y hy) hok hfresh) hb hg hat
end
end Kd
end Go.Proofs.YtplkndmkchpcdaaGreatW.PrintWords
end
section
namespace Go.Proofs.YtplkndmkchpcdaaGreatW.PrintMore
open Go.RowKit YtplkndmkchpcdaaGreatW.PrintWords
namespace Kd
open YtplkndmkchpcdaaGreatW.PrintWords.Kd
end Kd
namespace Kd
open YtplkndmkchpcdaaGreatW.PrintWords.Kd
section
variable {α : Type} {d : Kd α} {e base g N : Nat} {ok : Nat → Prop} {W w1 : World} {u v : Value} {xs : List α}
end
end Kd
theorem max2_int (k k' : IntKind) (x y : Int) : Builtin.max2 (.int k x) (.int k' y) = pure (.int k (if x < y then y else x)) := by simp only [Builtin.max2, gt_iff_lt]
theorem min2_int (k k' : IntKind) (x y : Int) : Builtin.min2 (.int k x) (.int k' y) = pure (.int k (if y < x then y else x)) := by simp only [Builtin.min2]
theorem max_two (ats : Array TypeId) (ty : TypeId) (a b : Value) : Builtin.max_ ats ty #[a, b] = (Builtin.max2 a b >>= fun s => pure s) := by simp only [Builtin.max_, List.foldlM_cons, List.foldlM_nil]
theorem min_two (ats : Array TypeId) (ty : TypeId) (a b : Value) : Builtin.min_ ats ty #[a, b] = (Builtin.min2 a b >>= fun s => pure s) := by simp only [Builtin.min_, List.foldlM_cons, List.foldlM_nil]
theorem max_three (ats : Array TypeId) (ty : TypeId) (a b c : Value) : Builtin.max_ ats ty #[a, b, c] = (Builtin.max2 a b >>= fun s => Builtin.max2 s c >>= fun s => pure s) := by simp only [Builtin.max_, List.foldlM_cons, List.foldlM_nil]
theorem min_three (ats : Array TypeId) (ty : TypeId) (a b c : Value) : Builtin.min_ ats ty #[a, b, c] = (Builtin.min2 a b >>= fun s => Builtin.min2 s c >>= fun s => pure s) := by simp only [Builtin.min_, List.foldlM_cons, List.foldlM_nil]
theorem max_four (ats : Array TypeId) (ty : TypeId) (a b c d : Value) : Builtin.max_ ats ty #[a, b, c, d] = (Builtin.max2 a b >>= fun s => Builtin.max2 s c >>= fun s => Builtin.max2 s d >>= fun s => pure s) := by simp only [Builtin.max_, List.foldlM_cons, List.foldlM_nil]
theorem min_four (ats : Array TypeId) (ty : TypeId) (a b c d : Value) : Builtin.min_ ats ty #[a, b, c, d] = (Builtin.min2 a b >>= fun s => Builtin.min2 s c >>= fun s => Builtin.min2 s d >>= fun s => pure s) := by simp only [Builtin.min_, List.foldlM_cons, List.foldlM_nil]
end Go.Proofs.YtplkndmkchpcdaaGreatW.PrintMore
namespace Go.Proofs.YtplkndmkchpcdaaGreatW.PrintWords
open Go.RowKit
section
variable {P : Program} {ops : Array Oper} {rest : List Oper} {o : Oper} {a : Act} {Q : Exit → Act → World → Prop} {W : World}
theorem gate_callee {f : FuncId} {as0 : Array Operand} {ts : Array TypeId} (_ho : o.op = .call { callee := .value (.func f), args := as0, argTypes := ts }) (h : wpList P ops Q (o :: rest) a W) : wpList P ops Q (o :: rest) a W := h
theorem gate_builtin {b : Builtin} {xs : Array Operand} {ts : Array TypeId} (_ho : o.op = .call { callee := .builtin b, args := xs, argTypes := ts }) (h : wpList P ops Q (o :: rest) a W) : wpList P ops Q (o :: rest) a W := h
end
def mx (a b : Int) : Int := if a < b then b else a
def mn (a b : Int) : Int := if b < a then b else a
def shl (k : IntKind) (x y : Int) : Int := k.wrap (x * 2 ^ min y.toNat k.bits)
def shr (k : IntKind) (x y : Int) : Int := x / 2 ^ min y.toNat k.bits
theorem shr_small {k : IntKind} {x y j : Int} (h : shr k x y = j) (hy : y ≤ k.bits) : x / 2 ^ y.toNat = j := by rw [← h]; unfold shr; rw [Nat.min_eq_left (by omega)]
theorem drewN_self (w : World) (n : Nat) : w.drewN n = w.drewN n := rfl
namespace Kd
section
variable {α : Type} {d : Kd α} {e base : Nat} {ok : Nat → Prop} {W w1 : World} {v : Value} {xs : List α}
theorem R_grown1 (h : d.R e W base ok v xs) (hE : d.E = []) {row : Option Nat} (hg : W.grownBy w1 row) (hne : row ≠ v.ownBlock) : d.R e w1 base ok v xs :=
  R_mono (R_grown (R_tight hE h) hg (fun _ hk e_ => hne (e_.symm.trans hk))) (fun k hk => h.1 k hk.symm)
theorem R_grown2 (h : d.R e W base ok v xs) (hE : d.E = []) {row : Option Nat} (hg : W.grownBy w1 row) (hne : ∀ k, row = some k → some k ≠ v.ownBlock) : d.R e w1 base ok v xs :=
  R_mono (R_grown (R_tight hE h) hg (fun k hk e_ => hne k e_.symm hk)) (fun k hk => h.1 k hk.symm)
end
section
variable {α : Type} {d : Kd α} {e base g n cap : Nat} {ok oki okp : Nat → Prop} {W : World} {xs : List α} {i : Int} {c : List Value}
end
section
variable {α : Type} {d : Kd α} {e base b b' g N : Nat} {ok ok1 : Nat → Prop} {W W2 w1 : World} {u v : Value} {xs ys : List α} {S : Nat → Prop}
end
end Kd
end Go.Proofs.YtplkndmkchpcdaaGreatW.PrintWords
namespace Go.Proofs.YtplkndmkchpcdaaGreatW.PrintWords
open Go.RowKit
namespace Kd
def V {α : Type} (d : Kd α) (_e : Nat) (W : World) (_base : Nat) (ok : Nat → Prop) (v : Value) (xs : List α) : Prop := ∃ A c, v = .slice A xs.length c ∧ xs.length ≤ c ∧ F d W ok A xs.length xs
section
variable {α β : Type} {d : Kd α} {e base base' n m c g N' lo hi : Nat} {ok ok' S : Nat → Prop} {w W w1 : World} {A : Option Addr} {ad : Addr} {u v v1 : Value} {xs : List α}
theorem V_map (h : V d e W base ok v xs) (hF : ∀ A, F d W ok A xs.length xs → F d w1 ok' A xs.length xs) : V d e w1 base' ok' v xs := by
  obtain ⟨A, c, hv, hl, hf⟩ := h
  exact ⟨A, c, hv, hl, hF A hf⟩
theorem V_mk (hl : xs.length ≤ c) (hf : F d W ok A xs.length xs) : V d e W base ok (.slice A xs.length c) xs := ⟨A, c, rfl, hl, hf⟩
theorem V_at (h : V d e W base ok (.slice A n c) xs) : n = xs.length ∧ n ≤ c ∧ F d W ok A xs.length xs := by
  obtain ⟨A', c', hv, hl, hf⟩ := h
  injection hv with ha hn hc
  subst ha; subst hc
  exact ⟨hn, by rw [hn]; exact hl, hf⟩
theorem V_reads' (h : V d e W base ok (.slice A n c) xs) : n = xs.length ∧ n ≤ c ∧ d.C W A xs.length xs := ⟨(V_at h).1, (V_at h).2.1, F_now (V_at h).2.2⟩
theorem V_F (h : V d e W base ok (.slice A n c) xs) : F d W ok A n xs := by
  obtain ⟨hn, _, hf⟩ := V_at h
  rw [hn]
  exact hf
theorem V_nil (d : Kd α) (e : Nat) (W : World) (base : Nat) (ok : Nat → Prop) : V d e W base ok (.slice none 0 0) [] := ⟨none, 0, rfl, Nat.le_refl _, F_nil d W ok⟩
theorem V_mono (h : V d e W base ok v xs) (hok : ∀ k, ok k → ok' k) : V d e W base ok' v xs := V_map h (fun _ hf => F_mono hf hok)
theorem V_below (h : V d e W base ok v xs) (hb : Below W.heap.size W w1) : V d e w1 base ok v xs := V_map h (fun _ hf => F_below hf hb)
theorem V_alloc (h : V d e W base ok v xs) (o : Obj) : V d e (W.alloc o) base ok v xs := V_map h (fun _ hf => F_alloc hf o)
theorem V_drew (h : V d e W base ok v xs) : V d e W.drew base ok v xs := V_map h (fun _ hf => F_drew hf)
theorem V_drewN (h : V d e W base ok v xs) (m : Nat) : V d e (W.drewN m) base ok v xs := V_map h (fun _ hf => F_drewN hf m)
theorem V_elder' (h : V d e W base ok v xs) (hbase : ∀ k, u.ownBlock = some k → W.heap.size ≤ k) (hb : Below W.heap.size W w1) : V d e w1 base (fun k => ok k ∧ some k ≠ u.ownBlock) v xs := V_map h (fun _ hf => F_elder' hf hbase hb)
theorem FK_slice_mk {l : List α} (hl : l.length ≤ c) (hf : F d W ok A l.length l) : FK (Kd.slice e d) W ok l [.slice A l.length c] := fun W' hW => ⟨A, c, rfl, hl, hf W' hW⟩
theorem R_newM {M : Nat → Prop} (h : d.R e w1 W.heap.size ok v xs) (hle : w.heap.size ≤ W.heap.size) (hM : ∀ k, w.heap.size ≤ k → M k) : d.R e w1 W.heap.size (fun k => M k ∧ ok k) v xs := R_mono (R_bound h) (fun k hk => ⟨hM k (Nat.le_trans hle hk.2.1), hk.1⟩)
end
end Kd
end Go.Proofs.YtplkndmkchpcdaaGreatW.PrintWords
end
section
namespace Go.Proofs.YtplkndmkchpcdaaGreat.Given
open Go.RowKit YtplkndmkchpcdaaGreatW.PrintWords YtplkndmkchpcdaaGreatW.PrintLast YtplkndmkchpcdaaGreatW.PrintMore
theorem info5 : (Tryz.prog.info? 5).map (fun i => (i.zero, i.size, i.bytes)) = some (some (.int .u8 0), 1, 1) := by kernel_rfl
theorem eql_nil (w : World) (a : Option Addr) (n c n' c' : Nat) : (binOp .eql 22 (.slice a n c) (.slice none n' c')).run Tryz.prog w = .ok (.bool a.isNone) w :=
  Lib.run_eql_slice_nil w _ _ a n c n' c' Tryz.underlying22
set_option maxHeartbeats 2000000 in
set_option maxRecDepth 100000 in
theorem clone_any (A0 : Option Addr) (c0 : Nat) (l0 : List Int) (w : World) (hr0 : Kd.C (Kd.int .u8) w A0 l0.length l0) (hc0 : l0.length ≤ c0) (hl : l0.length < 140737488355328) :
    Calls Tryz.prog 54 #[.slice A0 l0.length c0] w fun e w' => ∃ v0_ : Value, e = .returned (v0_) ∧ Kd.R (Kd.int .u8) 5 w' w.heap.size (fun _ => True) v0_ l0 ∧ Below w.heap.size w w' := by
  have HR0 := Aside0.mk hr0
  have HC0 := Aside0.mk hc0
  clear hr0 hc0
  have HB := Aside0.mk (Below.refl w.heap.size w)
  cases A0 with
  | none =>
    have q22 := eql_nil
    have hz : l0 = [] := by
      cases l0 with
      | nil => rfl
      | cons x xs =>
        obtain ⟨ad, h, _⟩ := Kd.at_int HR0.out 0 (by omega) (by simp only [List.length_cons]; omega)
        cases h
    subst hz
    go_enter Tryz.func54, Tryz.ntmps54
    go_wp2
    go_ret
    exact ⟨_, rfl, Kd.R_nil _ _ _ _ _, Below.refl _ _⟩
  | some a =>
    have q22 := eql_nil
    have LM := Aside0.mk hl
    clear hl
    obtain ⟨y114, hy114⟩ : ∃ y_ : List Int, y_ = (([] : List Int)) := ⟨_, rfl⟩
    have Ny114 := Aside0.mk hy114
    clear hy114
    have LM2 : Aside0 (y114.length + l0.length < 140737488355328) := ⟨by rw [Ny114.out]; simpa using LM.out⟩
    obtain ⟨y117, hy117⟩ : ∃ y_ : List Int, y_ = (y114 ++ l0) := ⟨_, rfl⟩
    have Ny117 := Aside0.mk hy117
    clear hy117
    go_enter Tryz.func54, Tryz.ntmps54
    go_wp2_with (first | ((with_reducible refine gate_dst (N := 5) rfl ?_); refine Kd.R_lit (Kd.int .u8) _ 5 ?hg (N := 5) ?hd (xs := ([] : List Int)) (inner := []) (ok := fun _ => True) (okp := fun _ => True) ?hr ?hp (fun _ hk => hk) trivial (Below.refl _ _) (Nat.le_refl _) (by simp) ?_; (case hd => rfl); (case hg => rfl); (case hr => first | (go_simp; done) | (go_simp; rfl)); (case hp => exact (Reps.none _ _)); intro v115 w6 ho7 hb hg_ hnew_; clear hg_ hnew_; rw [← Ny114.out] at ho7; have HO116 := Aside0.mk ho7; clear HB; have HB := Aside0.mk hb; clear hb ho7) | ((with_reducible refine gate_builtin (b := .append) (xs := #[.tmp 5, .tmp 6]) rfl ?_); at_builtin; refine Kd.R_append_rows (Kd.int .u8) (w0 := w) w.heap.size rfl (.tmp 5) (.tmp 6) 22 5 (.int .u8 0) 1 rfl Tryz.underlying22 info5 rfl (by decide) (by omega) v115 y114 l0 _ _ _ (fun _ => True) (fun _ => False) rfl rfl ?aO ?aR (fun _ _ h => h) (fun _ h => h.elim) ?aF ?aB ?aS ?aL ?_; (case aR => exact (Kd.C_below HR0.out HB.out)); (case aB => exact HB.out); (case aF => exact (fun _ _ => trivial)); (case aO => exact HO116.out); (case aS => exact (below_size HB.out)); (case aL => have := LM2.out; omega); intro v118 w8 ho hb hg hat; rw [← Ny117.out] at ho; clear HB; clear HO116; have HB := Aside0.mk hb; have HO119 := Aside0.mk ho; clear ho hb hg hat))
    go_ret
    refine ⟨_, rfl, ?_, HB.out⟩
    have e := Ny117.out
    rw [Ny114.out, List.nil_append] at e
    rw [← e]
    exact HO119.out
def joinL (g : Int → Int → Int) (a b : List Int) : List Int := (List.range (max a.length b.length)).map fun i => g (a.getD i 0) (b.getD i 0)
theorem joinL_length (g : Int → Int → Int) (a b : List Int) : (joinL g a b).length = max a.length b.length := by simp [joinL]
def preL (g : Int → Int → Int) (a b : List Int) (j : Nat) : List Int := (joinL g a b).take j ++ List.replicate (max a.length b.length - j) 0
theorem preL_length (g : Int → Int → Int) (a b : List Int) (j : Nat) (h : j ≤ max a.length b.length) : (preL g a b j).length = max a.length b.length := by
  simp only [preL, List.length_append, List.length_take, List.length_replicate, joinL_length]; omega
theorem preL_zero (g : Int → Int → Int) (a b : List Int) : preL g a b 0 = List.replicate (max a.length b.length) 0 := by simp [preL]
theorem preL_end (g : Int → Int → Int) (a b : List Int) : preL g a b (max a.length b.length) = joinL g a b := by
  simp [preL, List.take_of_length_le, joinL_length]
theorem preL_set (g : Int → Int → Int) (a b : List Int) (j : Nat) (h : j < max a.length b.length) : (preL g a b j).set j (g (a.getD j 0) (b.getD j 0)) = preL g a b (j + 1) := by
  have hl := joinL_length g a b
  apply List.ext_getElem?
  intro i
  by_cases hi : i = j
  · subst hi
    rw [List.getElem?_set_self (by rw [preL_length g a b i (by omega)]; exact h)]
    rw [preL, List.getElem?_append_left (by simp [hl]; omega), List.getElem?_take_of_lt (by omega)]
    simp [joinL, h]
  · rw [List.getElem?_set_ne (fun e => hi e.symm)]
    unfold preL
    by_cases hlt : i < j
    · rw [List.getElem?_append_left (by simp [hl]; omega), List.getElem?_append_left (by simp [hl]; omega), List.getElem?_take_of_lt (by omega), List.getElem?_take_of_lt (by omega)]
    · rw [List.getElem?_append_right (by simp [hl]; omega), List.getElem?_append_right (by simp [hl]; omega)]
      simp only [List.length_take, hl, List.getElem?_replicate]
      have e1 : min j (max a.length b.length) = j := by omega
      have e2 : min (j + 1) (max a.length b.length) = j + 1 := by omega
      rw [e1, e2]
      have e3 : (i - j < max a.length b.length - j) ↔ (i - (j + 1) < max a.length b.length - (j + 1)) := by omega
      by_cases hq : i - j < max a.length b.length - j
      · rw [if_pos hq, if_pos (e3.1 hq)]
      · rw [if_neg hq, if_neg (fun h => hq (e3.2 h))]
def orB (x y : Int) : Int := Go.bits .or .u8 x y
def andNotB (x y : Int) : Int := Go.bits .andNot .u8 x y
set_option maxHeartbeats 400000 in
theorem one_or (x y : Int) (w : World) : Calls Tryz.prog 105 #[.int .u8 x, .int .u8 y] w fun e w' => e = .returned (.int .u8 (orB x y)) ∧ w = w' := by
  go_enter Tryz.func105, Tryz.ntmps105
  go_wp2
  go_ret
  exact ⟨rfl, rfl⟩
set_option maxHeartbeats 4000000 in
set_option maxRecDepth 100000 in
theorem both_or (A0 : Option Addr) (c0 : Nat) (l0 : List Int) (A1 : Option Addr) (c1 : Nat) (l1 : List Int) (w : World) (hr0 : Kd.C (Kd.int .u8) w A0 l0.length l0) (hr1 : Kd.C (Kd.int .u8) w A1 l1.length l1) (hl0 : l0.length < 140737488355328) (hl1 : l1.length < 140737488355328) :
    Calls Tryz.prog 104 #[.slice A0 l0.length c0, .slice A1 l1.length c1, .func (.func 105) #[] #[]] w fun e w' => ∃ v0_ : Value, e = .returned (v0_) ∧ Kd.R (Kd.int .u8) 5 w' w.heap.size (fun _ => True) v0_ (joinL orB l0 l1) ∧ Below w.heap.size w w' := by
  have HR0 := Aside0.mk hr0
  have HR1 := Aside0.mk hr1
  clear hr0 hr1
  have HB := Aside0.mk (Below.refl w.heap.size w)
  obtain ⟨N, hN⟩ : ∃ N : Nat, N = max l0.length l1.length := ⟨_, rfl⟩
  have LN : Aside0 (N < 140737488355328) := ⟨by omega⟩
  have hmx : (if (l0.length : Int) < (l1.length : Int) then (l1.length : Int) else (l0.length : Int)) = (N : Int) := by split <;> omega
  have hmy : (if l0.length < l1.length then (l1.length : Int) else (l0.length : Int)) = (N : Int) := by split <;> omega
  have NN := Aside0.mk hN
  have b0 : (0 : Int) ≤ (N : Int) := by omega
  have b1 : (N : Int) ≤ 140737488355328 := by have := LN.out; omega
  clear hN hl0 hl1
  go_enter Tryz.func104, Tryz.ntmps104
  go_wp2_with ((with_reducible refine gate_dst (N := 16) rfl ?_); refine Kd.R_make (Kd.int .u8) _ 5 rfl (N := 16) rfl 22 _ _ rfl (N : Int) rfl rfl Tryz.underlying22 (.int .u8 0) 1 info5 rfl (by decide) (by omega) 0 (ok := fun _ => True) (okp := fun _ => True) rfl (fun _ hk => hk) trivial (by omega) (by have := LN.out; simp only [Int.toNat_natCast]; omega) (Below.refl _ _) (Nat.le_refl _) ?_; intro v107 w7 ho8 hb hg_ hnew_; clear hg_ hnew_; simp only [Int.toNat_natCast] at ho8; clear HB; have HB := Aside0.mk hb; have HO := Aside0.mk ho8; clear ho8 hb; obtain ⟨Av, cv, rfl⟩ := Kd.R_slice HO.out; have hlen : (List.replicate N (0 : Int)).length = N := List.length_replicate; rw [hlen] at HO; rw [hlen]; clear hlen)
  clear hmx hmy
  go_loopw [19] (fun v19 wr => ∃ j : Nat, v19 = .int .i64 (j : Int) ∧ Aside0 (j ≤ N) ∧ Aside0 (Kd.R (Kd.int .u8) 5 wr w.heap.size (fun _ => True) (.slice Av N cv) (preL orB l0 l1 j)) ∧ Aside0 (Below w.heap.size w wr)) (fun v19 _ => N - (intOf v19).toNat)
  case atStart => exact ⟨0, by first | rfl | simp, ⟨Nat.zero_le _⟩, ⟨by have e := preL_zero orB l0 l1; rw [← NN.out] at e; rw [e]; exact HO.out⟩, HB⟩
  case round =>
    obtain ⟨j, rfl, hj, hO, hB⟩ := hrel
    clear HB HO
    by_cases hjN : j < N
    · have hlen : (preL orB l0 l1 j).length = N := by have e := preL_length orB l0 l1 j; rw [← NN.out] at e; exact e hj.out
      obtain ⟨g, cap, he, hg⟩ := Kd.R_form hO.out (by omega)
      rw [hlen] at he
      simp only [Value.slice.injEq, true_and] at he
      obtain ⟨rfl, rfl⟩ := he
      have hO2 := hO.out
      rw [← hlen] at hO2
      obtain ⟨hcell, hfr⟩ := Kd.R_cell (0 : Int) hO2 (j : Int) (by omega) (by omega)
      simp only [Int.toNat_natCast] at hcell hfr
      have hput := Aside0.mk (Kd.R_put hO2 (j : Int) (orB (l0.getD j 0) (l1.getD j 0)))
      clear hO2
      clear hg
      have HL := Aside0.mk hlen
      clear hlen
      have q0 : Aside0 (∀ h : j < l0.length, ∃ ad, A0 = some ad ∧ wr.cell? (ad.add j) = some (.int .u8 (l0.getD j 0))) := ⟨fun h => by
        obtain ⟨ad, ha, hc⟩ := Kd.at_int (Kd.C_below HR0.out hB.out) (j : Int) (by omega) (by omega)
        exact ⟨ad, ha, by simpa [rd] using hc⟩⟩
      have q1 : Aside0 (∀ h : j < l1.length, ∃ ad, A1 = some ad ∧ wr.cell? (ad.add j) = some (.int .u8 (l1.getD j 0))) := ⟨fun h => by
        obtain ⟨ad, ha, hc⟩ := Kd.at_int (Kd.C_below HR1.out hB.out) (j : Int) (by omega) (by omega)
        exact ⟨ad, ha, by simpa [rd] using hc⟩⟩
      obtain ⟨x, hx⟩ : ∃ x, x = l0.getD j 0 := ⟨_, rfl⟩
      obtain ⟨y, hy⟩ : ∃ y, y = l1.getD j 0 := ⟨_, rfl⟩
      rw [← hx] at q0 hput
      rw [← hy] at q1 hput
      have fin : Aside0 (∀ wz, wz = wr.setCell ⟨g, j, none⟩ (.int .u8 (orB x y)) → Kd.R (Kd.int .u8) 5 wz w.heap.size (fun _ => True) (.slice (some ⟨g, 0, none⟩) N cv) (preL orB l0 l1 (j + 1)) ∧ Below w.heap.size w wz) := ⟨by
        rintro wz rfl
        obtain ⟨h1, h2⟩ := hput.out
        have e := preL_set orB l0 l1 j (by have := NN.out; omega)
        rw [← hx, ← hy] at e
        simp only [Int.toNat_natCast] at h1 h2
        rw [HL.out, e] at h1
        refine ⟨h1, hB.out.grown h2 hB.out.size ?_⟩
        intro k hk
        have := Kd.R_base hO.out k (by simpa [Value.ownBlock] using hk)
        exact this⟩
      have hx' : Aside0 (¬ j < l0.length → x = 0) := ⟨fun h => by rw [hx]; simp [List.getD, List.getElem?_eq_none (show l0.length ≤ j by omega)]⟩
      have hy' : Aside0 (¬ j < l1.length → y = 0) := ⟨fun h => by rw [hy]; simp [List.getD, List.getElem?_eq_none (show l1.length ≤ j by omega)]⟩
      clear hx hy hput HL hcell
      obtain ⟨cv', hcell⟩ : ∃ v, wr.cell? ⟨g, j, none⟩ = some v := ⟨_, (Kd.R_cell (0 : Int) (by have e := preL_length orB l0 l1 j; rw [← NN.out] at e; have h := hO.out; rw [← e hj.out] at h; exact h) (j : Int) (by omega) (by have e := preL_length orB l0 l1 j; rw [← NN.out] at e; rw [e hj.out]; omega)).1⟩
      have b2 : (j : Int) < (N : Int) := by omega
      clear hjN
      by_cases h0 : j < l0.length
      all_goals by_cases h1 : j < l1.length
      · obtain ⟨a0, rfl, hc0⟩ := q0.out h0
        obtain ⟨a1, rfl, hc1⟩ := q1.out h1
        have t0 : (j : Int) < (l0.length : Int) := by omega
        have t1 : (j : Int) < (l1.length : Int) := by omega
        clear h0 h1
        go_wp2_with (go_at_call 105; refine (one_or _ _ _).mono ?_; rintro e w' ⟨rfl, rfl⟩)
        go_roundw
        case rel => obtain ⟨f1, f2⟩ := fin.out _ rfl; exact ⟨j + 1, by go_num, ⟨by omega⟩, ⟨f1⟩, ⟨f2⟩⟩
        case measure => simp [intOf]; omega
      · obtain ⟨a0, rfl, hc0⟩ := q0.out h0
        obtain rfl := hy'.out h1
        have t0 : (j : Int) < (l0.length : Int) := by omega
        have t1 : ¬ (j : Int) < (l1.length : Int) := by omega
        clear h0 h1
        go_wp2_with (go_at_call 105; refine (one_or _ _ _).mono ?_; rintro e w' ⟨rfl, rfl⟩)
        go_roundw
        case rel => obtain ⟨f1, f2⟩ := fin.out _ rfl; exact ⟨j + 1, by go_num, ⟨by omega⟩, ⟨f1⟩, ⟨f2⟩⟩
        case measure => simp [intOf]; omega
      · obtain ⟨a1, rfl, hc1⟩ := q1.out h1
        obtain rfl := hx'.out h0
        have t0 : ¬ (j : Int) < (l0.length : Int) := by omega
        have t1 : (j : Int) < (l1.length : Int) := by omega
        clear h0 h1
        go_wp2_with (go_at_call 105; refine (one_or _ _ _).mono ?_; rintro e w' ⟨rfl, rfl⟩)
        go_roundw
        case rel => obtain ⟨f1, f2⟩ := fin.out _ rfl; exact ⟨j + 1, by go_num, ⟨by omega⟩, ⟨f1⟩, ⟨f2⟩⟩
        case measure => simp [intOf]; omega
      · have := NN.out
        omega
    · have e : j = N := by have := hj.out; omega
      have b2 : ¬ (j : Int) < (N : Int) := by omega
      have E := Aside0.mk e
      clear e hjN
      go_wp2
      go_ret
      refine ⟨_, rfl, ?_, hB.out⟩
      have e := preL_end orB l0 l1
      rw [← NN.out] at e
      have h := hO.out
      rw [E.out, e] at h
      exact h
set_option maxHeartbeats 1000000 in
theorem join_any (A0 : Option Addr) (c0 : Nat) (l0 : List Int) (A1 : Option Addr) (c1 : Nat) (l1 : List Int) (w : World) (hr0 : Kd.C (Kd.int .u8) w A0 l0.length l0) (hr1 : Kd.C (Kd.int .u8) w A1 l1.length l1) (hl0 : l0.length < 140737488355328) (hl1 : l1.length < 140737488355328) :
    Calls Tryz.prog 72 #[.slice A0 l0.length c0, .slice A1 l1.length c1] w fun e w' => ∃ v0_ : Value, e = .returned (v0_) ∧ Kd.R (Kd.int .u8) 5 w' w.heap.size (fun _ => True) v0_ (joinL orB l0 l1) ∧ Below w.heap.size w w' := by
  have C := Aside0.mk (both_or A0 c0 l0 A1 c1 l1 w hr0 hr1 hl0 hl1)
  clear hr0 hr1 hl0 hl1
  go_enter Tryz.func72, Tryz.ntmps72
  go_wp2_with (go_at_call 104; refine C.out.mono ?_; rintro e w' ⟨v0_, rfl, h1, h2⟩; have H1 := Aside0.mk h1; have H2 := Aside0.mk h2; clear h1 h2)
  go_ret
  exact ⟨_, rfl, H1.out, H2.out⟩
def clampN (a0 : Int) : Nat := ((if 0 < (if 4096 < a0 then 4096 else a0) then (if 4096 < a0 then 4096 else a0) else 0 : Int) + 8 - 1).toNat / 8
attribute [local go_sem] min2_int min_two
set_option maxHeartbeats 2000000 in
theorem make_any (a0 : Int) (w : World) :
    Calls Tryz.prog 46 #[.int .i64 a0] w fun e w' => ∃ v0_ : Value, e = .returned (v0_) ∧ Kd.R (Kd.int .u8) 5 w' w.heap.size (fun _ => True) v0_ (List.replicate (clampN a0) 0) ∧ Below w.heap.size w w' := by
  have HB := Aside0.mk (Below.refl w.heap.size w)
  obtain ⟨m, hm⟩ : ∃ m : Int, (if 4096 < a0 then 4096 else a0) = m := ⟨_, rfl⟩
  obtain ⟨M, hM⟩ : ∃ M : Int, (if 0 < m then m else 0) = M := ⟨_, rfl⟩
  have b0 : 0 ≤ M := by rw [← hM]; split <;> omega
  have b1 : M ≤ 4096 := by rw [← hM, ← hm]; repeat' split <;> omega
  obtain ⟨N, hN⟩ : ∃ N : Int, (M + 8 - 1) / 8 = N := ⟨_, rfl⟩
  have c0 : 0 ≤ N := by omega
  have c1 : N ≤ 512 := by omega
  have E : Aside0 (clampN a0 = N.toNat) := ⟨by rw [← hN]; unfold clampN; rw [hm, hM]; omega⟩
  go_enter Tryz.func46, Tryz.ntmps46
  go_wp2_with ((with_reducible refine gate_dst (N := 10) rfl ?_); refine Kd.R_make (Kd.int .u8) _ 5 rfl (N := 10) rfl 22 _ _ rfl N ?hx ?hy Tryz.underlying22 (.int .u8 0) 1 info5 rfl (by decide) (by omega) 0 (ok := fun _ => True) (okp := fun _ => True) rfl (fun _ hk => hk) trivial (by omega) (by omega) (Below.refl _ _) (Nat.le_refl _) ?_; (case hx => first | rfl | exact congrArg (Value.int .i64) hN); (case hy => first | rfl | exact congrArg (Value.int .i64) hN); intro v1 w1 ho hb hg_ hnew_; clear hg_ hnew_; have HO := Aside0.mk ho; have HB2 := Aside0.mk hb; clear ho hb)
  go_ret
  exact ⟨_, rfl, by rw [E.out]; exact HO.out, HB2.out⟩
end Go.Proofs.YtplkndmkchpcdaaGreat.Given
end
section
namespace Go.Proofs.YtplkndmkchpcdaaGreat.Sum
open Go.RowKit Go.Maps MapFn Disk
set_option maxHeartbeats 8000000
set_option maxRecDepth 100000
def tabL : List Int := [0, 274646895, 549293790, 820201905, 1098587580, 1361435347, 1640403810, 1905808397, 2197175160, 2460548119, 2722870694, 2987750089, 3280807620, 3553878443, 3811616794, 4084100981]
def encU (l : List Int) : Array Value := (l.map (Value.int .u32)).toArray
section
variable {w : World} {ops : Array Oper} {rest : List Oper} {o : Oper} {a : Act} {Q : Exit → Act → World → Prop}
theorem info16 : (Tryz.prog.info? 193).map (·.size) = some 16 := by kernel_rfl
theorem load_16 (hg : o.guard = none) (x : Operand) (hop : o.op = Op.load 193 x) (g : Nat) (cs : Array Value) (hx : a.eval x = .pointer (some ⟨g, 0, none⟩)) (hrow : w.heap[g]? = some (.cells cs 193 (0, 0))) (hs : cs.size = 16)
    (hK : wpList Tryz.prog ops Q rest (a.put o.dst (.agg cs)) w) : wpList Tryz.prog ops Q (o :: rest) a w := by
  refine wpList_plain hg fun K' hK' => ?_
  have hrun : (Instr.loadAt 193 (.pointer (some ⟨g, 0, none⟩))).run Tryz.prog w = .ok (.agg cs) w := by
    simp only [Instr.loadAt, Instr.sureAddr, Sem.run_bind, Sem.run_pure, Result.andThen]
    exact run_loadVar_row w g _ _ cs (0, 0) _ hrow Tryz.underlying193 rfl (by rw [info16, hs])
  unfold Oper.wp
  simp [execOp, hop, hx, hrun, Result.andThen]
  exact hK' _ _ hK
theorem store_16 (hg : o.guard = none) (x v : Operand) (hop : o.op = Op.store 193 x v) (g : Nat) (cs cs' : Array Value) (hx : a.eval x = .pointer (some ⟨g, 0, none⟩)) (hv : a.eval v = .agg cs') (hrow : w.heap[g]? = some (.cells cs 193 (0, 0))) (hs : cs.size = 16) (hs' : cs'.size = 16) (h1 : cs'.all (·.oneCell') = true)
    (hK : ∀ w', w'.heap[g]? = some (.cells cs' 193 (0, 0)) → w.grownBy w' (some g) → w'.heap.size = w.heap.size → wpList Tryz.prog ops Q rest (a.put o.dst undef) w') : wpList Tryz.prog ops Q (o :: rest) a w := by
  refine wpList_plain hg fun K' hK' => ?_
  have hrun : (Instr.storeAt 193 (.pointer (some ⟨g, 0, none⟩)) (.agg cs')).run Tryz.prog w = .ok () (w.setRow g cs') := by
    simp only [Instr.storeAt, Instr.sureAddr, Sem.run_bind, Sem.run_pure, Result.andThen]
    exact run_storeVar_row w g _ _ cs cs' hrow (by rw [info16, hs']) (by rw [hs, hs']) h1
  have h2 := hK (w.setRow g cs') (setRow_heap w g cs cs' _ _ hrow) ⟨rfl, rfl, rfl, by simp, fun k hk hne => setRow_other w g k cs' (fun e => hne (by rw [e]))⟩ (by simp)
  unfold Oper.wp
  simp [execOp, hop, hx, hv, hrun, Result.andThen]
  first | exact hK' _ _ h2 | (simp [Oper.upon]; exact hK' _ _ h2) | (unfold Oper.upon; simp; exact hK' _ _ h2)
end
def tabAt (i : Nat) : List Int := tabL.take i ++ List.replicate (16 - i) 0
theorem encU_one (l : List Int) : (encU l).all (·.oneCell') = true := by
  simp [encU]
  intro x _
  rfl
theorem set_tab (i : Nat) (hi : i < 16) : (encU (tabAt i)).setIfInBounds i (.int .u32 (tabL.getD i 0)) = encU (tabAt (i + 1)) := by
  have : i = 0 ∨ i = 1 ∨ i = 2 ∨ i = 3 ∨ i = 4 ∨ i = 5 ∨ i = 6 ∨ i = 7 ∨ i = 8 ∨ i = 9 ∨ i = 10 ∨ i = 11 ∨ i = 12 ∨ i = 13 ∨ i = 14 ∨ i = 15 := by omega
  rcases this with rfl | rfl | rfl | rfl | rfl | rfl | rfl | rfl | rfl | rfl | rfl | rfl | rfl | rfl | rfl | rfl <;> rfl
structure Tab (w wr : World) (i : Nat) : Prop where
  r0 : wr.heap[w.heap.size]? = some (.cells (encU (tabAt 0)) 193 (0, 0))
  r1 : wr.heap[w.heap.size + 1]? = some (.cells (encU (tabAt i)) 193 (0, 0))
  bel : Below w.heap.size w wr
theorem Tab.step {w wr : World} {i : Nat} (h : Tab w wr i) (hi : i < 16) : Tab w (wr.setCell ⟨w.heap.size + 1, i, none⟩ (.int .u32 (tabL.getD i 0))) (i + 1) := by
  have hm := set_moves (w := wr) (p := w.heap.size + 1) (i := i) (.int .u32 (tabL.getD i 0))
  refine ⟨(hm.block _ (lt_of_row h.r0) (by simp)).trans h.r0, ?_, h.bel.setCell (by show w.heap.size ≤ w.heap.size + 1; omega) _⟩
  have := set_row (i := i) h.r1 (.int .u32 (tabL.getD i 0))
  rwa [set_tab i hi] at this
theorem table_any (w : World) : Calls Tryz.prog 167 #[] w fun e w' => e = .returned (.agg (encU tabL)) ∧ Below w.heap.size w w' := by
  go_enter Tryz.func167, Tryz.ntmps167
  go_wp2
  go_loopw [4] (fun v4 wr => ∃ i : Nat, v4 = .int .i64 (i : Int) ∧ i ≤ 16 ∧ Hide (Tab w wr i)) (fun v4 _ => 16 - (intOf v4).toNat)
  case atStart =>
    refine ⟨0, rfl, by omega, ⟨⟨?_, ?_, ((Below.refl _ _).alloc (Nat.le_refl _) _).alloc (by simp) _⟩⟩⟩
    · rw [heap_old _ _ _ (by simp), heap_last]; rfl
    · have := heap_last (w.alloc (.cells (encU (tabAt 0)) 193)) (.cells (encU (tabAt 0)) 193)
      rwa [show (w.alloc (.cells (encU (tabAt 0)) 193)).heap.size = w.heap.size + 1 by simp] at this
  case round =>
    obtain ⟨i, rfl, hi, H⟩ := hrel
    have hc : i = 0 ∨ i = 1 ∨ i = 2 ∨ i = 3 ∨ i = 4 ∨ i = 5 ∨ i = 6 ∨ i = 7 ∨ i = 8 ∨ i = 9 ∨ i = 10 ∨ i = 11 ∨ i = 12 ∨ i = 13 ∨ i = 14 ∨ i = 15 ∨ i = 16 := by omega
    rcases hc with rfl | rfl | rfl | rfl | rfl | rfl | rfl | rfl | rfl | rfl | rfl | rfl | rfl | rfl | rfl | rfl | rfl
    · have c1 : wr.cell? ⟨w.heap.size + 1, 0, none⟩ = some (.int .u32 0) := (cell_of (i := 0) H.out.r1).trans rfl
      have f1 := free_of (i := 0) H.out.r1
      clear hi
      go_wp2
      refine wp_loop_rounds 5 ?_
      iterate 5 (rw [rounds_succ]; go_wp2)
      go_roundw
      case rel => exact ⟨1, by go_num, by omega, ⟨H.out.step (by omega)⟩⟩
      case measure => simp [intOf]
    · have c1 : wr.cell? ⟨w.heap.size + 1, 1, none⟩ = some (.int .u32 0) := (cell_of (i := 1) H.out.r1).trans rfl
      have f1 := free_of (i := 1) H.out.r1
      clear hi
      go_wp2
      refine wp_loop_rounds 5 ?_
      iterate 5 (rw [rounds_succ]; go_wp2)
      go_roundw
      case rel => exact ⟨2, by go_num, by omega, ⟨H.out.step (by omega)⟩⟩
      case measure => simp [intOf]
    · have c1 : wr.cell? ⟨w.heap.size + 1, 2, none⟩ = some (.int .u32 0) := (cell_of (i := 2) H.out.r1).trans rfl
      have f1 := free_of (i := 2) H.out.r1
      clear hi
      go_wp2
      refine wp_loop_rounds 5 ?_
      iterate 5 (rw [rounds_succ]; go_wp2)
      go_roundw
      case rel => exact ⟨3, by go_num, by omega, ⟨H.out.step (by omega)⟩⟩
      case measure => simp [intOf]
    · have c1 : wr.cell? ⟨w.heap.size + 1, 3, none⟩ = some (.int .u32 0) := (cell_of (i := 3) H.out.r1).trans rfl
      have f1 := free_of (i := 3) H.out.r1
      clear hi
      go_wp2
      refine wp_loop_rounds 5 ?_
      iterate 5 (rw [rounds_succ]; go_wp2)
      go_roundw
      case rel => exact ⟨4, by go_num, by omega, ⟨H.out.step (by omega)⟩⟩
      case measure => simp [intOf]
    · have c1 : wr.cell? ⟨w.heap.size + 1, 4, none⟩ = some (.int .u32 0) := (cell_of (i := 4) H.out.r1).trans rfl
      have f1 := free_of (i := 4) H.out.r1
      clear hi
      go_wp2
      refine wp_loop_rounds 5 ?_
      iterate 5 (rw [rounds_succ]; go_wp2)
      go_roundw
      case rel => exact ⟨5, by go_num, by omega, ⟨H.out.step (by omega)⟩⟩
      case measure => simp [intOf]
    · have c1 : wr.cell? ⟨w.heap.size + 1, 5, none⟩ = some (.int .u32 0) := (cell_of (i := 5) H.out.r1).trans rfl
      have f1 := free_of (i := 5) H.out.r1
      clear hi
      go_wp2
      refine wp_loop_rounds 5 ?_
      iterate 5 (rw [rounds_succ]; go_wp2)
      go_roundw
      case rel => exact ⟨6, by go_num, by omega, ⟨H.out.step (by omega)⟩⟩
      case measure => simp [intOf]
    · have c1 : wr.cell? ⟨w.heap.size + 1, 6, none⟩ = some (.int .u32 0) := (cell_of (i := 6) H.out.r1).trans rfl
      have f1 := free_of (i := 6) H.out.r1
      clear hi
      go_wp2
      refine wp_loop_rounds 5 ?_
      iterate 5 (rw [rounds_succ]; go_wp2)
      go_roundw
      case rel => exact ⟨7, by go_num, by omega, ⟨H.out.step (by omega)⟩⟩
      case measure => simp [intOf]
    · have c1 : wr.cell? ⟨w.heap.size + 1, 7, none⟩ = some (.int .u32 0) := (cell_of (i := 7) H.out.r1).trans rfl
      have f1 := free_of (i := 7) H.out.r1
      clear hi
      go_wp2
      refine wp_loop_rounds 5 ?_
      iterate 5 (rw [rounds_succ]; go_wp2)
      go_roundw
      case rel => exact ⟨8, by go_num, by omega, ⟨H.out.step (by omega)⟩⟩
      case measure => simp [intOf]
    · have c1 : wr.cell? ⟨w.heap.size + 1, 8, none⟩ = some (.int .u32 0) := (cell_of (i := 8) H.out.r1).trans rfl
      have f1 := free_of (i := 8) H.out.r1
      clear hi
      go_wp2
      refine wp_loop_rounds 5 ?_
      iterate 5 (rw [rounds_succ]; go_wp2)
      go_roundw
      case rel => exact ⟨9, by go_num, by omega, ⟨H.out.step (by omega)⟩⟩
      case measure => simp [intOf]
    · have c1 : wr.cell? ⟨w.heap.size + 1, 9, none⟩ = some (.int .u32 0) := (cell_of (i := 9) H.out.r1).trans rfl
      have f1 := free_of (i := 9) H.out.r1
      clear hi
      go_wp2
      refine wp_loop_rounds 5 ?_
      iterate 5 (rw [rounds_succ]; go_wp2)
      go_roundw
      case rel => exact ⟨10, by go_num, by omega, ⟨H.out.step (by omega)⟩⟩
      case measure => simp [intOf]
    · have c1 : wr.cell? ⟨w.heap.size + 1, 10, none⟩ = some (.int .u32 0) := (cell_of (i := 10) H.out.r1).trans rfl
      have f1 := free_of (i := 10) H.out.r1
      clear hi
      go_wp2
      refine wp_loop_rounds 5 ?_
      iterate 5 (rw [rounds_succ]; go_wp2)
      go_roundw
      case rel => exact ⟨11, by go_num, by omega, ⟨H.out.step (by omega)⟩⟩
      case measure => simp [intOf]
    · have c1 : wr.cell? ⟨w.heap.size + 1, 11, none⟩ = some (.int .u32 0) := (cell_of (i := 11) H.out.r1).trans rfl
      have f1 := free_of (i := 11) H.out.r1
      clear hi
      go_wp2
      refine wp_loop_rounds 5 ?_
      iterate 5 (rw [rounds_succ]; go_wp2)
      go_roundw
      case rel => exact ⟨12, by go_num, by omega, ⟨H.out.step (by omega)⟩⟩
      case measure => simp [intOf]
    · have c1 : wr.cell? ⟨w.heap.size + 1, 12, none⟩ = some (.int .u32 0) := (cell_of (i := 12) H.out.r1).trans rfl
      have f1 := free_of (i := 12) H.out.r1
      clear hi
      go_wp2
      refine wp_loop_rounds 5 ?_
      iterate 5 (rw [rounds_succ]; go_wp2)
      go_roundw
      case rel => exact ⟨13, by go_num, by omega, ⟨H.out.step (by omega)⟩⟩
      case measure => simp [intOf]
    · have c1 : wr.cell? ⟨w.heap.size + 1, 13, none⟩ = some (.int .u32 0) := (cell_of (i := 13) H.out.r1).trans rfl
      have f1 := free_of (i := 13) H.out.r1
      clear hi
      go_wp2
      refine wp_loop_rounds 5 ?_
      iterate 5 (rw [rounds_succ]; go_wp2)
      go_roundw
      case rel => exact ⟨14, by go_num, by omega, ⟨H.out.step (by omega)⟩⟩
      case measure => simp [intOf]
    · have c1 : wr.cell? ⟨w.heap.size + 1, 14, none⟩ = some (.int .u32 0) := (cell_of (i := 14) H.out.r1).trans rfl
      have f1 := free_of (i := 14) H.out.r1
      clear hi
      go_wp2
      refine wp_loop_rounds 5 ?_
      iterate 5 (rw [rounds_succ]; go_wp2)
      go_roundw
      case rel => exact ⟨15, by go_num, by omega, ⟨H.out.step (by omega)⟩⟩
      case measure => simp [intOf]
    · have c1 : wr.cell? ⟨w.heap.size + 1, 15, none⟩ = some (.int .u32 0) := (cell_of (i := 15) H.out.r1).trans rfl
      have f1 := free_of (i := 15) H.out.r1
      clear hi
      go_wp2
      refine wp_loop_rounds 5 ?_
      iterate 5 (rw [rounds_succ]; go_wp2)
      go_roundw
      case rel => exact ⟨16, by go_num, by omega, ⟨H.out.step (by omega)⟩⟩
      case measure => simp [intOf]
    · have HL := H
      go_wp2_with (first
        | (refine load_16 rfl _ rfl (w.heap.size + 1) (encU (tabAt 16)) rfl H.out.r1 rfl ?_)
        | (refine store_16 rfl _ _ rfl w.heap.size (encU (tabAt 0)) (encU (tabAt 16)) rfl rfl H.out.r0 rfl rfl (encU_one _) ?_
           intro w2 hr2 hg2 hs2
           have R2 := Hide.mk hr2
           have G2 := Hide.mk hg2
           clear hr2 hg2 hs2))
      (try simp only [Exit.inBlock, Exit.then])
      refine bodyPost_ret (results_cell_row rfl _ _ w.heap.size 193 (encU (tabAt 16)) (0, 0) _ rfl R2.out Tryz.underlying193 rfl (by rw [info16]; rfl)) rfl ?_
      exact ⟨rfl, H.out.bel.grown G2.out H.out.bel.size (fun j hj => by cases hj; exact Nat.le_refl _)⟩
end Go.Proofs.YtplkndmkchpcdaaGreat.Sum
end
section
namespace Go.Proofs.YtplkndmkchpcdaaGreat.Sum
open Go.RowKit Go.Maps MapFn Disk YtplkndmkchpcdaaGreatW.PrintWords
set_option maxHeartbeats 8000000
set_option maxRecDepth 100000
theorem wraps_u32 (n : Int) (h₀ : 0 ≤ n) (h₁ : n < 2 ^ 32) : IntKind.u32.wrap n = n := by rw [IntKind.wrap_u32]; omega
theorem bits_xor (k : IntKind) (j : Nat) (hj : j ≤ k.bits) (hk : ∀ n : Int, 0 ≤ n → n < 2 ^ j → k.wrap n = n) (a b : Nat) (ha : a < 2 ^ j) (hb : b < 2 ^ j) : bits .xor k a b = ((a ^^^ b : Nat) : Int) := by
  have hp : 2 ^ j ≤ 2 ^ k.bits := Nat.pow_le_pow_right (by decide) hj
  have ha' : a % 2 ^ k.bits = a := Nat.mod_eq_of_lt (Nat.lt_of_lt_of_le ha hp)
  have hb' : b % 2 ^ k.bits = b := Nat.mod_eq_of_lt (Nat.lt_of_lt_of_le hb hp)
  have cast : ∀ n : Nat, n < 2 ^ j → ((n : Nat) : Int) < 2 ^ j := fun n h => by exact_mod_cast h
  simp only [bits, BitVec.ofInt_natCast, BitVec.toNat_xor, BitVec.toNat_ofNat, ha', hb']
  exact hk _ (Int.natCast_nonneg _) (cast _ (Nat.xor_lt_two_pow ha hb))
theorem xorN (a b : Nat) (ha : a < 2 ^ 32) (hb : b < 2 ^ 32) : bits .xor .u32 (a : Int) (b : Int) = ((a ^^^ b : Nat) : Int) :=
  bits_xor .u32 32 (by decide) wraps_u32 a b ha hb
theorem and15 (a : Nat) (ha : a < 2 ^ 32) : bits .and .u32 (a : Int) 15 = (a : Int) % 16 := by
  have := bits_mask .u32 32 (by decide) wraps_u32 4 (by decide) (a : Int) (by omega) (by omega)
  simpa using this
def tabN (i : Nat) : Nat := (tabL.getD i 0).toNat
def nib (c : Nat) : Nat := tabN (c % 16) ^^^ (c / 16)
def stepN (c x : Nat) : Nat := nib (nib (c ^^^ x))
theorem tabN_lt (i : Nat) : tabN i < 2 ^ 32 := by
  unfold tabN
  by_cases h : i < 16
  · have : i = 0 ∨ i = 1 ∨ i = 2 ∨ i = 3 ∨ i = 4 ∨ i = 5 ∨ i = 6 ∨ i = 7 ∨ i = 8 ∨ i = 9 ∨ i = 10 ∨ i = 11 ∨ i = 12 ∨ i = 13 ∨ i = 14 ∨ i = 15 := by omega
    rcases this with rfl | rfl | rfl | rfl | rfl | rfl | rfl | rfl | rfl | rfl | rfl | rfl | rfl | rfl | rfl | rfl <;> decide
  · rw [List.getD_eq_getElem?_getD, List.getElem?_eq_none (by simp [tabL]; omega)]
    decide
theorem nib_lt (c : Nat) (h : c < 2 ^ 32) : nib c < 2 ^ 32 := Nat.xor_lt_two_pow (tabN_lt _) (by omega)
theorem nib_eq (c : Nat) (h : c < 2 ^ 32) : bits .xor .u32 (tabN (c % 16) : Int) ((c : Int) / 16) = (nib c : Int) := by
  have := xorN (tabN (c % 16)) (c / 16) (tabN_lt _) (by omega)
  rw [show ((c / 16 : Nat) : Int) = (c : Int) / 16 by omega] at this
  exact this
theorem tab_cell {w : World} {g : Nat} (h : w.heap[g]? = some (.cells (encU tabL) 193 (0, 0))) (c : Nat) : w.cell? ⟨g, c % 16, none⟩ = some (.int .u32 (tabN (c % 16) : Int)) := by
  rw [cell_of h]
  have hlt : c % 16 < 16 := Nat.mod_lt _ (by decide)
  generalize c % 16 = i at *
  have : i = 0 ∨ i = 1 ∨ i = 2 ∨ i = 3 ∨ i = 4 ∨ i = 5 ∨ i = 6 ∨ i = 7 ∨ i = 8 ∨ i = 9 ∨ i = 10 ∨ i = 11 ∨ i = 12 ∨ i = 13 ∨ i = 14 ∨ i = 15 := by omega
  rcases this with rfl | rfl | rfl | rfl | rfl | rfl | rfl | rfl | rfl | rfl | rfl | rfl | rfl | rfl | rfl | rfl <;> rfl
def Bytes (l : List Int) : Prop := ∀ x ∈ l, 0 ≤ x ∧ x < 256
def runN (c : Nat) (l : List Int) : Nat := l.foldl (fun c x => stepN c x.toNat) c
def moreN (crc : Nat) (l : List Int) : Nat := 4294967295 ^^^ runN (4294967295 ^^^ crc) l
theorem stepN_lt (c x : Nat) (hc : c < 2 ^ 32) (hx : x < 2 ^ 32) : stepN c x < 2 ^ 32 := nib_lt _ (nib_lt _ (Nat.xor_lt_two_pow hc hx))
theorem flip_lt (c : Nat) (h : c < 2 ^ 32) : 4294967295 ^^^ c < 2 ^ 32 := Nat.xor_lt_two_pow (by decide) h
theorem flip_eq (c : Nat) (h : c < 2 ^ 32) : bits .xor .u32 IntKind.u32.max (c : Int) = ((4294967295 ^^^ c : Nat) : Int) := xorN 4294967295 c (by decide) h
theorem run_lt (l : List Int) (hb : Bytes l) : ∀ c, c < 2 ^ 32 → runN c l < 2 ^ 32 := by
  induction l with
  | nil => intro c h; exact h
  | cons x r ih =>
    intro c h
    have hx := hb x List.mem_cons_self
    exact ih (fun y hy => hb y (List.mem_cons_of_mem _ hy)) _ (stepN_lt _ _ h (by omega))
theorem run_take (l : List Int) (c : Nat) (i : Nat) (h : i < l.length) : runN c (l.take (i + 1)) = stepN (runN c (l.take i)) (l[i]).toNat := by
  rw [(List.take_append_getElem h).symm]
  unfold runN
  rw [List.foldl_append]
  rfl
theorem more_any (crc : Nat) (hc : crc < 2 ^ 32) (A : Option Addr) (c : Nat) (l : List Int) (hbl : Bytes l) (w : World) (hr : Kd.C (Kd.int .u8) w A l.length l) :
    Calls Tryz.prog 164 #[.int .u32 (crc : Int), .slice A l.length c] w fun e w' => e = .returned (.int .u32 (moreN crc l : Int)) ∧ Below w.heap.size w w' := by
  have HT := Hide.mk (table_any w)
  have HR := Hide.mk hr
  have HB := Hide.mk hbl
  have e0 := flip_eq crc hc
  have k0 := flip_lt crc hc
  obtain ⟨C0, hC0⟩ : ∃ N, 4294967295 ^^^ crc = N := ⟨_, rfl⟩
  rw [hC0] at e0 k0
  have HM : Hide (moreN crc l = 4294967295 ^^^ runN C0 l) := ⟨by unfold moreN; rw [hC0]⟩
  have K0 := Hide.mk k0
  clear hr hbl hC0 k0 hc
  go_enter Tryz.func164, Tryz.ntmps164
  go_wp2_with (first
    | (go_at_call 167; refine HT.out.mono ?_; rintro e w1 ⟨rfl, hb⟩; have B1 := Hide.mk hb; have L1 := Hide.mk (heap_last w1 (.cells (encU (tabAt 0)) 193)); clear hb)
    | (refine store_16 rfl _ _ rfl w1.heap.size (encU (tabAt 0)) (encU tabL) rfl rfl L1.out rfl rfl (encU_one _) ?_
       intro w2 hr2 hg2 hs2
       have R2 := Hide.mk hr2
       have B2 := Hide.mk ((B1.out.alloc B1.out.size (.cells (encU (tabAt 0)) 193)).grown hg2 (by have := B1.out.size; simp; omega) (fun j hj => by cases hj; exact B1.out.size))
       clear hr2 hg2 hs2 L1))
  go_loopw [6, 14] (fun v6 v14 wr => ∃ (i : Nat) (x : Nat), v6 = .int .u32 (x : Int) ∧ v14 = .int .i64 (i : Int) ∧ wr = w2 ∧ i ≤ l.length ∧ Hide (x = runN C0 (l.take i))) (fun _ v14 _ => l.length - (intOf v14).toNat)
  case atStart => exact ⟨0, C0, by first | rfl | (simp [e0]), rfl, rfl, by omega, ⟨rfl⟩⟩
  case round =>
    obtain ⟨i, cc, rfl, rfl, rfl, hi, HX⟩ := hrel
    have hb1 : cc < 2 ^ 32 := by
      rw [HX.out]
      exact run_lt _ (fun y hy => HB.out y (List.mem_of_mem_take hy)) _ K0.out
    have hmx : l.length ≤ 9223372036854775807 := HR.out.2.1
    by_cases hlt0 : i < l.length
    · have hlt : (i : Int) < (l.length : Int) := by omega
      obtain ⟨ad, rfl, hcell⟩ := Kd.at_int (Kd.C_below HR.out B2.out) (i : Int) (by omega) hlt
      have hxb := HB.out l[i] (List.getElem_mem _)
      have hrd : rd l (i : Int) = l[i] := by simp [rd, List.getD_eq_getElem?_getD, hlt0]
      obtain ⟨xx, hxx⟩ : ∃ xx : Nat, l[i] = (xx : Int) := ⟨l[i].toNat, by omega⟩
      simp only [Int.toNat_natCast] at hcell
      rw [hrd, hxx] at hcell
      have hb2 : xx < 2 ^ 32 := by omega
      have HRT := Hide.mk (run_take l C0 i hlt0)
      have HXX := Hide.mk hxx
      have LT := Hide.mk hlt0
      clear hxb hrd hxx
      have e1 := xorN cc xx hb1 hb2
      have k1 : cc ^^^ xx < 2 ^ 32 := Nat.xor_lt_two_pow hb1 hb2
      obtain ⟨N1, hN1⟩ : ∃ N, cc ^^^ xx = N := ⟨_, rfl⟩
      rw [hN1] at e1 k1
      have e2 := and15 _ k1
      have t1 := tab_cell R2.out N1
      have e3 := nib_eq N1 k1
      have k2 := nib_lt _ k1
      obtain ⟨N2, hN2⟩ : ∃ N, nib N1 = N := ⟨_, rfl⟩
      rw [hN2] at e3 k2
      have e4 := and15 _ k2
      have t2 := tab_cell R2.out N2
      have e5 := nib_eq N2 k2
      have k3 := nib_lt _ k2
      obtain ⟨N3, hN3⟩ : ∃ N, nib N2 = N := ⟨_, rfl⟩
      rw [hN3] at e5 k3
      have j1 : (N1 % 16 : Nat) < 16 := Nat.mod_lt _ (by decide)
      have j2 : (N2 % 16 : Nat) < 16 := Nat.mod_lt _ (by decide)
      have HN := Hide.mk (show stepN cc xx = N3 by unfold stepN; rw [hN1, hN2, hN3])
      have K3 := Hide.mk k3
      clear hN1 hN2 hN3 k1 k2 k3
      go_wp2
      go_roundw
      case rel =>
        refine ⟨i + 1, N3, rfl, by go_num, by first | trivial | rfl, by have := LT.out; omega, ⟨?_⟩⟩
        rw [HRT.out, ← HX.out, HXX.out, Int.toNat_natCast, HN.out]
      case measure => have := LT.out; simp [intOf]; omega
    · have hlt : ¬ (i : Int) < (l.length : Int) := by omega
      have hil : i = l.length := by omega
      subst hil
      have ef := flip_eq cc hb1
      clear hlt0
      go_wp2
      go_ret
      refine ⟨?_, B2.out⟩
      rw [HM.out, HX.out, List.take_length]
      rfl
end Go.Proofs.YtplkndmkchpcdaaGreat.Sum
end
section

end
section
namespace Go.Proofs.YtplkndmkchpcdaaGreatW.PrintLast
section
variable {P : Program} {ops : Array Oper} {Q : Exit → Act → World → Prop} {md : Region.Mode} {S : World → Prop} {ds : List Nat} {T : Bool × List (List Nat × List Nat)}
end
end Go.Proofs.YtplkndmkchpcdaaGreatW.PrintLast
end
section
namespace Go.Proofs.YtplkndmkchpcdaaGreatW.PrintWords
open Go.RowKit
namespace Kd
section
variable {α : Type} {d : Kd α} {W : World} {g n : Nat} {S ok : Nat → Prop} {A : Option Addr} {ad : Addr} {xs : List α}
end
end Kd
end Go.Proofs.YtplkndmkchpcdaaGreatW.PrintWords
end
section
namespace Go.Proofs.YtplkndmkchpcdaaGreatW.PrintWords
open Go.RowKit
section
variable {w w' u : World} {m B g : Nat} {o : Obj} {row : Option Nat} {S : Nat → Prop} {a : Addr} {v : Value}
end
namespace Kd
section
variable {α : Type} {d : Kd α} {e base n m : Nat} {ok : Nat → Prop} {w w' : World} {v : Value} {A : Option Addr} {xs : List α}
end
end Kd
end Go.Proofs.YtplkndmkchpcdaaGreatW.PrintWords
end
section
namespace Go.Proofs.YtplkndmkchpcdaaGreatW.PrintWords
open Go.RowKit
section
variable {P : Program} {d : Nat} {xs ys : Array Value} {f : Field} {fs : List Field} {a b : Value} {r s : Bool} {w : World}
end
end Go.Proofs.YtplkndmkchpcdaaGreatW.PrintWords
end
section
namespace Go.Proofs.YtplkndmkchpcdaaGreatW.PrintWords
theorem Reps.one {α : Type} {R : α → List Value → Prop} {ps : List α} {cs : List Value} {p : α} {v : Value} (hp : R p [v]) (h : Reps R 1 ps cs) : Reps R 1 (p :: ps) (v :: cs) := by
  refine ⟨by simp [h.1], fun j q hq => ?_⟩
  cases j with
  | zero =>
    simp only [List.getElem?_cons_zero, Option.some.injEq] at hq
    subst hq
    simpa using hp
  | succ j =>
    simp only [List.getElem?_cons_succ] at hq
    have h1 := h.2 j q hq
    simpa [Nat.mul_one] using h1
theorem Reps.front {α : Type} {R : α → List Value → Prop} {size : Nat} {ps : List α} {cs c all : List Value} {p : α} (hp : R p c) (hc : c.length = size) (h : Reps R size ps cs) (ha : c ++ cs = all) : Reps R size (p :: ps) all := by
  subst ha
  refine ⟨by rw [List.length_append, hc, h.1, List.length_cons, Nat.succ_mul, Nat.add_comm], fun j q hq => ?_⟩
  cases j with
  | zero =>
    simp only [List.getElem?_cons_zero, Option.some.injEq] at hq
    subst hq
    rw [Nat.zero_mul, List.drop_zero, List.take_append_of_le_length (by omega), List.take_of_length_le (by omega)]
    exact hp
  | succ j =>
    simp only [List.getElem?_cons_succ] at hq
    have h1 := h.2 j q hq
    rw [Nat.succ_mul, List.drop_append, List.drop_of_length_le (by rw [hc]; exact Nat.le_add_left _ _), List.nil_append, hc, Nat.add_sub_cancel]
    exact h1
theorem Reps.c2 {α : Type} {R : α → List Value → Prop} {ps : List α} {cs : List Value} {p : α} {va vb : Value} (hp : R p [va, vb]) (h : Reps R 2 ps cs) : Reps R 2 (p :: ps) (va :: vb :: cs) := Reps.front hp rfl h rfl
theorem Reps.c3 {α : Type} {R : α → List Value → Prop} {ps : List α} {cs : List Value} {p : α} {va vb vc : Value} (hp : R p [va, vb, vc]) (h : Reps R 3 ps cs) : Reps R 3 (p :: ps) (va :: vb :: vc :: cs) := Reps.front hp rfl h rfl
theorem Reps.c4 {α : Type} {R : α → List Value → Prop} {ps : List α} {cs : List Value} {p : α} {va vb vc vd : Value} (hp : R p [va, vb, vc, vd]) (h : Reps R 4 ps cs) : Reps R 4 (p :: ps) (va :: vb :: vc :: vd :: cs) := Reps.front hp rfl h rfl
theorem Reps.c5 {α : Type} {R : α → List Value → Prop} {ps : List α} {cs : List Value} {p : α} {va vb vc vd ve : Value} (hp : R p [va, vb, vc, vd, ve]) (h : Reps R 5 ps cs) : Reps R 5 (p :: ps) (va :: vb :: vc :: vd :: ve :: cs) := Reps.front hp rfl h rfl
theorem Reps.c6 {α : Type} {R : α → List Value → Prop} {ps : List α} {cs : List Value} {p : α} {va vb vc vd ve vf : Value} (hp : R p [va, vb, vc, vd, ve, vf]) (h : Reps R 6 ps cs) : Reps R 6 (p :: ps) (va :: vb :: vc :: vd :: ve :: vf :: cs) := Reps.front hp rfl h rfl
theorem Reps.c7 {α : Type} {R : α → List Value → Prop} {ps : List α} {cs : List Value} {p : α} {va vb vc vd ve vf vg : Value} (hp : R p [va, vb, vc, vd, ve, vf, vg]) (h : Reps R 7 ps cs) : Reps R 7 (p :: ps) (va :: vb :: vc :: vd :: ve :: vf :: vg :: cs) := Reps.front hp rfl h rfl
theorem Reps.c8 {α : Type} {R : α → List Value → Prop} {ps : List α} {cs : List Value} {p : α} {va vb vc vd ve vf vg vh : Value} (hp : R p [va, vb, vc, vd, ve, vf, vg, vh]) (h : Reps R 8 ps cs) : Reps R 8 (p :: ps) (va :: vb :: vc :: vd :: ve :: vf :: vg :: vh :: cs) := Reps.front hp rfl h rfl
end Go.Proofs.YtplkndmkchpcdaaGreatW.PrintWords
end
section
namespace Go.Proofs.YtplkndmkchpcdaaGreatW.PrintLast
def up (b : Nat → Bool) (i : Nat) : Nat → Bool := fun j => if j = i then true else b j
def lof (n : Nat) (O : List Nat) (b : Nat → Bool) : List Bool := (List.range n).map fun j => if O.contains j then b j else true
def putSel (a : Act) (b : Nat → Bool) : List (Nat × Tmp × Value) → Act
  | [] => a
  | e :: r => putSel (if b e.1 = true then a.put (some e.2.1) e.2.2 else a) b r
section
variable {P : Program} {ops : Array Oper} {Q : Exit → Act → World → Prop} {md : Region.Mode} {T : Bool × List (List Nat × List Nat)} {B : List Nat} {O : List Nat} {b : Nat → Bool} {i j n : Nat}
def StepAt (P : Program) (ops : Array Oper) (Q : Exit → Act → World → Prop) (B : List Nat) (O : List Nat) (I : (Nat → Bool) → Act → World → Prop) (i : Nat) : Prop :=
  ∀ b a w, I b a w → b i = false → (∀ j, (O.contains j && (B.getD i 0).testBit j) = true → b j = true) → (∀ d, (O.contains d && (B.getD d 0).testBit i) = true → b d = false) →
    ∃ oi, ops[i]? = some oi ∧ ∀ K : Act → World → Prop, Shut (∀ a' w', I (up b i) a' w' → K a' w') → if Region.wanted oi (yielded ops a.tmps) = true then Oper.wp P oi a w K Q else K (a.put oi.dst undef) w
def baseOk (T : List (List Nat × List Nat)) (O : List Nat) : Bool :=
  (List.range T.length).all (fun d => match T[d]? with
    | some r => (O.contains d || r.1.all fun n => !O.contains n) && r.1.all fun n => decide (n < d)
    | none => false) && O.all (fun i => decide (i < T.length)) && decide O.Nodup
def Closed (T : List (List Nat × List Nat)) (O : List Nat) (b : Nat → Bool) : Prop := ∀ d r, T[d]? = some r → O.contains d = true → b d = true → ∀ n ∈ r.1, O.contains n = true → b n = true
end
end Go.Proofs.YtplkndmkchpcdaaGreatW.PrintLast
end
section
namespace Go.Proofs.YtplkndmkchpcdaaGreatW.PrintWords
open Go.RowKit
end Go.Proofs.YtplkndmkchpcdaaGreatW.PrintWords
namespace Go.Proofs.YtplkndmkchpcdaaGreatW.PrintLast
section
variable {ops : Array Oper} {a : Act} {o og : Oper} {g : Nat} {t : Tmp} {u : Bool}
end
end Go.Proofs.YtplkndmkchpcdaaGreatW.PrintLast
end
section
namespace Go.Proofs.YtplkndmkchpcdaaGreatW.PrintWords
open Go.RowKit
section
variable {P : Program} {ops : Array Oper} {rest : List Oper} {o : Oper} {a : Act} {Q : Exit → Act → World → Prop} {W : World}
end
end Go.Proofs.YtplkndmkchpcdaaGreatW.PrintWords
end
section
namespace Go.Proofs.YtplkndmkchpcdaaGreat.PShadowPlays
open Go.RowKit YtplkndmkchpcdaaGreatW.PrintWords YtplkndmkchpcdaaGreatW.PrintLast YtplkndmkchpcdaaGreatW.PrintMore
attribute [local go_sem] max2_int min2_int max_two min_two max_three min_three max_four min_four
def errW : Option Int → Value
  | none => .nilIface
  | some c => .iface 0 (.int .i64 c)
theorem errW_none : errW none = .nilIface := rfl
theorem errW_some (c : Int) : errW (some c) = .iface 0 (.int .i64 c) := rfl
theorem info5 : (Tryz.prog.info? 5).map (fun i => (i.zero, i.size, i.bytes)) = some (some (.int .u8 0), 1, 1) := by kernel_rfl
def rd_L1 (xs : List (List Int)) (i : Int) : (List Int) := xs.getD i.toNat ([] : List Int)
theorem at_L1 {w : World} {A : Option Addr} {n : Nat} {xs : List (List Int)} (h : Kd.C (Kd.slice 5 (Kd.int .u8)) w A n xs) (i : Int) (h0 : 0 ≤ i) (h1 : i < n) : ∃ ad A0 c0, A = some ad ∧ w.cell? (ad.add i.toNat) = some (.slice A0 (rd_L1 xs i).length c0) ∧ (rd_L1 xs i).length ≤ c0 ∧ (Kd.int .u8).C w A0 (rd_L1 xs i).length (rd_L1 xs i) := by
  obtain ⟨ad, c, e, _, hK, hc0⟩ := Kd.C_get h ([] : List Int) i h0 h1
  have hc : ∀ j u, c[j]? = some u → w.cell? (ad.add (i.toNat * 1 + j)) = some u := hc0
  obtain ⟨A0, c0, rfl, l0, g0⟩ := hK
  exact ⟨ad, A0, c0, e, by have hq := hc 0 _ rfl; rwa [Nat.mul_one, Nat.add_zero] at hq, l0, g0⟩
end Go.Proofs.YtplkndmkchpcdaaGreat.PShadowPlays
end
