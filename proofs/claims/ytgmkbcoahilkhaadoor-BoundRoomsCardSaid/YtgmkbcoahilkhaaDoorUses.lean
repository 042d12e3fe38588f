/- bound.Uses at any list of numbers: it counts the distinct positive ones, by cloning, striking, sorting and compacting. -/
import Derived.Test.YtgmkbcoahilkhaaDoorProg
import Derived.Test.YtgmkbcoahilkhaaDoorWWords
import Derived.Test.YtgmkbcoahilkhaaDoorWLast
import Derived.Test.YtgmkbcoahilkhaaDoorWMore
import Derived.Test.YtgmkbcoahilkhaaDoorShelf
import Derived.Test.YtgmkbcoahilkhaaDoorPlain
import Derived.WalkKit
import Derived.WideShapes
import Derived.Below
import Derived.Sort.Grow
import Derived.Sort.OwnSortedInts
import Derived.Lib.OwnBridge
namespace Go.Proofs.YtgmkbcoahilkhaaDoor.Uses
open Go.RowKit Go.Shelf Go.Sort Go.Lib Go.Proofs.YtgmkbcoahilkhaaDoor.Plain Go.Proofs.YtgmkbcoahilkhaaDoorW.PrintWords Go.Proofs.YtgmkbcoahilkhaaDoorW.PrintLast Go.Proofs.YtgmkbcoahilkhaaDoorW.PrintMore
set_option linter.unusedVariables false
theorem kept_le (l : List Int) : (kept l).length ≤ l.length := List.length_filter_le _ _
theorem sortedL_length (l : List Int) : (sortedL l).length = l.length := List.length_mergeSort l

theorem gives15 (x : Int) (W : World) : FnGives Tryd.prog 15 #[] #[.int .i64 x] (.bool (decide (x ≤ 0))) W := by
  show Calls Tryd.prog 15 #[.int .i64 x] W _
  go_enter Tryd.func15, Tryd.ntmps15
  go_wp2
  all_goals (go_ret; exact ⟨by simp_all, 0, rfl⟩)
theorem enters15 : ∀ args w, (callFunc 15 args).run Tryd.prog w = .ok (.enter 15 args) w := enters_of Tryd.func15 (by kernel_rfl) rfl

/-- What the world keeps, as far as it goes below a block of the call's own. -/
def Kept (g : Nat) (w1 w2 : World) : Prop := ∀ (B : Nat) (w0 : World), B ≤ g → Below B w0 w1 → Below B w0 w2

theorem holds_prefix {w : World} {g : Nat} {xs ys : List Int} (h : Holds (Value.int .i64) w g 0 (xs ++ ys).toArray) : Holds (Value.int .i64) w g 0 xs.toArray := fun j hj => by
  have hj' : j < xs.length := by simpa using hj
  have := h j (by simp; omega)
  rw [getElem!_pos _ _ (by simp; omega)] at this
  rw [getElem!_pos _ _ (by simpa using hj')]
  simpa [List.getElem_append_left hj'] using this

theorem size_putRow' (w : World) (g q : Nat) (d : Array Int) : (putRow (Value.int .i64) (Sort.ahead w q) g 0 d).heap.size = w.heap.size := by
  simp [putRow, mapBlock, Sort.ahead]

theorem delete_any (g cap : Nat) (zs : List Int) (w : World) (hH : Holds (Value.int .i64) w g 0 zs.toArray) (hg : g < w.heap.size) (hsz : zs.length ≤ 4611686018427387903) (hcap : zs.length ≤ cap) :
    Calls Tryd.prog 13 #[.slice (some ⟨g, 0, none⟩) zs.length cap, .func (.func 15) #[] #[]] w fun e w' => e = .returned (.slice (some ⟨g, 0, none⟩) (kept zs).length cap) ∧ Holds (Value.int .i64) w' g 0 (kept zs).toArray ∧ g < w'.heap.size ∧ Kept g w w' := by
  have h := Tryd.slices_DeleteFunc (Value.int .i64) (fun _ => rfl) (fun x => decide (x ≤ 0)) 15 #[] enters15 0 Tryd.zeroValue3 g 0 cap zs.toArray w (fun W x _ => gives15 x W) (fun n os dk x _ => gives15 x _) hH (by simp; omega) (by simpa using hcap)
  simp only [List.size_toArray] at h
  refine h.mono ?_
  rintro e w' ⟨rfl, q, rfl⟩
  have hk := kept_le zs
  refine ⟨rfl, ?_, by rw [size_putRow']; exact hg, fun B w0 hB hb => below_putRow hb hB⟩
  refine holds_prefix (ys := List.replicate (zs.length - (kept zs).length) 0) (holds_putRow _ _ g 0 zs.toArray _ (holds_ahead _ w q g 0 _ hH) ?_)
  show (kept zs ++ List.replicate (zs.length - (kept zs).length) 0).toArray.size = _
  simp
  omega

theorem sort_any (g cap : Nat) (zs : List Int) (w : World) (hH : Holds (Value.int .i64) w g 0 zs.toArray) (hg : g < w.heap.size) (hsz : zs.length ≤ 4611686018427387903) :
    Calls Tryd.prog 16 #[.slice (some ⟨g, 0, none⟩) zs.length cap] w fun e w' => e = .returned (.tuple #[]) ∧ Holds (Value.int .i64) w' g 0 (sortedL zs).toArray ∧ g < w'.heap.size ∧ Kept g w w' := by
  refine (Tryd.slices_Sort_int g 0 cap zs w hH hg (by omega)).mono ?_
  rintro e w' ⟨rfl, n, os, rfl⟩
  refine ⟨rfl, ?_, ?_, fun B w0 hB hb => ?_⟩
  · exact holds_grow _ _ os g 0 _ (by rw [size_putRow']; exact hg) (holds_putRow _ _ g 0 zs.toArray _ (holds_ahead _ w n g 0 _ hH) (by simp))
  · have := size_putRow' w g n (zs.mergeSort fun x y => decide (x ≤ y)).toArray
    simp only [grow]
    first | omega | (simp; omega)
  · exact hb.grown (grownBy_sortedI _) (by omega) (fun j hj => by cases hj; exact hB)

theorem compact_any (g cap : Nat) (zs : List Int) (w : World) (hH : Holds (Value.int .i64) w g 0 zs.toArray) (hsz : zs.length ≤ 4611686018427387903) (hcap : zs.length ≤ cap) :
    Calls Tryd.prog 17 #[.slice (some ⟨g, 0, none⟩) zs.length cap] w fun e w' => e = .returned (.slice (some ⟨g, 0, none⟩) (Lib.compact zs).length cap) ∧ Kept g w w' := by
  refine (Tryd.slices_Compact_int g 0 cap zs w hH (by omega) hcap).mono ?_
  rintro e w' ⟨rfl, q, rfl⟩
  exact ⟨rfl, fun B w0 hB hb => below_putRow hb hB⟩

set_option maxHeartbeats 2000000 in
set_option maxRecDepth 100000 in
theorem uses_tail (arg : Value) (n : Nat) (zs : List Int) (w : World) (hn : n ≤ 4611686018427387903)
    (hclone : Calls Tryd.prog 14 #[arg] w fun e w' => ∃ v', e = .returned v' ∧ w'.ownsRow w.heap.size 3 1 v' n (zs.map (Value.int .i64)) ∧ v' ≠ .slice none 0 0 ∧ Below w.heap.size w w') :
    Calls Tryd.prog 9 #[arg] w fun e w' => e = .returned (.int .i64 (usesL zs)) ∧ Below w.heap.size w w' := by
  go_enter Tryd.func9, Tryd.ntmps9
  go_wp2_with (first
    | (go_at_call 14; refine hclone.mono ?_; rintro e w1 ⟨v1, rfl, hown, hnn, hbel⟩
       obtain ⟨g, cap, rfl, hbg, hgl, hncap, hcm, hlen, hH⟩ := Lib.holds_of_ownsRow hown hnn
       have hdel := delete_any g cap zs w1 hH hgl (by omega) (by omega)
       rw [hlen] at hdel
       have hsize := Aside0.mk (show (kept zs).length ≤ n by have := kept_le zs; omega)
       have X := Aside0.mk (show Below w.heap.size w w1 ∧ w.heap.size ≤ g ∧ n ≤ cap ∧ cap ≤ maxLen from ⟨hbel, hbg, hncap, hcm⟩)
       clear hown hbel hH hnn)
    | (go_at_call 13; refine hdel.mono ?_; rintro e w2 ⟨rfl, hH2, hg2, hk2⟩
       have hsort := sort_any g cap (kept zs) w2 hH2 hg2 (by have := hsize.out; omega)
       have K2 := Aside0.mk (hk2 w.heap.size w X.out.2.1 X.out.1)
       clear hdel hH2 hk2)
    | (go_at_call 16; refine hsort.mono ?_; rintro e w3 ⟨rfl, hH3, hg3, hk3⟩
       have hcomp := compact_any g cap (sortedL (kept zs)) w3 hH3 (by rw [sortedL_length]; have := hsize.out; omega) (by rw [sortedL_length]; have := hsize.out; have := X.out.2.2.1; omega)
       rw [sortedL_length] at hcomp
       have K3 := Aside0.mk (hk3 w.heap.size w X.out.2.1 K2.out)
       clear hsort hH3 hk3)
    | (go_at_call 17; refine hcomp.mono ?_; rintro e w4 ⟨rfl, hk4⟩
       have K4 := Aside0.mk (hk4 w.heap.size w X.out.2.1 K3.out)
       clear hcomp hk4))
  go_ret
  exact ⟨rfl, K4.out⟩

theorem clone_some (a : Addr) (c : Nat) (l : List Int) (w : World) (hr : Kd.C (Kd.int .i64) w (some a) l.length l) (hc : l.length ≤ c) (hl : l.length * 8 ≤ 140737488355328) :
    Calls Tryd.prog 14 #[.slice (some a) l.length c] w fun e w' => ∃ v', e = .returned v' ∧ w'.ownsRow w.heap.size 3 1 v' l.length (l.map (Value.int .i64)) ∧ v' ≠ .slice none 0 0 ∧ Below w.heap.size w w' := by
  have HR := hr
  cases l with
  | nil => exact Tryd.slices_Clone_int_zero a c w
  | cons x xs =>
    obtain ⟨ad, had, hcell⟩ := Kd.at_int HR 0 (by simp) (by simp)
    cases had
    obtain ⟨b, off, spot⟩ := a
    have hspot : spot = none := by simpa [Addr.add] using World.cell?_spot hcell
    subst hspot
    have h := Tryd.slices_Clone_int b off (x :: xs).length c (x :: xs) w (Nat.le_refl _) hl (fun j hj => by
      obtain ⟨ad, had, hcell⟩ := Kd.at_int HR j (by omega) (by simp only [List.length_cons] at hj ⊢; omega)
      cases had
      rw [show ((⟨b, off, none⟩ : Addr).add (j : Int).toNat) = ⟨b, off + j, none⟩ by rw [Int.toNat_natCast]; exact Go.WideShapes.add_plain _ _ _] at hcell
      rw [hcell]
      simp [YtgmkbcoahilkhaaDoorW.PrintWords.rd])
    simpa [List.take_length] using h

set_option maxHeartbeats 2000000 in
set_option maxRecDepth 100000 in
theorem delete_nil (w : World) :
    Calls Tryd.prog 13 #[.slice none 0 0, .func (.func 15) #[] #[]] w fun e w' => e = .returned (.slice none 0 0) ∧ Below w.heap.size w w' := by
  have hidx := Tryd.slices_IndexFunc_empty (α := Int) none 0 (.func (.func 15) #[] #[]) w
  go_enter Tryd.func13, Tryd.ntmps13
  go_wp2_with (go_at_call 26; refine hidx.mono ?_; rintro e w' ⟨rfl, rfl⟩)
  go_ret
  exact ⟨rfl, Below.refl _ _⟩

set_option maxHeartbeats 2000000 in
set_option maxRecDepth 100000 in
theorem uses_nil (c : Nat) (w : World) :
    Calls Tryd.prog 9 #[.slice none 0 c] w fun e w' => e = .returned (.int .i64 (usesL [])) ∧ Below w.heap.size w w' := by
  have e0 : usesL [] = 0 := by rw [usesL_eq]; rfl
  rw [e0]
  go_enter Tryd.func9, Tryd.ntmps9
  go_wp2_with (first
    | (go_at_call 14; refine (Tryd.slices_Clone_int_nil 0 c _).mono ?_; rintro e w1 ⟨rfl, rfl⟩)
    | (go_at_call 13; refine (delete_nil _).mono ?_; rintro e w2 ⟨rfl, hb2⟩; have B2 := Aside0.mk hb2; clear hb2)
    | (go_at_call 16; refine (Tryd.slices_Sort_int_none none 0 _).mono ?_; rintro e w3 ⟨rfl, rfl⟩)
    | (go_at_call 17; refine (Tryd.slices_Compact_int_empty none 0 _).mono ?_; rintro e w4 ⟨rfl, rfl⟩))
  go_ret
  exact ⟨rfl, B2.out⟩

theorem uses_any (A0 : Option Addr) (c0 : Nat) (l0 : List Int) (w : World) (hr0 : Kd.C (Kd.int .i64) w A0 l0.length l0) (hc0 : l0.length ≤ c0) (hl : l0.length ≤ 17592186044416) :
    Calls Tryd.prog 9 #[.slice A0 l0.length c0] w fun e w' => e = .returned (.int .i64 (usesL l0)) ∧ Below w.heap.size w w' := by
  cases A0 with
  | none =>
    have hz0 : l0 = [] := by
      cases l0 with
      | nil => rfl
      | cons x xs =>
        obtain ⟨ad, h, _⟩ := Kd.at_int hr0 0 (by simp) (by simp)
        cases h
    subst hz0
    exact uses_nil c0 w
  | some a => exact uses_tail _ l0.length l0 w (by omega) (clone_some a c0 l0 w hr0 hc0 (by omega))
end Go.Proofs.YtgmkbcoahilkhaaDoor.Uses
