/- The words, and the contracts of the functions that are reached, one behind the other. -/
import Derived.Deep.Slices
import Derived.Deep.MidRow
import Derived.Deep.CutBlock
import Derived.Deep.DeepCutAuto
import Derived.SizedLaws
import Derived.ChangeSlices
import Derived.Test.YtgmkbcoahilkhaaGreatSSE
set_option linter.unusedVariables false
set_option linter.unusedSimpArgs false
section
namespace Go.Proofs.YtgmkbcoahilkhaaGreat.Acts
open Go.RowKit Go.Deep Go.ChangeShapes Go.WideShapes YtgmkbcoahilkhaaGreatW.PrintWords YtgmkbcoahilkhaaGreat.Sum Disk Sh
set_option maxRecDepth 100000
structure DActV where
  kind : Int
  n : Int
  c : Int
  cut : Int
  done : Bool
  fate : List Int
instance : Inhabited DActV := ⟨⟨0, 0, 0, 0, false, []⟩⟩
structure ActV where
  kind : Int
  id : Int
  page : Int
  body : List Int
  d : DActV
instance : Inhabited ActV := ⟨⟨0, 0, 0, [], default⟩⟩
def IsI64 (x : Int) : Prop := -9223372036854775808 ≤ x ∧ x < 9223372036854775808
def IsU8 (x : Int) : Prop := 0 ≤ x ∧ x < 256
def DActV.vals (v : DActV) (A : Option Addr) (c : Nat) : List Value := [.int .u8 v.kind, .int .i64 v.n, .int .u8 v.c, .int .u8 v.cut, .bool v.done, .slice A v.fate.length c]
def ActV.vals (v : ActV) (A : Option Addr) (c : Nat) (A2 : Option Addr) (c2 : Nat) : List Value := [.int .u8 v.kind, .int .i64 v.id, .int .i64 v.page, .slice A v.body.length c] ++ v.d.vals A2 c2
structure DActV.Wf (v : DActV) : Prop where
  kind : IsU8 v.kind
  n : IsI64 v.n
  c : IsU8 v.c
  cut : IsU8 v.cut
  fate : Bytes v.fate
structure ActV.Wf (v : ActV) : Prop where
  kind : IsU8 v.kind
  id : IsI64 v.id
  page : IsI64 v.page
  body : Bytes v.body
  d : v.d.Wf
structure ActAt (W : World) (g o : Nat) (v : ActV) : Prop where
  ex : ∃ A c A2 c2, (∀ j, j < 10 → W.cell? ⟨g, o + j, none⟩ = (v.vals A c A2 c2)[j]?) ∧ InW .u8 W A v.body c ∧ InW .u8 W A2 v.d.fate c2
  wf : v.Wf
theorem spot_none {W : World} {a : Addr} {v : Value} (h : W.cell? a = some v) : a.spot = none := by
  unfold World.cell? at h
  split at h
  · split at h
    · cases h
    · rename_i q
      cases hs : a.spot with
      | none => rfl
      | some y => rw [hs] at q; exact absurd rfl q
  · cases h
theorem wf_u8 {n : Int} (h : (Lit.int .u8 n).wf = true) : IsU8 n := by
  simp only [Lit.wf, Bool.and_eq_true, decide_eq_true_eq] at h
  have h1 : IntKind.u8.min = 0 := rfl
  have h2 : IntKind.u8.max = 255 := rfl
  unfold IsU8
  omega
theorem wf_i64 {n : Int} (h : (Lit.int .i64 n).wf = true) : IsI64 n := by
  simp only [Lit.wf, Bool.and_eq_true, decide_eq_true_eq] at h
  have h1 : IntKind.i64.min = -9223372036854775808 := rfl
  have h2 : IntKind.i64.max = 9223372036854775807 := rfl
  unfold IsI64
  omega
section
variable {H : Type} {enc : TypeId × Value → H} {W : World} {base : Nat} {spare : Nat → Bool} {held : Bool}
theorem c5 : Tryz.prog.cellsOf 5 = 1 := by kernel_rfl
theorem c3 : Tryz.prog.cellsOf 3 = 1 := by kernel_rfl
theorem c4 : Tryz.prog.cellsOf 4 = 1 := by kernel_rfl
theorem c22 : Tryz.prog.cellsOf 22 = 1 := by kernel_rfl
theorem c47 : Tryz.prog.cellsOf 47 = 6 := by kernel_rfl
theorem c49 : Tryz.prog.cellsOf 49 = 10 := by kernel_rfl
theorem open_bytes {fuel : Nat} {v : Value} {x : DataW H × List MemPlace} (h : DataW.trod enc Tryz.prog W base spare held fuel 22 [v] = some x) :
    ∃ A l c, v = .slice A l.length c ∧ InW .u8 W A l c ∧ Bytes l := by
  rcases open_ints Tryz.underlying22 Tryz.underlying5 c5 h with ⟨hc, _⟩ | ⟨a, len, cap, zs, hc, _, hl, hm, hz, _, hcell, hwf⟩
  · injection hc with hv _
    exact ⟨none, [], 0, hv, (In.nil _ _).wide, fun y hy => by cases hy⟩
  · injection hc with hv _
    have hzl : len ≤ zs.length := by rw [hz]; split <;> omega
    have hlen : (zs.take len).length = len := by rw [List.length_take]; omega
    have hmx : maxLen ≤ 9223372036854775807 := by decide
    refine ⟨some a, zs.take len, cap, by rw [hlen]; exact hv, ⟨?_, by rw [hlen]; exact hl, fun b hb hne => ?_⟩, fun y hy => wf_u8 (hwf y (List.mem_of_mem_take hy))⟩
    · refine Kd.C_of_reads (enc := Value.int .u8) (d := (0 : Int)) (h1 := fun _ => rfl) ⟨rfl, by rw [hlen]; omega, fun _ => ⟨_, rfl, fun j hj => ?_⟩⟩
      rw [hlen] at hj
      rw [hcell j (by omega)]
      simp [List.getD_eq_getElem?_getD, List.getElem?_take, hj]
    · cases hb
      have hpos : 0 < (zs.take len).length := List.length_pos_iff.2 hne
      have := hcell 0 (by omega)
      rw [← Sh.add_block a 0]
      exact lt_of_cell this
theorem one_of {l : List Value} {f : Nat} {t : TypeId} {x : DataW H × List MemPlace} {o : Option (DataW H × List MemPlace)} (h : DataW.trod enc Tryz.prog W base spare held f t l = o) (ho : o = some x) : DataW.trod enc Tryz.prog W base spare held f t l = some x := h.trans ho
theorem open_dact {fuel : Nat} {cs : List Value} {x : DataW H × List MemPlace} (h : DataW.trod enc Tryz.prog W base spare held fuel 47 cs = some x) :
    ∃ (v : DActV) (A : Option Addr) (c : Nat), cs = v.vals A c ∧ InW .u8 W A v.fate c ∧ v.Wf := by
  obtain ⟨xs, n, _, _, hcl, hxl, hf⟩ := DataW.trod_struct Tryz.underlying47 h
  rw [c47] at hcl
  match xs, hxl, cs, hcl with
  | [y0, y1, y2, y3, y4, y5], _, [v0, v1, v2, v3, v4, v5], _ =>
    have g0 := hf 0 _ rfl
    have g1 := hf 1 _ rfl
    have g2 := hf 2 _ rfl
    have g3 := hf 3 _ rfl
    have g4 := hf 4 _ rfl
    have g5 := hf 5 _ rfl
    simp only [c5, c3, c4, c22, List.drop_zero, List.drop_succ_cons, List.take_succ_cons, List.take_zero, List.getElem?_cons_zero, List.getElem?_cons_succ] at g0 g1 g2 g3 g4 g5
    obtain ⟨a0, e0, _, w0⟩ := DataW.trod_int Tryz.underlying5 g0
    obtain ⟨a1, e1, _, w1⟩ := DataW.trod_int Tryz.underlying3 g1
    obtain ⟨a2, e2, _, w2⟩ := DataW.trod_int Tryz.underlying5 g2
    obtain ⟨a3, e3, _, w3⟩ := DataW.trod_int Tryz.underlying5 g3
    obtain ⟨a4, e4, _⟩ := DataW.trod_bool Tryz.underlying4 g4
    obtain ⟨A, l, c, e5, hi, hb⟩ := open_bytes g5
    injection e0 with e0 _
    injection e1 with e1 _
    injection e2 with e2 _
    injection e3 with e3 _
    injection e4 with e4 _
    subst e0 e1 e2 e3 e4 e5
    exact ⟨⟨a0, a1, a2, a3, a4, l⟩, A, c, rfl, hi, ⟨wf_u8 w0, wf_i64 w1, wf_u8 w2, wf_u8 w3, hb⟩⟩
theorem open_act {fuel : Nat} {cs : List Value} {x : DataW H × List MemPlace} (h : DataW.trod enc Tryz.prog W base spare held fuel 49 cs = some x) :
    ∃ (v : ActV) (A : Option Addr) (c : Nat) (A2 : Option Addr) (c2 : Nat), cs = v.vals A c A2 c2 ∧ InW .u8 W A v.body c ∧ InW .u8 W A2 v.d.fate c2 ∧ v.Wf := by
  obtain ⟨xs, n, _, _, hcl, hxl, hf⟩ := DataW.trod_struct Tryz.underlying49 h
  rw [c49] at hcl
  match xs, hxl, cs, hcl with
  | [y0, y1, y2, y3, y4], _, [v0, v1, v2, v3, v4, v5, v6, v7, v8, v9], _ =>
    have g0 := hf 0 _ rfl
    have g1 := hf 1 _ rfl
    have g2 := hf 2 _ rfl
    have g3 := hf 3 _ rfl
    have g4 := hf 4 _ rfl
    simp only [c5, c3, c4, c22, c47, List.drop_zero, List.drop_succ_cons, List.take_succ_cons, List.take_zero, List.getElem?_cons_zero, List.getElem?_cons_succ] at g0 g1 g2 g3 g4
    obtain ⟨a0, e0, _, w0⟩ := DataW.trod_int Tryz.underlying5 g0
    obtain ⟨a1, e1, _, w1⟩ := DataW.trod_int Tryz.underlying3 g1
    obtain ⟨a2, e2, _, w2⟩ := DataW.trod_int Tryz.underlying3 g2
    obtain ⟨A, l, c, e3, hi, hb⟩ := open_bytes g3
    obtain ⟨v, A2, c2, e4, hi2, hw2⟩ := open_dact g4
    injection e0 with e0 _
    injection e1 with e1 _
    injection e2 with e2 _
    subst e0 e1 e2 e3
    refine ⟨⟨a0, a1, a2, l, v⟩, A, c, A2, c2, ?_, hi, hi2, ⟨wf_u8 w0, wf_i64 w1, wf_i64 w2, hb, hw2⟩⟩
    show _ = [_, _, _, _] ++ v.vals A2 c2
    rw [← e4]
    rfl
theorem open_acts {fuel : Nat} {v : Value} {x : DataW H × List MemPlace} (h : DataW.trod enc Tryz.prog W base spare held fuel 43 [v] = some x) :
    ∃ (A : Option Addr) (l : List ActV) (c : Nat), v = .slice A l.length c ∧ l.length ≤ 9223372036854775807 ∧ ∀ (i : Nat) (hi : i < l.length), ∃ g o, A = some ⟨g, o, none⟩ ∧ ActAt W g (o + i * 10) l[i] := by
  rcases open_slice Tryz.underlying43 h with ⟨hc, _⟩ | ⟨a, len, cap, m, n, D, Pl, hc, hb, hl, hm, hmm, _, hx⟩
  · injection hc with hv _
    exact ⟨none, [], 0, hv, by decide, fun i hi => by cases hi⟩
  · injection hc with hv _
    have hlm : len ≤ m := by rw [hmm]; split <;> omega
    have hmx : maxLen ≤ 9223372036854775807 := by decide
    have hsp : 0 < len → a.spot = none := fun h0 => by
      obtain ⟨cs, h1, h2⟩ := hx 0 (by omega)
      rw [c49] at h1
      obtain ⟨_, hlen, hcell⟩ := World.cells?_some h1
      obtain ⟨q, A, c, A2, c2, e, _⟩ := open_act h2
      have h3 : W.cell? ((a.add (0 * 10)).add 0) = cs[0]? := hcell 0 (by omega)
      rw [e] at h3
      exact spot_none (show W.cell? a = some _ from h3)
    obtain ⟨f, hf⟩ := choose_lt (n := len) (p := fun i (q : ActV) => a.spot = none ∧ ActAt W a.block (a.off + i * 10) q) (fun i hi => by
      obtain ⟨cs, h1, h2⟩ := hx i (by omega)
      rw [c49] at h1
      obtain ⟨_, hlen, hcell⟩ := World.cells?_some h1
      have hat : ∀ j, j < 10 → W.cell? ((a.add (i * 10)).add j) = cs[j]? := fun j hj => hcell j hj
      obtain ⟨q, A, c, A2, c2, e, h3, h4, h5⟩ := open_act h2
      have hs := hsp (by omega)
      refine ⟨q, hs, ⟨⟨A, c, A2, c2, fun j hj => ?_, h3, h4⟩, h5⟩⟩
      rw [← e, ← hat j hj, Deep.add_add]
      obtain ⟨g, o, sp⟩ := a
      cases hs
      rw [WideShapes.add_plain, Nat.add_assoc])
    refine ⟨some a, (List.range len).map f, cap, by rw [List.length_map, List.length_range]; exact hv, by rw [List.length_map, List.length_range]; omega, fun i hi => ?_⟩
    rw [List.length_map, List.length_range] at hi
    rw [List.getElem_map, List.getElem_range]
    obtain ⟨h1, h2⟩ := hf i hi
    refine ⟨a.block, a.off, ?_, h2⟩
    obtain ⟨g, o, sp⟩ := a
    cases h1
    rfl
end
structure ActsAt (W : World) (A : Option Addr) (l : List ActV) : Prop where
  len : l.length ≤ 9223372036854775807
  at_ : ∀ (i : Nat) (hi : i < l.length), ∃ g o, A = some ⟨g, o, none⟩ ∧ ActAt W g (o + i * 10) l[i]
theorem ActAt.below {W W' : World} {g o : Nat} {v : ActV} (h : ActAt W g o v) (hb : Below W.heap.size W W') : ActAt W' g o v := by
  obtain ⟨⟨A, c, A2, c2, h1, h2, h3⟩, hw⟩ := h
  refine ⟨⟨A, c, A2, c2, fun j hj => ?_, h2.below hb, h3.below hb⟩, hw⟩
  have := h1 j hj
  cases hv : (v.vals A c A2 c2)[j]? with
  | none =>
    rw [List.getElem?_eq_none_iff] at hv
    have : (v.vals A c A2 c2).length = 10 := rfl
    omega
  | some y =>
    rw [hv] at this
    exact pw_cell_below hb this
theorem ActsAt.below {W W' : World} {A : Option Addr} {l : List ActV} (h : ActsAt W A l) (hb : Below W.heap.size W W') : ActsAt W' A l := ⟨h.len, fun i hi => by
  obtain ⟨g, o, ha, h⟩ := h.at_ i hi
  exact ⟨g, o, ha, h.below hb⟩⟩
end Go.Proofs.YtgmkbcoahilkhaaGreat.Acts
end
section
namespace Go.Proofs.YtgmkbcoahilkhaaGreat.Acts
open Go.RowKit YtgmkbcoahilkhaaGreatW.PrintWords YtgmkbcoahilkhaaGreatW.PrintLast YtgmkbcoahilkhaaGreatW.PrintMore MapFn Disk Bitset Page Num Sh
set_option maxHeartbeats 8000000
set_option maxRecDepth 100000
def fewB (l : List ActV) (most : Int) : Bool := decide ((l.length : Int) ≤ most) && l.all fun a => decide (a.body.length ≤ 400)
theorem few_any (A : Option Addr) (c : Nat) (l : List ActV) (w : World) (h : ActsAt w A l) :
    Calls Tryz.prog 26 #[.slice A l.length c, .int .i64 40] w fun e w' => e = .returned (.bool (fewB l 40)) ∧ w' = w := by
  have hmx := h.len
  have H := Hide.mk h
  obtain ⟨R, hR⟩ : ∃ R, fewB l 40 = R := ⟨_, rfl⟩
  have HR := Hide.mk hR.symm
  rw [hR]
  clear h hR
  by_cases hm : l.length ≤ 40
  · have hm1 : ¬ (40 : Int) < (l.length : Int) := by omega
    go_enter Tryz.func26, Tryz.ntmps26
    go_wp2
    go_loopw [5] (fun v5 wr => ∃ i : Nat, v5 = .int .i64 (i : Int) ∧ Hide (i ≤ l.length) ∧ Hide ((l.take i).all (fun a => decide (a.body.length ≤ 400)) = true) ∧ Hide (wr = w)) (fun v5 _ => 100 - (intOf v5).toNat)
    case atStart => exact ⟨0, by first | rfl | simp, ⟨Nat.zero_le _⟩, ⟨by simp⟩, ⟨rfl⟩⟩
    case round =>
      obtain ⟨i, rfl, hi, hall, hw⟩ := hrel
      have hwe := hw.out
      subst hwe
      by_cases hlt0 : i < l.length
      · have hlt : (i : Int) < (l.length : Int) := by omega
        have hi40 : (i : Int) ≤ 40 := by omega
        obtain ⟨g, o, rfl, hact⟩ := H.out.at_ i hlt0
        obtain ⟨Ab, cb, A2, c2, hcell, hin, _⟩ := hact.ex
        have k3 : wr.cell? ⟨g, o + i * 10 + 3, none⟩ = some (.slice Ab (l[i]).body.length cb) := hcell 3 (by omega)
        have hbm := hin.reads.2.1
        have LT := Hide.mk hlt0
        have NX := Hide.mk (show l.take (i + 1) = l.take i ++ [l[i]] by rw [List.take_add_one, List.getElem?_eq_getElem hlt0]; rfl)
        obtain ⟨n, hn⟩ : ∃ n, (l[i]).body.length = n := ⟨_, rfl⟩
        rw [hn] at k3 hbm
        have HN := Hide.mk hn
        clear hcell hin hact
        by_cases hb : n ≤ 400
        · have hb1 : ¬ (400 : Int) < (n : Int) := by omega
          go_wp2
          go_roundw
          case rel => exact ⟨i + 1, by go_num, ⟨by have := LT.out; omega⟩, ⟨by rw [NX.out, List.all_append, hall.out]; simp [HN.out, hb]⟩, ⟨by first | trivial | rfl⟩⟩
          case measure => simp [intOf]; omega
        · have hb1 : (400 : Int) < (n : Int) := by omega
          go_wp2
          go_ret
          have : R = false := by
            rw [HR.out]
            unfold fewB
            have : l.all (fun a => decide (a.body.length ≤ 400)) = false := by
              rw [List.all_eq_false]
              exact ⟨l[i], List.getElem_mem _, by rw [HN.out]; simpa using hb⟩
            rw [this, Bool.and_false]
          rw [this]
          exact ⟨rfl, rfl⟩
      · have hlt : ¬ (i : Int) < (l.length : Int) := by omega
        have E := Hide.mk (show i = l.length by have := hi.out; omega)
        go_wp2
        go_ret
        have : R = true := by
          have h1 := hall.out
          rw [E.out, List.take_length] at h1
          rw [HR.out]
          unfold fewB
          rw [h1, Bool.and_true, decide_eq_true_eq]
          omega
        rw [this]
        exact ⟨rfl, rfl⟩
  · have hm1 : (40 : Int) < (l.length : Int) := by omega
    go_enter Tryz.func26, Tryz.ntmps26
    go_wp2
    go_ret
    have : R = false := by
      rw [HR.out]
      unfold fewB
      rw [decide_eq_false (by omega), Bool.false_and]
    rw [this]
    exact ⟨rfl, rfl⟩
end Go.Proofs.YtgmkbcoahilkhaaGreat.Acts
end
section
namespace Go.Proofs.YtgmkbcoahilkhaaGreat.Sh
open Go.RowKit YtgmkbcoahilkhaaGreatW.PrintWords YtgmkbcoahilkhaaGreatW.PrintLast YtgmkbcoahilkhaaGreatW.PrintMore MapFn Disk Bitset Page Num
set_option maxHeartbeats 8000000
set_option maxRecDepth 100000
def T27_9 : Bool × List (List Nat × List Nat) := (true, [([], []), ([], []), ([], []), ([1, 2], [1, 2]), ([3], [3]), ([4], [4]), ([5], [5]), ([], []), ([], []), ([7, 8], [7, 8]), ([9], [9]), ([10], [10]), ([], []), ([12], [12]), ([], []), ([14], [14]), ([15], [15]), ([6, 11, 13, 16], [6, 11, 13, 16]), ([17], [17]), ([0, 18], [0, 18]), ([], []), ([20], [20]), ([19, 21], [19, 21]), ([22, 0, 1, 2, 3, 4, 5, 6, 7, 8, 9, 10, 11, 12, 13, 14, 15, 16, 17, 18, 19, 20, 21, 22], [0, 22])])
def B27_9 : List Nat := [0, 0, 0, 6, 14, 30, 62, 0, 0, 384, 896, 1920, 0, 4096, 0, 16384, 49152, 131070, 262142, 524287, 0, 1048576, 4194303, 8388607]
theorem tab27_9 : rtab .any (opsOf Tryz.f27 9) = T27_9 := by kernel_rfl
theorem bits27_9 : waitsOk T27_9.2 B27_9 = true := by kernel_rfl
theorem swapS {P : Program} {ops : Array Oper} {Q : Exit → Act → World → Prop} {md : Region.Mode} {S S' : World → Prop} (hS : ∀ w, S' w → S w) : ∀ (fuel : Nat) (listed : Array Bool) (a : Act) (w : World), S' w → wpAnyLast P md ops Q S' [] fuel listed a w → wpAnyLast P md ops Q S [] fuel listed a w
  | 0, _, _, _, _, h => h
  | fuel + 1, _, _, w, hw, h => ⟨h.1, fun i hi => wpOp_mono (fun a' w' h' => ⟨fun _ _ => hS _ (h'.1 (by simp) hw), swapS hS fuel _ a' w' (h'.1 (by simp) hw) h'.2⟩) (h.2 i hi)⟩
abbrev byteI (n : Int) : Int := IntKind.u8.wrap n
theorem str_append (a b : List Int) : strOfNums a ++ strOfNums b = strOfNums (a ++ b) := by
  apply ByteArray.ext
  simp [strOfNums]
def imgF : List Int → Sh → List Int → Sh × List Int × Bool
  | [], s, out => (s, out, true)
  | id :: r, s, out =>
    if (s.read id).2.2.2 ≠ 0 then ((s.read id).1, [110, 111, 110, 101], false)
    else imgF r (s.read id).1 (out ++ [byteI (id / 256), byteI id, byteI (s.read id).2.1, byteI (s.read id).2.2.1.length] ++ (s.read id).2.2.1)
def Sh.image (s : Sh) : Sh × List Int :=
  if (imgF s.ids s []).2.2 = false then ((imgF s.ids s []).1, (imgF s.ids s []).2.1)
  else ((imgF s.ids s []).1, (imgF s.ids s []).2.1 ++ [byteI ((imgF s.ids s []).1.start / 256), byteI (imgF s.ids s []).1.start])
theorem Ok.read {s : Sh} (h : Ok s) (id : Int) : Ok (s.read id).1 := by
  have hd : ∀ D, Ok ({ s with D := D } : Sh) := fun D => h.on D
  unfold Sh.read
  split
  · exact h
  · split
    · exact ⟨h.used, h.fresh, h.table, h.was, h.blocks, h.epoch, h.tabs⟩
    · simp only
      split
      · exact hd _
      · exact hd _
theorem openL_len (l : List Int) : (openL l).2.2.1.length ≤ 1000 := by
  unfold openL
  repeat' split
  all_goals first | exact Nat.zero_le _ | skip
  rename_i h1 _ _ _ _
  simp only
  rw [List.length_take, List.length_drop]
  simp at h1
  omega
theorem DB.readS {s : Sh} (h : DB s.D) (id : Int) : DB (s.read id).1.D := by
  unfold Sh.read
  repeat' split
  all_goals first | exact h | exact h.read | skip
  all_goals simp only; (repeat' split) <;> first | exact h | exact h.read
theorem read_len1 (s : Sh) (id : Int) : (s.read id).2.2.1.length ≤ 1000 := by
  unfold Sh.read
  split
  · simp
  · split
    · simp
    · simp only
      split
      · simp
      · exact openL_len _
theorem image_any (s : Sh) (w : World) (F : Foot) (h : ShAt w F s) (hk : Ok s) (hb : DB s.D) :
    Calls Tryz.prog 27 #[.pointer (some ⟨F.p, 0, none⟩)] w fun e w' => e = .returned (.string (strOfNums s.image.2)) ∧ ∃ F', ShAt w' F' s.image.1 ∧ Goes F F' w w' := by
  have HID := Hide.mk (ids_any w F s h (by have := hk.table.2.1; omega))
  have H := Hide.mk h
  have HK := Hide.mk hk
  have HB := Hide.mk hb
  clear h hk hb
  go_enter Tryz.func27, Tryz.ntmps27
  go_wp2_with (first
    | (go_at_call 21
       with_reducible refine HID.out.mono ?_
       rintro e w2 ⟨v2, rfl, ho, hb2⟩
       obtain ⟨A2, c2, hv2, hi2, hge2⟩ := In.of_own ho
       have B2 := Hide.mk hb2
       have I2 := Hide.mk hi2
       have G2 := Hide.mk hge2
       obtain ⟨n2, hn2⟩ : ∃ z, s.ids.length = z := ⟨_, rfl⟩
       rw [hn2] at hv2
       subst hv2
       have N2 := Hide.mk hn2
       have hmx := hi2.reads.2.1
       rw [hn2] at hmx
       clear ho hb2 hi2 hge2 hn2))
  have H2 := Hide.mk (H.out.below B2.out)
  have hn3 : n2 ≤ 3001 := by have h1 := N2.out; have h2 := idsF_len s.table 0; have h3 := HK.out.table.2.1; unfold Sh.ids at h1; omega
  have BG2 := Hide.mk (Goes.below (F := F) B2.out)
  have NO2 := Hide.mk (show ∀ a, A2 = some a → ¬ a.block ∈ F.own from fun a ha hx => by have := G2.out a ha; have := H.out.lts _ hx; omega)
  go_loopw [4, 5] (fun v4 v5 wr => ∃ (i : Nat) (q : Sh) (out : List Int) (F3 : Foot), v5 = .int .i64 (i : Int) ∧ v4 = .string (strOfNums out) ∧ Hide (i ≤ n2 ∧ out.length ≤ 2000 * i) ∧ Hide (ShAt wr F3 q) ∧ Hide (Goes F F3 w wr) ∧ Hide (Ok q) ∧ Hide (DB q.D) ∧ Hide (imgF s.ids s [] = imgF (s.ids.drop i) q out) ∧ Hide (In .i64 wr A2 s.ids c2) ∧ Hide (∀ a, A2 = some a → ¬ a.block ∈ F3.own)) (fun _ v5 _ => n2 - (intOf v5).toNat)
  case atStart => exact ⟨0, s, [], F, by first | rfl | simp, by first | rfl | simp [strOfNums], ⟨Nat.zero_le _, by simp⟩, H2, BG2, HK, HB, ⟨by simp⟩, I2, NO2⟩
  case round =>
    obtain ⟨i, q, out, F3, rfl, rfl, hi, hS, hG, hOk, hDb, hE, hIn, hNo⟩ := hrel
    by_cases hlt0 : i < n2
    · have hlt : (i : Int) < (n2 : Int) := by omega
      obtain ⟨x, hx⟩ : ∃ x, s.ids.drop i = x :: s.ids.drop (i + 1) := ⟨s.ids[i]'(by have := N2.out; omega), by rw [List.drop_eq_getElem_cons (by have := N2.out; omega)]⟩
      have hrdx : rd s.ids (i : Int) = x := by
        have : (s.ids.drop i)[0]? = some x := by rw [hx]; rfl
        rw [List.getElem?_drop, Nat.add_zero] at this
        simp [rd, List.getD_eq_getElem?_getD, this]
      obtain ⟨ad, rfl, hcell⟩ := Kd.at_int hIn.out.reads (i : Int) (by omega) (by have := N2.out; omega)
      rw [hrdx, Int.toNat_natCast] at hcell
      have HC := Hide.mk hcell
      have HX := Hide.mk hx
      have HRD0 := shread_any x wr F3 q hS.out hOk.out hDb.out.get
      obtain ⟨q2, rk, rb, re, hre⟩ : ∃ q2 rk rb re, q.read x = (q2, rk, rb, re) := ⟨_, _, _, _, rfl⟩
      rw [hre, hG.out.p] at HRD0
      simp only at HRD0
      have HRD := Hide.mk HRD0
      have HRE := Hide.mk hre
      have LT := Hide.mk hlt0
      have OL := Hide.mk (show out.length ≤ 2000 * 3001 by have := hi.out.2; have := hi.out.1; omega)
      have RL := Hide.mk (show rb.length ≤ 1000 by have := read_len1 q x; rw [hre] at this; exact this)
      clear HRD0 hre hrdx hx hlt0
      by_cases h0 : re = 0
      · subst h0
        go_wp2_with (first
          | (go_at_call 57
             with_reducible refine HRD.out.mono ?_
             rintro e w5 ⟨v5, rfl, ho, F5, hs, hg⟩
             obtain ⟨A7, c7, hv7, hi7, hge7⟩ := In.of_own ho
             obtain ⟨n7, hn7⟩ : ∃ z, rb.length = z := ⟨_, rfl⟩
             rw [hn7] at hv7
             subst hv7
             have I7 := Hide.mk hi7
             have N7 := Hide.mk hn7
             have S5 := Hide.mk hs
             have G5 := Hide.mk hg
             have I5 := Hide.mk (hIn.out.moves hg.moves hNo.out)
             have hmx7 := hi7.reads.2.1
             rw [hn7] at hmx7
             clear ho hi7 hge7 hn7 hs hg))
        have hdr := below_drew (Below.refl w5.heap.size w5)
        have HDR := Hide.mk hdr
        obtain ⟨ad2, had2, hc2⟩ := Kd.at_int (I5.out.below hdr).reads (i : Int) (by omega) (by have := N2.out; have := LT.out; omega)
        cases had2
        have hrdx : rd s.ids (i : Int) = x := by
          have : (s.ids.drop i)[0]? = some x := by rw [HX.out]; rfl
          rw [List.getElem?_drop, Nat.add_zero] at this
          simp [rd, List.getD_eq_getElem?_getD, this]
        rw [hrdx, Int.toNat_natCast] at hc2
        have i7 := I7.out.below hdr
        have KC := And.intro hc2 (show (convert 22 9 (.slice A7 n7 c7)).run Tryz.prog w5.drew = .ok (.string (strOfNums rb)) w5.drew from by
          have := N7.out
          subst this
          exact Kd.C_string Tryz.underlying22 Tryz.underlying5 Tryz.underlying9 i7.reads)
        clear hdr hc2 hrdx i7
        refine start_ (n := 24) (S := fun w' => w'.cell? (ad.add i) = some (.int .i64 x) ∧ (convert 22 9 (.slice A7 n7 c7)).run Tryz.prog w' = .ok (.string (strOfNums rb)) w') (ds := []) #[false, false, false, false, false, false, false, false, false, false, false, false, false, false, false, false, false, false, false, false, false, false, false, false] (by kernel_rfl) rfl rfl KC (fun hHeld => ?_); refine with_tabW tab27_9 bits27_9 (fun HT_ HW_ => ?_)
        refine pure_ (i := 0) (N := some 29) (v := ?_) (a' := ?_) #[true, false, false, false, false, false, false, false, false, false, false, false, false, false, false, false, false, false, false, false, false, false, false, false] rfl rfl (any_of HT_.out (by kernel_rfl)) (fun _ _ _ h => h) (Or.inl ⟨by rfl, ?_⟩) ?_ ?_
        rotate_left
        · intro w'
          go_simp
          with_reducible rfl
        rotate_left
        · simp only [Act.put, List.setIfInBounds_toArray, List.set_cons_zero, List.set_cons_succ, i64_w, i32_w]
          rfl
        refine pure_ (i := 1) (N := some 30) (v := ?_) (a' := ?_) #[true, true, false, false, false, false, false, false, false, false, false, false, false, false, false, false, false, false, false, false, false, false, false, false] rfl rfl (any_of HT_.out (by kernel_rfl)) (fun _ _ _ h => h) (Or.inl ⟨by rfl, ?_⟩) ?_ ?_
        rotate_left
        · intro w'
          go_simp
          with_reducible rfl
        rotate_left
        · simp only [Act.put, List.setIfInBounds_toArray, List.set_cons_zero, List.set_cons_succ, i64_w, i32_w]
          rfl
        refine pure_ (i := 2) (N := some 31) (v := ?_) (a' := ?_) #[true, true, true, false, false, false, false, false, false, false, false, false, false, false, false, false, false, false, false, false, false, false, false, false] rfl rfl (any_of HT_.out (by kernel_rfl)) (fun _ _ _ h => h) (Or.inl ⟨by rfl, ?_⟩) ?_ ?_
        rotate_left
        · intro w'
          go_simp
          with_reducible rfl
        rotate_left
        · simp only [Act.put, List.setIfInBounds_toArray, List.set_cons_zero, List.set_cons_succ, i64_w, i32_w]
          rfl
        refine pure_ (i := 3) (N := some 32) (v := ?_) (a' := ?_) #[true, true, true, true, false, false, false, false, false, false, false, false, false, false, false, false, false, false, false, false, false, false, false, false] rfl rfl (any_of HT_.out (by kernel_rfl)) (fun _ _ _ h => h) (Or.inl ⟨by rfl, ?_⟩) ?_ ?_
        rotate_left
        · intro w'
          go_simp
          with_reducible rfl
        rotate_left
        · simp only [Act.put, List.setIfInBounds_toArray, List.set_cons_zero, List.set_cons_succ, i64_w, i32_w]
          rfl
        refine take_ (i := 4) (N := some 33) (v := ?_) (a' := ?_) #[true, true, true, true, true, false, false, false, false, false, false, false, false, false, false, false, false, false, false, false, false, false, false, false] rfl rfl (take_ofW HT_.out HW_.out (by kernel_rfl)) (fun _ _ _ h => h) (Or.inl ⟨by rfl, ?_⟩) hHeld ?_ ?_
        rotate_left
        · intro w' hS'
          have s1 := hS'.1
          go_simp
          rfl
        rotate_left
        · simp only [Act.put, List.setIfInBounds_toArray, List.set_cons_zero, List.set_cons_succ, i64_w, i32_w]
          rfl
        refine pure_ (i := 5) (N := some 34) (v := ?_) (a' := ?_) #[true, true, true, true, true, true, false, false, false, false, false, false, false, false, false, false, false, false, false, false, false, false, false, false] rfl rfl (any_of HT_.out (by kernel_rfl)) (fun _ _ _ h => h) (Or.inl ⟨by rfl, ?_⟩) ?_ ?_
        rotate_left
        · intro w'
          go_simp
          with_reducible rfl
        rotate_left
        · simp only [Act.put, List.setIfInBounds_toArray, List.set_cons_zero, List.set_cons_succ, i64_w, i32_w]
          rfl
        refine pure_ (i := 6) (N := some 35) (v := ?_) (a' := ?_) #[true, true, true, true, true, true, true, false, false, false, false, false, false, false, false, false, false, false, false, false, false, false, false, false] rfl rfl (any_of HT_.out (by kernel_rfl)) (fun _ _ _ h => h) (Or.inl ⟨by rfl, ?_⟩) ?_ ?_
        rotate_left
        · intro w'
          go_simp
          with_reducible rfl
        rotate_left
        · simp only [Act.put, List.setIfInBounds_toArray, List.set_cons_zero, List.set_cons_succ, i64_w, i32_w]
          rfl
        refine pure_ (i := 7) (N := some 36) (v := ?_) (a' := ?_) #[true, true, true, true, true, true, true, true, false, false, false, false, false, false, false, false, false, false, false, false, false, false, false, false] rfl rfl (any_of HT_.out (by kernel_rfl)) (fun _ _ _ h => h) (Or.inl ⟨by rfl, ?_⟩) ?_ ?_
        rotate_left
        · intro w'
          go_simp
          with_reducible rfl
        rotate_left
        · simp only [Act.put, List.setIfInBounds_toArray, List.set_cons_zero, List.set_cons_succ, i64_w, i32_w]
          rfl
        refine pure_ (i := 8) (N := some 37) (v := ?_) (a' := ?_) #[true, true, true, true, true, true, true, true, true, false, false, false, false, false, false, false, false, false, false, false, false, false, false, false] rfl rfl (any_of HT_.out (by kernel_rfl)) (fun _ _ _ h => h) (Or.inl ⟨by rfl, ?_⟩) ?_ ?_
        rotate_left
        · intro w'
          go_simp
          with_reducible rfl
        rotate_left
        · simp only [Act.put, List.setIfInBounds_toArray, List.set_cons_zero, List.set_cons_succ, i64_w, i32_w]
          rfl
        refine pure_ (i := 9) (N := some 38) (v := ?_) (a' := ?_) #[true, true, true, true, true, true, true, true, true, true, false, false, false, false, false, false, false, false, false, false, false, false, false, false] rfl rfl (any_of HT_.out (by kernel_rfl)) (fun _ _ _ h => h) (Or.inl ⟨by rfl, ?_⟩) ?_ ?_
        rotate_left
        · intro w'
          go_simp
          with_reducible rfl
        rotate_left
        · simp only [Act.put, List.setIfInBounds_toArray, List.set_cons_zero, List.set_cons_succ, i64_w, i32_w]
          rfl
        refine take_ (i := 10) (N := some 39) (v := ?_) (a' := ?_) #[true, true, true, true, true, true, true, true, true, true, true, false, false, false, false, false, false, false, false, false, false, false, false, false] rfl rfl (take_ofW HT_.out HW_.out (by kernel_rfl)) (fun _ _ _ h => h) (Or.inl ⟨by rfl, ?_⟩) hHeld ?_ ?_
        rotate_left
        · intro w' hS'
          have s1 := hS'.1
          go_simp
          rfl
        rotate_left
        · simp only [Act.put, List.setIfInBounds_toArray, List.set_cons_zero, List.set_cons_succ, i64_w, i32_w]
          rfl
        refine pure_ (i := 11) (N := some 40) (v := ?_) (a' := ?_) #[true, true, true, true, true, true, true, true, true, true, true, true, false, false, false, false, false, false, false, false, false, false, false, false] rfl rfl (any_of HT_.out (by kernel_rfl)) (fun _ _ _ h => h) (Or.inl ⟨by rfl, ?_⟩) ?_ ?_
        rotate_left
        · intro w'
          go_simp
          with_reducible rfl
        rotate_left
        · simp only [Act.put, List.setIfInBounds_toArray, List.set_cons_zero, List.set_cons_succ, i64_w, i32_w]
          rfl
        refine pure_ (i := 12) (N := some 41) (v := ?_) (a' := ?_) #[true, true, true, true, true, true, true, true, true, true, true, true, true, false, false, false, false, false, false, false, false, false, false, false] rfl rfl (any_of HT_.out (by kernel_rfl)) (fun _ _ _ h => h) (Or.inl ⟨by rfl, ?_⟩) ?_ ?_
        rotate_left
        · intro w'
          go_simp
          with_reducible rfl
        rotate_left
        · simp only [Act.put, List.setIfInBounds_toArray, List.set_cons_zero, List.set_cons_succ, i64_w, i32_w]
          rfl
        refine pure_ (i := 13) (N := some 42) (v := ?_) (a' := ?_) #[true, true, true, true, true, true, true, true, true, true, true, true, true, true, false, false, false, false, false, false, false, false, false, false] rfl rfl (any_of HT_.out (by kernel_rfl)) (fun _ _ _ h => h) (Or.inl ⟨by rfl, ?_⟩) ?_ ?_
        rotate_left
        · intro w'
          go_simp
          with_reducible rfl
        rotate_left
        · simp only [Act.put, List.setIfInBounds_toArray, List.set_cons_zero, List.set_cons_succ, i64_w, i32_w]
          rfl
        refine pure_ (i := 14) (N := some 43) (v := ?_) (a' := ?_) #[true, true, true, true, true, true, true, true, true, true, true, true, true, true, true, false, false, false, false, false, false, false, false, false] rfl rfl (any_of HT_.out (by kernel_rfl)) (fun _ _ _ h => h) (Or.inl ⟨by rfl, ?_⟩) ?_ ?_
        rotate_left
        · intro w'
          go_simp
          with_reducible rfl
        rotate_left
        · simp only [Act.put, List.setIfInBounds_toArray, List.set_cons_zero, List.set_cons_succ, i64_w, i32_w]
          rfl
        refine pure_ (i := 15) (N := some 44) (v := ?_) (a' := ?_) #[true, true, true, true, true, true, true, true, true, true, true, true, true, true, true, true, false, false, false, false, false, false, false, false] rfl rfl (any_of HT_.out (by kernel_rfl)) (fun _ _ _ h => h) (Or.inl ⟨by rfl, ?_⟩) ?_ ?_
        rotate_left
        · intro w'
          go_simp
          with_reducible rfl
        rotate_left
        · simp only [Act.put, List.setIfInBounds_toArray, List.set_cons_zero, List.set_cons_succ, i64_w, i32_w]
          rfl
        refine pure_ (i := 16) (N := some 45) (v := ?_) (a' := ?_) #[true, true, true, true, true, true, true, true, true, true, true, true, true, true, true, true, true, false, false, false, false, false, false, false] rfl rfl (any_of HT_.out (by kernel_rfl)) (fun _ _ _ h => h) (Or.inl ⟨by rfl, ?_⟩) ?_ ?_
        rotate_left
        · intro w'
          go_simp
          with_reducible rfl
        rotate_left
        · simp only [Act.put, List.setIfInBounds_toArray, List.set_cons_zero, List.set_cons_succ, i64_w, i32_w]
          rfl
        refine pure_ (i := 20) (N := some 49) (v := ?_) (a' := ?_) #[true, true, true, true, true, true, true, true, true, true, true, true, true, true, true, true, true, false, false, false, true, false, false, false] rfl rfl (any_of HT_.out (by kernel_rfl)) (fun _ _ _ h => h) (Or.inl ⟨by rfl, ?_⟩) ?_ ?_
        rotate_left
        · intro w'
          go_simp
          with_reducible rfl
        rotate_left
        · simp only [Act.put, List.setIfInBounds_toArray, List.set_cons_zero, List.set_cons_succ, i64_w, i32_w]
          rfl
        refine take_ (i := 21) (N := some 50) (v := ?_) (a' := ?_) #[true, true, true, true, true, true, true, true, true, true, true, true, true, true, true, true, true, false, false, false, true, true, false, false] rfl rfl (take_ofW HT_.out HW_.out (by kernel_rfl)) (fun _ _ _ h => h) (Or.inl ⟨by rfl, ?_⟩) hHeld ?_ ?_
        rotate_left
        · intro w' hS'
          have s1 := by first | exact hS'.2.1 | exact hS'.2
          go_simp
          rfl
        rotate_left
        · simp only [Act.put, List.setIfInBounds_toArray, List.set_cons_zero, List.set_cons_succ, i64_w, i32_w]
          rfl
        refine one_ (i := 17) (N := some 46) #[true, true, true, true, true, true, true, true, true, true, true, true, true, true, true, true, true, true, false, false, true, true, false, false] rfl rfl (one_of HT_.out (by kernel_rfl)) (by decide) (fun K hK => ?_)
        obtain ⟨W1, hW1⟩ : ∃ W, w5.drew.alloc (.cells (encB [byteI (x / 256), byteI x, byteI rk, byteI (n7 : Int)]) 5) = W := ⟨_, rfl⟩
        have hB1 : Below w5.drew.heap.size w5.drew W1 := by rw [← hW1]; exact (Below.refl _ _).alloc (Nat.le_refl _) _
        have row1 : W1.heap[w5.heap.size]? = some (.cells (encB [byteI (x / 256), byteI x, byteI rk, byteI (n7 : Int)]) 5 (0, 0)) := by rw [← hW1]; exact heap_last w5.drew _
        have cv1 : (convert 22 9 (.slice (some ⟨w5.heap.size, 0, none⟩) 4 4)).run Tryz.prog W1 = .ok (.string (strOfNums [byteI (x / 256), byteI x, byteI rk, byteI (n7 : Int)])) W1 := Kd.C_string Tryz.underlying22 Tryz.underlying5 Tryz.underlying9 (C_of_rowF (l := [byteI (x / 256), byteI x, byteI rk, byteI (n7 : Int)]) row1 (by simp))
        have cv7 : (convert 22 9 (.slice A7 n7 c7)).run Tryz.prog W1 = .ok (.string (strOfNums rb)) W1 := by have h7 := (I7.out.below (HDR.out)).below hB1; have := N7.out; subst this; exact Kd.C_string Tryz.underlying22 Tryz.underlying5 Tryz.underlying9 h7.reads
        have K1 := And.intro (pw_cell_below hB1 KC.1) (And.intro cv7 cv1)
        have BW1 := Hide.mk hB1
        have KS := And.intro K1.1 K1.2.1
        refine value_ (v := .slice (some ⟨w5.heap.size, 0, none⟩) 4 4) (w1 := W1) (by rfl) rfl ?_ ?_
        · go_simp
          exact hW1
        refine hK.out _ _ KS (fun hHeld => ?_)
        clear hK K
        refine norm_ (a' := ?_) ?_ ?_
        rotate_left
        · show Act.put _ (some 46) _ = _
          simp only [Act.put, List.setIfInBounds_toArray, List.set_cons_zero, List.set_cons_succ, i64_w, i32_w]
          rfl
        have hHeld2 : (fun w' => w'.cell? (ad.add i) = some (.int .i64 x) ∧ (convert 22 9 (.slice A7 n7 c7)).run Tryz.prog w' = .ok (.string (strOfNums rb)) w' ∧ (convert 22 9 (.slice (some ⟨w5.heap.size, 0, none⟩) 4 4)).run Tryz.prog w' = .ok (.string (strOfNums [byteI (x / 256), byteI x, byteI rk, byteI (n7 : Int)])) w') _ := K1
        refine swapS (S' := fun w' => w'.cell? (ad.add i) = some (.int .i64 x) ∧ (convert 22 9 (.slice A7 n7 c7)).run Tryz.prog w' = .ok (.string (strOfNums rb)) w' ∧ (convert 22 9 (.slice (some ⟨w5.heap.size, 0, none⟩) 4 4)).run Tryz.prog w' = .ok (.string (strOfNums [byteI (x / 256), byteI x, byteI rk, byteI (n7 : Int)])) w') (fun w' h => ⟨h.1, h.2.1⟩) _ _ _ _ hHeld2 ?_
        clear hHeld
        have hHeld := hHeld2
        clear hHeld2
        refine take_ (i := 18) (N := some 47) (v := ?_) (a' := ?_) #[true, true, true, true, true, true, true, true, true, true, true, true, true, true, true, true, true, true, true, false, true, true, false, false] rfl rfl (take_ofW HT_.out HW_.out (by kernel_rfl)) (fun _ _ _ h => h) (Or.inl ⟨by rfl, ?_⟩) hHeld ?_ ?_
        rotate_left
        · intro w' hS'
          have s1 := hS'.2.2
          go_simp
          rfl
        rotate_left
        · simp only [Act.put, List.setIfInBounds_toArray, List.set_cons_zero, List.set_cons_succ, i64_w, i32_w]
          rfl
        refine pure_ (i := 19) (N := some 48) (v := ?_) (a' := ?_) #[true, true, true, true, true, true, true, true, true, true, true, true, true, true, true, true, true, true, true, true, true, true, false, false] rfl rfl (any_of HT_.out (by kernel_rfl)) (fun _ _ _ h => h) (Or.inl ⟨by rfl, ?_⟩) ?_ ?_
        rotate_left
        · intro w'
          go_simp
          rw [if_neg (by rw [strOfNums_size, strOfNums_size]; have := OL.out; simp only [List.length_cons, List.length_nil]; omega), str_append]
        rotate_left
        · simp only [Act.put, List.setIfInBounds_toArray, List.set_cons_zero, List.set_cons_succ, i64_w, i32_w]
          rfl
        refine pure_ (i := 22) (N := some 51) (v := ?_) (a' := ?_) #[true, true, true, true, true, true, true, true, true, true, true, true, true, true, true, true, true, true, true, true, true, true, true, false] rfl rfl (any_of HT_.out (by kernel_rfl)) (fun _ _ _ h => h) (Or.inl ⟨by rfl, ?_⟩) ?_ ?_
        rotate_left
        · intro w'
          go_simp
          rw [if_neg (by rw [strOfNums_size, strOfNums_size]; have := OL.out; have := RL.out; simp only [List.length_append, List.length_cons, List.length_nil]; omega), str_append]
        rotate_left
        · simp only [Act.put, List.setIfInBounds_toArray, List.set_cons_zero, List.set_cons_succ, i64_w, i32_w]
          rfl
        refine pure_ (i := 23) (N := some 4) (v := ?_) (a' := ?_) #[true, true, true, true, true, true, true, true, true, true, true, true, true, true, true, true, true, true, true, true, true, true, true, true] rfl rfl (any_of HT_.out (by kernel_rfl)) (fun _ _ _ h => h) (Or.inl ⟨by rfl, ?_⟩) ?_ ?_
        rotate_left
        · intro w'
          go_simp
          with_reducible rfl
        rotate_left
        · simp only [Act.put, List.setIfInBounds_toArray, List.set_cons_zero, List.set_cons_succ, i64_w, i32_w]
          rfl
        refine done_ (done_of HT_.out (by kernel_rfl)) ?_
        clear hHeld
        go_wp2
        go_roundw
        case rel =>
          refine ⟨i + 1, q2, _, F5, by go_num, rfl, ⟨by have := LT.out; omega, ?_⟩, ⟨(S5.out.below HDR.out).below BW1.out⟩, ⟨(hG.out.trans G5.out).trans (Goes.below (HDR.out.trans (BW1.out.mono HDR.out.size)))⟩, ⟨?_⟩, ⟨?_⟩, ⟨?_⟩, ⟨(I5.out.below HDR.out).below BW1.out⟩, ⟨?_⟩⟩
          · have h1 := hi.out.2
            have h2 := RL.out
            simp only [List.length_append, List.length_cons]
            omega
          · have := hOk.out.read x
            rw [HRE.out] at this
            exact this
          · have := DB.readS hDb.out x
            rw [HRE.out] at this
            exact this
          · rw [hE.out, HX.out, imgF, HRE.out, if_neg (by simp)]
            simp [N7.out]
          · intro a ha hx
            rcases G5.out.own _ hx with e | e
            · exact hNo.out a ha e
            · have := hIn.out.lt a ha
              omega
        case measure => have := LT.out; simp [intOf]; omega
      · have q0 : (re != 0) = true := by simp [h0]
        go_wp2_with (first
          | (go_at_call 57
             with_reducible refine HRD.out.mono ?_
             rintro e w5 ⟨v5, rfl, ho, F5, hs, hg⟩
             obtain ⟨A7, c7, hv7, hi7, hge7⟩ := In.of_own ho
             subst hv7
             have S5 := Hide.mk hs
             have G5 := Hide.mk hg
             clear ho hi7 hge7 hs hg))
        go_ret
        have e1 : imgF s.ids s [] = (q2, [110, 111, 110, 101], false) := by rw [hE.out, HX.out, imgF, HRE.out, if_pos h0]
        unfold Sh.image
        rw [e1]
        exact ⟨rfl, F5, S5.out, hG.out.trans G5.out⟩
    · have hlt : ¬ (i : Int) < (n2 : Int) := by omega
      have e1 : imgF s.ids s [] = (q, out, true) := by
        rw [hE.out, List.drop_eq_nil_of_le (by have := N2.out; omega)]
        rfl
      have HE1 := Hide.mk e1
      have HST0 := start_any wr F3 q hS.out
      rw [hG.out.p] at HST0
      have HST := Hide.mk HST0
      have BW := Hide.mk ((Below.refl wr.heap.size wr).alloc (Nat.le_refl _) (.cells (encB [q.start / 256 % 256, q.start % 256]) 5))
      have cv : (convert 22 9 (.slice (some ⟨wr.heap.size, 0, none⟩) 2 2)).run Tryz.prog (wr.alloc (.cells #[.int .u8 (q.start / 256 % 256), .int .u8 (q.start % 256)] 5)) = .ok (.string (strOfNums [q.start / 256 % 256, q.start % 256])) (wr.alloc (.cells #[.int .u8 (q.start / 256 % 256), .int .u8 (q.start % 256)] 5)) :=
        Kd.C_string Tryz.underlying22 Tryz.underlying5 Tryz.underlying9 (C_of_rowF (l := [q.start / 256 % 256, q.start % 256]) (heap_last wr (.cells (encB [q.start / 256 % 256, q.start % 256]) 5)) (by simp))
      have hsz : ¬ 9223372036854775807 < (strOfNums out).size + (strOfNums [q.start / 256 % 256, q.start % 256]).size := by
        rw [strOfNums_size, strOfNums_size]
        have := hi.out.2
        have := hi.out.1
        simp only [List.length_cons, List.length_nil]
        omega
      clear e1 HST0 hlt0
      go_wp2_with (first
        | (go_at_call 70
           with_reducible refine HST.out.mono ?_
           rintro e w6 ⟨rfl, hw6⟩
           have hw7 := hw6.symm
           subst hw7))
      go_ret
      unfold Sh.image
      rw [HE1.out, if_neg (by simp)]
      simp only [byteI, IntKind.wrap_u8]
      rw [← str_append]
      exact ⟨rfl, F3, hS.out.below BW.out, hG.out.trans (Goes.below BW.out)⟩
end Go.Proofs.YtgmkbcoahilkhaaGreat.Sh
end
section
namespace Go.Proofs.YtgmkbcoahilkhaaGreat.Sh
open Go.RowKit YtgmkbcoahilkhaaGreatW.PrintWords YtgmkbcoahilkhaaGreatW.PrintLast YtgmkbcoahilkhaaGreatW.PrintMore MapFn Disk Page Num Bitset
set_option maxRecDepth 100000
def imgP (g : Int → List Int) (t : List Int) (id : Int) : List Int :=
  [byteI (id / 256), byteI id, byteI (openL (g (t.getD id.toNat 0))).1, byteI (openL (g (t.getD id.toNat 0))).2.2.1.length] ++ (openL (g (t.getD id.toNat 0))).2.2.1
def imgOf (g : Int → List Int) (t : List Int) (start : Int) : List Int := (idsF t 0).flatMap (imgP g t) ++ [byteI (start / 256), byteI start]
theorem flatMap_same {α : Type} {f g : α → List Int} : ∀ {l : List α}, (∀ x ∈ l, f x = g x) → l.flatMap f = l.flatMap g
  | [], _ => rfl
  | x :: r, h => by rw [List.flatMap_cons, List.flatMap_cons, h x (by simp), flatMap_same fun y hy => h y (by simp [hy])]
theorem ids_of {t : List Int} {x : Int} (h : x ∈ idsF t 0) : ∃ j : Nat, x = (j : Int) ∧ t.getD j 0 ≠ 0 := by
  obtain ⟨j, h1, h2, h3⟩ := (ids_mem t 0 x).1 h
  exact ⟨j, by omega, h2⟩
theorem imgOf_same {g g' : Int → List Int} {t : List Int} (start : Int) (h : ∀ i, t.getD i 0 ≠ 0 → g' (t.getD i 0) = g (t.getD i 0)) : imgOf g' t start = imgOf g t start := by
  unfold imgOf
  rw [flatMap_same (f := imgP g' t) (g := imgP g t) fun x hx => by
    obtain ⟨j, rfl, hj⟩ := ids_of hx
    unfold imgP
    rw [Int.toNat_natCast, h j hj]]
theorem Inv.reads {N : Int} {s : Sh} (h : Inv N s) (k : Int) : Inv N ({ s with D := { s.D with reads := k } } : Sh) :=
  ⟨h.bad, h.up, h.blocks, h.fit, h.hold, h.used, h.len, h.zero, h.last, h.ent, h.inj, h.page, h.freshB, h.fresh, h.start, h.clean, h.loose⟩
theorem Inv.at_ {N : Int} {s : Sh} (h : Inv N s) {n : Int} (h0 : 0 ≤ n) (h1 : n < N) : s.D.at_ n = 0 := by
  unfold DiskSt.at_
  rw [h.up, if_neg (by simp), if_neg (by rw [h.blocks]; omega)]
theorem Inv.read {N : Int} {s : Sh} (h : Inv N s) {j : Nat} (hj : s.table.getD j 0 ≠ 0) :
    s.read (j : Int) = ({ s with D := s.D.read }, (openL (s.D.get (s.table.getD j 0))).1, (openL (s.D.get (s.table.getD j 0))).2.2.1, 0) := by
  obtain ⟨n, e1, e2, e3, _⟩ := h.ent j hj
  obtain ⟨k, b, q1, q2, q3⟩ := h.page j hj
  have hb : s.block (j : Int) = (s.table.getD j 0, 0) := by
    unfold Sh.block
    rw [if_neg (by rw [h.alive]; simp), if_neg, Int.toNat_natCast]
    rintro (c | c | c)
    · have : j = 0 := by omega
      rw [this] at hj
      exact hj h.zero
    · have := (mem_getD hj).2
      omega
    · rw [Int.toNat_natCast] at c
      exact hj c
  unfold Sh.read
  rw [hb]
  simp only
  rw [if_neg (by simp), if_neg (by rw [h.at_ (by omega) (by omega)]; simp), q3, open_seal k j b q2 q1]
  simp
theorem imgF_inv {N : Int} : ∀ (ids : List Int) (s : Sh) (out : List Int), Inv N s → (∀ x ∈ ids, ∃ j : Nat, x = (j : Int) ∧ s.table.getD j 0 ≠ 0) → ∃ k, imgF ids s out = ({ s with D := { s.D with reads := k } }, out ++ ids.flatMap (imgP s.D.get s.table), true)
  | [], s, out, h, _ => ⟨s.D.reads, by simp [imgF]⟩
  | x :: r, s, out, h, hx => by
    obtain ⟨j, rfl, hj⟩ := hx x (by simp)
    have hr := h.read hj
    obtain ⟨k, e⟩ := imgF_inv r ({ s with D := s.D.read } : Sh) (out ++ imgP s.D.get s.table (j : Int)) (h.reads _) (fun y hy => hx y (by simp [hy]))
    refine ⟨k, ?_⟩
    rw [imgF, hr]
    simp only
    rw [if_neg (by simp)]
    have e0 : out ++ [byteI ((j : Int) / 256), byteI (j : Int), byteI (openL (s.D.get (s.table.getD j 0))).1, byteI (openL (s.D.get (s.table.getD j 0))).2.2.1.length] ++ (openL (s.D.get (s.table.getD j 0))).2.2.1 = out ++ imgP s.D.get s.table (j : Int) := by
      unfold imgP
      rw [Int.toNat_natCast, List.append_assoc]
    rw [e0, e, List.flatMap_cons]
    simp only [List.append_assoc]
    rfl
theorem image_inv {N : Int} {s : Sh} (h : Inv N s) : ∃ k, s.image = ({ s with D := { s.D with reads := k } }, imgOf s.D.get s.table s.start) := by
  obtain ⟨k, e⟩ := imgF_inv s.ids s [] h (fun x hx => ids_of hx)
  refine ⟨k, ?_⟩
  unfold Sh.image
  rw [e, if_neg (by simp)]
  simp only [List.nil_append]
  rfl
theorem toNat_nodup {l : List Int} (h : l.Nodup) (h0 : ∀ x ∈ l, 0 ≤ x) : (l.map Int.toNat).Nodup := by
  induction l with
  | nil => exact List.nodup_nil
  | cons x r ih =>
    obtain ⟨h1, h2⟩ := List.nodup_cons.1 h
    rw [List.map_cons]
    refine List.nodup_cons.2 ⟨fun q => ?_, ih h2 fun y hy => h0 y (by simp [hy])⟩
    obtain ⟨y, hy, e⟩ := List.mem_map.1 q
    have a := h0 x (by simp)
    have b := h0 y (by simp [hy])
    exact h1 (by rw [show x = y by omega]; exact hy)
theorem used_count {N : Int} {s : Sh} (h : Inv N s) (hd : s.dirty = false) : s.usedN = 2 + s.ids.length + (2 * (s.table.length - 1) + 245) / 246 + mapsOf N := by
  obtain ⟨ht, _⟩ := h.clean hd
  have hf := h.fit
  have hm : ∀ x ∈ s.root.tables ++ (s.root.maps ++ s.was.filter (fun n => n != 0)), 2 ≤ x := fun x hx => by
    rw [← List.append_assoc] at hx
    rcases List.mem_append.1 hx with q | q
    · exact (hf.each x q).1
    · obtain ⟨q1, q2⟩ := List.mem_filter.1 q
      rcases hf.ent x q1 with c | c
      · rw [c] at q2; simp at q2
      · exact c.1
  have hn : (0 :: 1 :: (s.root.tables ++ (s.root.maps ++ s.was.filter (fun n => n != 0))).map Int.toNat).Nodup := by
    have h1 := toNat_nodup hf.nodup fun x hx => by have := hm x hx; omega
    have h2 : ∀ j ∈ (s.root.tables ++ (s.root.maps ++ s.was.filter (fun n => n != 0))).map Int.toNat, 2 ≤ j := fun j hj => by
      obtain ⟨x, hx, rfl⟩ := List.mem_map.1 hj
      have := hm x hx
      omega
    refine List.nodup_cons.2 ⟨fun q => ?_, List.nodup_cons.2 ⟨fun q => ?_, h1⟩⟩
    · rcases List.mem_cons.1 q with q | q
      · cases q
      · have := h2 _ q
        omega
    · have := h2 _ q
      omega
  have hc := count_of (l := s.taken) hn fun j => by
    rw [h.taken, h.used]
    have hfr : hasN s.fresh j = true → hasN (usedL s.root s.was) j = true := fun q => by
      obtain ⟨q1, q2, i, q3⟩ := (h.fresh j).1 q
      rw [ht] at q3
      exact (hf.dur j).2 (.inr (.inr (.inr (.inr (by rw [← q3]; exact (mem_getD (by rw [q3]; omega)).1)))))
    have e1 : (hasN (usedL s.root s.was) j || hasN s.fresh j) = true ↔ Dur s.root s.was j := by
      rw [Bool.or_eq_true, ← hf.dur j]
      exact ⟨fun q => q.elim id hfr, .inl⟩
    rw [e1]
    simp only [List.mem_cons, List.mem_map, List.mem_append]
    constructor
    · rintro (q | q | q | q | q)
      · exact .inl (by omega)
      · exact .inr (.inl (by omega))
      · exact .inr (.inr ⟨j, .inl q, by simp⟩)
      · exact .inr (.inr ⟨j, .inr (.inl q), by simp⟩)
      · by_cases c : (j : Int) = 0
        · exact .inl (by omega)
        · exact .inr (.inr ⟨j, .inr (.inr (List.mem_filter.2 ⟨q, by simpa using c⟩)), by simp⟩)
    · rintro (q | q | ⟨x, q, e⟩)
      · exact .inl (by omega)
      · exact .inr (.inl (by omega))
      · have hx2 := hm x (by simpa [List.mem_append] using q)
        have : x = (j : Int) := by omega
        subst this
        rcases q with q | q | q
        · exact .inr (.inr (.inl q))
        · exact .inr (.inr (.inr (.inl q)))
        · exact .inr (.inr (.inr (.inr (List.mem_filter.1 q).1)))
  unfold Sh.usedN
  rw [hc]
  have l1 := h.hold.tabs.len
  have l2 := h.hold.maps.len
  rw [pieces_num] at l1
  rw [mapsOf_count _ _ hf.blocks] at l2
  unfold Sh.ids
  rw [ids_count, ht]
  simp only [List.length_cons, List.length_map, List.length_append]
  omega
theorem ids_last : ∀ (l : List Int) (i : Nat), l.getD (l.length - 1) 0 ≠ 0 → (idsF l i).getLast? = some ((i + (l.length - 1) : Nat) : Int)
  | [], i, h => by simp at h
  | [n], i, h => by
    have : n ≠ 0 := by simpa using h
    simp [idsF, this]
  | n :: m :: r, i, h => by
    have ih := ids_last (m :: r) (i + 1) (by simpa using h)
    rw [idsF]
    have e : (i + ((n :: m :: r).length - 1)) = (i + 1 + ((m :: r).length - 1)) := by simp; omega
    rw [e]
    split
    · cases hl : idsF (m :: r) (i + 1) with
      | nil => rw [hl] at ih; cases ih
      | cons y ys => rw [hl] at ih; rw [List.getLast?_cons_cons]; exact ih
    · exact ih
theorem Inv.idsLast {N : Int} {s : Sh} (h : Inv N s) : (1 < s.table.length → 0 < s.ids.length ∧ rd s.ids ((s.ids.length - 1 : Nat) : Int) = ((s.table.length - 1 : Nat) : Int)) ∧ (s.table.length = 1 → s.ids = []) := by
  constructor
  · intro hl
    have := ids_last s.table 0 (h.last hl)
    rw [Nat.zero_add] at this
    have e : s.ids.getLast? = some ((s.table.length - 1 : Nat) : Int) := this
    have hp : 0 < s.ids.length := by
      cases hi : s.ids with
      | nil => rw [hi] at e; cases e
      | cons y ys => simp
    refine ⟨hp, ?_⟩
    rw [List.getLast?_eq_getElem?] at e
    simp [rd, List.getD_eq_getElem?_getD, e]
  · intro hl
    unfold Sh.ids
    cases ht : s.table with
    | nil => rfl
    | cons x r =>
      rw [ht] at hl
      have : r = [] := List.length_eq_zero_iff.1 (by simpa using hl)
      subst this
      have hz := h.zero
      rw [ht] at hz
      have : x = 0 := by simpa using hz
      simp [idsF, this]
theorem Inv.ok {N : Int} {s : Sh} (h : Inv N s) : Ok s := by
  have hN := h.fit.range
  have hl := clampN_le N
  have hcl := check_len h.fit.check
  have hcr := check_range h.fit.check
  have hw := h.fit.len
  refine ⟨⟨by rw [h.usedB.2, emptyB_len]; exact hl, h.usedB.1⟩, ⟨by rw [h.freshB.2, emptyB_len]; exact hl, h.freshB.1⟩, ⟨h.len.1, h.len.2, fun n hn => ?_⟩, ⟨h.fit.pos, by omega, fun n hn => ?_⟩, ⟨by rw [h.fit.blocks]; omega, by rw [h.fit.blocks]; omega⟩, hcr.1, by omega, by omega⟩
  · by_cases c : n = 0
    · omega
    · obtain ⟨i, _, e⟩ := getD_mem hn
      obtain ⟨m, e1, e2, e3, _⟩ := h.ent i (by rw [e]; exact c)
      omega
  · rcases h.fit.ent n hn with q | q <;> omega
end Go.Proofs.YtgmkbcoahilkhaaGreat.Sh
end
section
namespace Go.Proofs.YtgmkbcoahilkhaaGreat.Sh
open Go.RowKit YtgmkbcoahilkhaaGreatW.PrintWords YtgmkbcoahilkhaaGreatW.PrintLast YtgmkbcoahilkhaaGreatW.PrintMore MapFn Disk Bitset Page
set_option maxHeartbeats 8000000
set_option maxRecDepth 100000
theorem block_facts {s : Sh} (hk : Ok s) {id : Int} (h : (s.block id).2 = 0) : 1 ≤ id ∧ id < (s.table.length : Int) ∧ 0 ≤ (s.block id).1 ∧ (s.block id).1 < 4096 ∧ (s.block id).1 = s.table.getD id.toNat 0 ∧ (s.block id).1 ≠ 0 := by
  unfold Sh.block at h ⊢
  split at h
  · exact absurd h (by assumption)
  · rename_i h1
    rw [if_neg h1]
    split at h
    · cases h
    · rename_i h2
      rw [if_neg h2]
      have hlt : id.toNat < s.table.length := by omega
      have := hk.table.2.2 (s.table.getD id.toNat 0) (by rw [List.getD_eq_getElem?_getD, List.getElem?_eq_getElem hlt]; exact List.getElem_mem hlt)
      exact ⟨by omega, by omega, this.1, this.2, rfl, fun e => h2 (.inr (.inr e))⟩
theorem shwrite_any (id kind : Int) (A : Option Addr) (c : Nat) (body : List Int) (w : World) (F : Foot) (s : Sh) (h : ShAt w F s) (hk : Ok s) (hr : InW .u8 w A body c) (hb : Bytes body) :
    Calls Tryz.prog 29 #[.pointer (some ⟨F.p, 0, none⟩), .int .i64 id, .int .i64 kind, .slice A body.length c] w fun en w' => en = .returned (.int .i64 (s.write id kind body).2) ∧ ∃ F', ShAt w' F' (s.write id kind body).1 ∧ Goes F F' w w' := by
  have HBL := Hide.mk (block_any id h)
  have HS := Hide.mk h
  have HK := Hide.mk hk
  have HR := Hide.mk hr
  have HB := Hide.mk hb
  have HFR : Hide (Small s.fresh ∧ Bytes s.fresh) := ⟨⟨by have := hk.fresh.1; unfold Small; omega, hk.fresh.2⟩⟩
  obtain ⟨R, hR⟩ : ∃ R, s.write id kind body = R := ⟨_, rfl⟩
  rw [hR]
  unfold Sh.write at hR
  have hbf := fun e => block_facts hk (id := id) e
  obtain ⟨x, e0, hx⟩ : ∃ x e, s.block id = (x, e) := ⟨_, _, rfl⟩
  rw [hx] at HBL hR hbf
  simp only at HBL hR hbf
  clear h hk hr hb hx
  by_cases h0 : e0 = 0
  · subst h0
    rw [if_neg (by simp)] at hR
    obtain ⟨q1, q2, q3, q4, q5, q6⟩ := hbf rfl
    obtain ⟨k, hk0⟩ : ∃ k : Nat, id = (k : Int) := ⟨id.toNat, by omega⟩
    subst hk0
    have HID5 : Hide (k ≤ 5000) := ⟨by have := HK.out.table.2.1; omega⟩
    have HX := Hide.mk (wf_small q3 q4)
    clear hbf q1 q2 q3 q4 q5 q6
    by_cases h1 : sealE kind (k : Int) body.length = 0
    · rw [if_neg (by simpa using h1)] at hR
      have HSE := Hide.mk (seal_ok kind (k : Int) A c body w HR.out.reads HB.out h1)
      obtain ⟨fx, hfx⟩ : ∃ b, hasL s.fresh x = b := ⟨_, rfl⟩
      have HXE := Hide.mk hfx
      rw [hfx] at hR
      cases fx
      · rw [if_neg (by simp)] at hR
        cases hl : s.lowest 1 with
        | none =>
          rw [hl] at hR
          simp only at hR
          have HL := Hide.mk hl
          have HRR := Hide.mk hR.symm
          clear hR hl h1 hfx
          go_enter Tryz.func29, Tryz.ntmps29
          go_wp2_with (first
            | (go_at_call 64
               with_reducible refine HBL.out.mono ?_
               rintro e w0 ⟨rfl, hw0⟩
               have hw1 := hw0.symm
               subst hw1)
            | (go_at_call 60
               with_reducible refine HSE.out.mono ?_
               rintro e w4 ⟨v4, rfl, ho, hb4⟩
               obtain ⟨A4, c4, hv, hi4, hge4⟩ := In.of_own ho
               obtain ⟨n4, hn4⟩ : ∃ n, (sealL kind (k : Int) body).length = n := ⟨_, rfl⟩
               rw [hn4] at hv
               subst hv
               have S4 := Hide.mk (HS.out.below hb4)
               have B4 := Hide.mk hb4
               have I4 := Hide.mk hi4
               have HN4 := Hide.mk hn4
               have c12 := S4.out.cells.c12
               have HHS0 := has_any S4.out.fresh.inB HFR.out.1 HFR.out.2 x
               rw [HXE.out] at HHS0
               have HHS := Hide.mk HHS0
               clear ho hb4 hi4 hge4 hn4 HHS0)
            | (go_at_call 71
               with_reducible refine HHS.out.mono ?_
               rintro e w5 ⟨rfl, hd⟩
               have S5 := Hide.mk (S4.out.below hd.below)
               have B5 := Hide.mk (B4.out.trans (hd.below.mono B4.out.size))
               have I5 := Hide.mk (I4.out.below hd.below)
               have HLO := Hide.mk (lowest_any 1 (by omega) F s w5 S5.out HK.out)
               clear hd)
            | (go_at_call 61
               refine HLO.out.mono ?_
               rintro e w6 ⟨v6, rfl, ho, hb6⟩
               rw [HL.out] at ho ⊢
               have B6 := Hide.mk (B5.out.trans (hb6.mono B5.out.size))
               have S6 := Hide.mk (S5.out.below hb6)
               clear ho hb6))
          go_ret
          rw [HRR.out]
          exact ⟨rfl, F, S6.out, Goes.below B6.out⟩
        | some l =>
          rw [hl] at hR
          have hlf := lowest_facts HK.out hl
          obtain ⟨x0, rfl⟩ : ∃ x0, l = [x0] := List.length_eq_one_iff.1 hlf.1
          have hx0b := hlf.2 x0 (by simp)
          simp only [List.getD_cons_zero] at hR
          obtain ⟨sp, ep, hPL⟩ : ∃ sp ep, s.place k x0 (sealL kind (k : Int) body) = (sp, ep) := ⟨_, _, rfl⟩
          rw [hPL] at hR
          have HPLE := Hide.mk hPL
          have HWX := Hide.mk (wf_small hx0b.1 hx0b.2)
          have HL := Hide.mk hl
          have HRR := Hide.mk hR.symm
          clear hR hl h1 hlf hx0b hPL hfx
          go_enter Tryz.func29, Tryz.ntmps29
          go_wp2_with (first
            | (go_at_call 64
               with_reducible refine HBL.out.mono ?_
               rintro e w0 ⟨rfl, hw0⟩
               have hw1 := hw0.symm
               subst hw1)
            | (go_at_call 60
               with_reducible refine HSE.out.mono ?_
               rintro e w4 ⟨v4, rfl, ho, hb4⟩
               obtain ⟨A4, c4, hv, hi4, hge4⟩ := In.of_own ho
               obtain ⟨n4, hn4⟩ : ∃ n, (sealL kind (k : Int) body).length = n := ⟨_, rfl⟩
               rw [hn4] at hv
               subst hv
               have S4 := Hide.mk (HS.out.below hb4)
               have B4 := Hide.mk hb4
               have I4 := Hide.mk hi4
               have HN4 := Hide.mk hn4
               have c12 := S4.out.cells.c12
               have HHS0 := has_any S4.out.fresh.inB HFR.out.1 HFR.out.2 x
               rw [HXE.out] at HHS0
               have HHS := Hide.mk HHS0
               clear ho hb4 hi4 hge4 hn4 HHS0)
            | (go_at_call 71
               with_reducible refine HHS.out.mono ?_
               rintro e w5 ⟨rfl, hd⟩
               have S5 := Hide.mk (S4.out.below hd.below)
               have B5 := Hide.mk (B4.out.trans (hd.below.mono B4.out.size))
               have I5 := Hide.mk (I4.out.below hd.below)
               have HLO := Hide.mk (lowest_any 1 (by omega) F s w5 S5.out HK.out)
               clear hd)
            | (go_at_call 61
               refine HLO.out.mono ?_
               rintro e w6 ⟨v6, rfl, ho, hb6⟩
               rw [HL.out] at ho ⊢
               obtain ⟨A6, c6, hv6, hi6, hge6⟩ := In.of_own ho
               have hv6' : v6 = .slice A6 1 c6 := hv6
               subst hv6'
               obtain ⟨g6, off6, hA6, hc6⟩ := at_one hi6.reads
               subst hA6
               have B6 := Hide.mk (B5.out.trans (hb6.mono B5.out.size))
               have S6 := Hide.mk (S5.out.below hb6)
               have I6 := Hide.mk (I5.out.below hb6)
               have HPL0 := place_any k x0 A4 c4 (sealL kind (k : Int) body) w6 F s S6.out HK.out HWX.out I6.out.reads HID5.out
               rw [HPLE.out, HN4.out] at HPL0
               have HPL := Hide.mk HPL0
               clear HPL0
               clear ho hb6 hi6 hge6 hv6)
            | (go_at_call 62
               with_reducible refine HPL.out.mono ?_
               rintro e w7 ⟨rfl, F7, hs7, hg7⟩
               have S7 := Hide.mk hs7
               have G7 := Hide.mk hg7
               clear hs7 hg7))
          go_ret
          rw [HRR.out]
          exact ⟨rfl, F7, S7.out, (Goes.below B6.out).trans G7.out⟩
      · rw [if_pos rfl] at hR
        obtain ⟨sp, ep, hPL⟩ : ∃ sp ep, s.place k x (sealL kind (k : Int) body) = (sp, ep) := ⟨_, _, rfl⟩
        rw [hPL] at hR
        have HPLE := Hide.mk hPL
        have HWX := HX
        have HRR := Hide.mk hR.symm
        clear hR h1 hPL hfx
        go_enter Tryz.func29, Tryz.ntmps29
        go_wp2_with (first
          | (go_at_call 64
             with_reducible refine HBL.out.mono ?_
             rintro e w0 ⟨rfl, hw0⟩
             have hw1 := hw0.symm
             subst hw1)
          | (go_at_call 60
             with_reducible refine HSE.out.mono ?_
             rintro e w4 ⟨v4, rfl, ho, hb4⟩
             obtain ⟨A4, c4, hv, hi4, hge4⟩ := In.of_own ho
             obtain ⟨n4, hn4⟩ : ∃ n, (sealL kind (k : Int) body).length = n := ⟨_, rfl⟩
             rw [hn4] at hv
             subst hv
             have S4 := Hide.mk (HS.out.below hb4)
             have B4 := Hide.mk hb4
             have I4 := Hide.mk hi4
             have HN4 := Hide.mk hn4
             have c12 := S4.out.cells.c12
             have HHS0 := has_any S4.out.fresh.inB HFR.out.1 HFR.out.2 x
             rw [HXE.out] at HHS0
             have HHS := Hide.mk HHS0
             clear ho hb4 hi4 hge4 hn4 HHS0)
          | (go_at_call 71
             with_reducible refine HHS.out.mono ?_
             rintro e w5 ⟨rfl, hd⟩
             have S5 := Hide.mk (S4.out.below hd.below)
             have B5 := Hide.mk (B4.out.trans (hd.below.mono B4.out.size))
             have I5 := Hide.mk (I4.out.below hd.below)
             have HPL0 := place_any k x A4 c4 (sealL kind (k : Int) body) w5 F s S5.out HK.out HWX.out I5.out.reads HID5.out
             rw [HPLE.out, HN4.out] at HPL0
             have HPL := Hide.mk HPL0
             clear HPL0
             clear hd)
          | (go_at_call 62
             with_reducible refine HPL.out.mono ?_
             rintro e w7 ⟨rfl, F7, hs7, hg7⟩
             have S7 := Hide.mk hs7
             have G7 := Hide.mk hg7
             clear hs7 hg7))
        go_ret
        rw [HRR.out]
        exact ⟨rfl, F7, S7.out, (Goes.below B5.out).trans G7.out⟩
    · rw [if_pos h1] at hR
      have HSE := Hide.mk (seal_bad kind (k : Int) A c body.length w h1)
      obtain ⟨E, hE⟩ : ∃ E, sealE kind (k : Int) body.length = E := ⟨_, rfl⟩
      rw [hE] at HSE hR h1
      have q2 : (E != 0) = true := by simp [h1]
      have HRR := Hide.mk hR.symm
      clear hR h1 hE
      go_enter Tryz.func29, Tryz.ntmps29
      go_wp2_with (first
        | (go_at_call 64
           with_reducible refine HBL.out.mono ?_
           rintro e w0 ⟨rfl, hw0⟩
           have hw1 := hw0.symm
           subst hw1)
        | (go_at_call 60
           with_reducible refine HSE.out.mono ?_
           rintro e w4 ⟨rfl, hb4⟩
           have B4 := Hide.mk hb4
           clear hb4))
      go_ret
      rw [HRR.out]
      exact ⟨rfl, F, HS.out.below B4.out, Goes.below B4.out⟩
  · rw [if_pos h0] at hR
    have q : (e0 != 0) = true := by simp [h0]
    have HRR := Hide.mk hR.symm
    clear h0 hR hbf
    go_enter Tryz.func29, Tryz.ntmps29
    go_wp2_with (first
      | (go_at_call 64
         with_reducible refine HBL.out.mono ?_
         rintro e w0 ⟨rfl, hw0⟩
         have hw1 := hw0.symm
         subst hw1))
    go_ret
    rw [HRR.out]
    exact ⟨rfl, F, HS.out, Goes.refl _ _⟩
theorem setStart_any (id : Int) (w : World) (F : Foot) (s : Sh) (h : ShAt w F s) :
    Calls Tryz.prog 28 #[.pointer (some ⟨F.p, 0, none⟩), .int .i64 id] w fun en w' => en = .returned (.int .i64 (s.setStart id).2) ∧ ∃ F', ShAt w' F' (s.setStart id).1 ∧ Goes F F' w w' := by
  have HBL := Hide.mk (block_any id h)
  have HA := Hide.mk (alive_any h)
  have HS := Hide.mk h
  obtain ⟨R, hR⟩ : ∃ R, s.setStart id = R := ⟨_, rfl⟩
  rw [hR]
  unfold Sh.setStart at hR
  obtain ⟨a, ha⟩ : ∃ a, s.alive = a := ⟨_, rfl⟩
  obtain ⟨x, e0, hx⟩ : ∃ x e, s.block id = (x, e) := ⟨_, _, rfl⟩
  rw [ha] at HA hR
  rw [hx] at HBL hR
  simp only at HBL hR
  have c13 := h.cells.c13
  have c11 := h.cells.c11
  have f13 := h.free_ 13
  have f11 := h.free_ 11
  clear h ha hx
  by_cases h0 : a = 0
  · subst h0
    rw [if_neg (by simp)] at hR
    by_cases h1 : id ≠ 0 ∧ e0 ≠ 0
    · rw [if_pos h1] at hR
      have HRR := Hide.mk hR.symm
      have q1 : (id != 0) = true := by simp [h1.1]
      have q2 : (e0 != 0) = true := by simp [h1.2]
      clear hR h1
      go_enter Tryz.func28, Tryz.ntmps28
      go_wp2_with (first
        | (go_at_call 59
           refine HA.out.mono ?_
           rintro e w1 ⟨rfl, hw1⟩
           have hw2 := hw1.symm
           subst hw2)
        | (go_at_call 64
           refine HBL.out.mono ?_
           rintro e w1 ⟨rfl, hw1⟩
           have hw2 := hw1.symm
           subst hw2))
      go_ret
      rw [HRR.out]
      exact ⟨rfl, F, HS.out, Goes.refl _ _⟩
    · rw [if_neg h1] at hR
      have HRR := Hide.mk hR.symm
      obtain ⟨d, hd⟩ : ∃ d, (s.dirty || (id != s.start)) = d := ⟨_, rfl⟩
      have t1 := HS.out.set 13 (.bool d) (s' := { s with dirty := d }) rfl rfl rfl rfl rfl rfl rfl rfl
      have t2 := t1.1.set 11 (.int .i64 id) (s' := { s with dirty := d, start := id }) rfl rfl rfl rfl rfl rfl rfl rfl
      have T2 := Hide.mk (And.intro t2.1 (t1.2.trans t2.2))
      have f11' := t1.1.free_ 11
      have HD := Hide.mk hd
      clear hR t1 t2
      by_cases hz : id = 0
      · have q1 : (id != 0) = false := by simp [hz]
        cases hdd : s.dirty with
        | true =>
          rw [hdd] at c13 hd
          have hd1 : d = true := by rw [← hd]; rfl
          subst hd1
          clear hd hz h1 hdd
          go_enter Tryz.func28, Tryz.ntmps28
          go_wp2_with (first
            | (go_at_call 59
               refine HA.out.mono ?_
               rintro e w1 ⟨rfl, hw1⟩
               have hw2 := hw1.symm
               subst hw2)
            | (go_at_call 64
               refine HBL.out.mono ?_
               rintro e w1 ⟨rfl, hw1⟩
               have hw2 := hw1.symm
               subst hw2))
          go_ret
          rw [HRR.out]
          exact ⟨rfl, F, by first | exact T2.out.1 | (rw [HD.out]; exact T2.out.1), T2.out.2⟩
        | false =>
          rw [hdd] at c13 hd
          have hd1 : (id != s.start) = d := by rw [← hd]; simp
          clear hd hz h1 hdd
          go_enter Tryz.func28, Tryz.ntmps28
          go_wp2_with (first
            | (go_at_call 59
               refine HA.out.mono ?_
               rintro e w1 ⟨rfl, hw1⟩
               have hw2 := hw1.symm
               subst hw2)
            | (go_at_call 64
               refine HBL.out.mono ?_
               rintro e w1 ⟨rfl, hw1⟩
               have hw2 := hw1.symm
               subst hw2))
          go_ret
          rw [HRR.out]
          exact ⟨rfl, F, by first | exact T2.out.1 | (rw [HD.out]; exact T2.out.1), T2.out.2⟩
      · have q1 : (id != 0) = true := by simp [hz]
        have he : e0 = 0 := by
          rcases Decidable.em (e0 = 0) with q | q
          · exact q
          · exact absurd ⟨hz, q⟩ h1
        subst he
        cases hdd : s.dirty with
        | true =>
          rw [hdd] at c13 hd
          have hd1 : d = true := by rw [← hd]; rfl
          subst hd1
          clear hd hz h1 hdd
          go_enter Tryz.func28, Tryz.ntmps28
          go_wp2_with (first
            | (go_at_call 59
               refine HA.out.mono ?_
               rintro e w1 ⟨rfl, hw1⟩
               have hw2 := hw1.symm
               subst hw2)
            | (go_at_call 64
               refine HBL.out.mono ?_
               rintro e w1 ⟨rfl, hw1⟩
               have hw2 := hw1.symm
               subst hw2))
          go_ret
          rw [HRR.out]
          exact ⟨rfl, F, by first | exact T2.out.1 | (rw [HD.out]; exact T2.out.1), T2.out.2⟩
        | false =>
          rw [hdd] at c13 hd
          have hd1 : (id != s.start) = d := by rw [← hd]; simp
          clear hd hz h1 hdd
          go_enter Tryz.func28, Tryz.ntmps28
          go_wp2_with (first
            | (go_at_call 59
               refine HA.out.mono ?_
               rintro e w1 ⟨rfl, hw1⟩
               have hw2 := hw1.symm
               subst hw2)
            | (go_at_call 64
               refine HBL.out.mono ?_
               rintro e w1 ⟨rfl, hw1⟩
               have hw2 := hw1.symm
               subst hw2))
          go_ret
          rw [HRR.out]
          exact ⟨rfl, F, by first | exact T2.out.1 | (rw [HD.out]; exact T2.out.1), T2.out.2⟩
  · rw [if_pos h0] at hR
    have q : (a != 0) = true := by simp [h0]
    have HRR := Hide.mk hR.symm
    clear h0 hR
    go_enter Tryz.func28, Tryz.ntmps28
    go_wp2_with (first
      | (go_at_call 59
         refine HA.out.mono ?_
         rintro e w1 ⟨rfl, hw1⟩
         have hw2 := hw1.symm
         subst hw2))
    go_ret
    rw [HRR.out]
    exact ⟨rfl, F, HS.out, Goes.refl _ _⟩
section
variable {w wr w' : World} {p pd : Nat} {s : Sh}
theorem write_on (h : On w wr p pd s) (hk : Ok s) (id kind : Int) {A : Option Addr} {c : Nat} {body : List Int} (hr : InW .u8 wr A body c) (hb : Bytes body) :
    Calls Tryz.prog 29 #[.pointer (some ⟨p, 0, none⟩), .int .i64 id, .int .i64 kind, .slice A body.length c] wr fun en w' => en = .returned (.int .i64 (s.write id kind body).2) ∧ On w w' p pd (s.write id kind body).1 := by
  obtain ⟨⟨F, hs, rfl, rfl, ho⟩, hbl⟩ := h
  refine (shwrite_any id kind A c body wr F s hs hk hr hb).mono ?_
  rintro e w2 ⟨rfl, F2, h2, hg⟩
  exact ⟨rfl, On.goes hbl ho rfl rfl h2 hg⟩
theorem setStart_on (h : On w wr p pd s) (id : Int) :
    Calls Tryz.prog 28 #[.pointer (some ⟨p, 0, none⟩), .int .i64 id] wr fun en w' => en = .returned (.int .i64 (s.setStart id).2) ∧ On w w' p pd (s.setStart id).1 := by
  obtain ⟨⟨F, hs, rfl, rfl, ho⟩, hbl⟩ := h
  refine (setStart_any id wr F s hs).mono ?_
  rintro e w2 ⟨rfl, F2, h2, hg⟩
  exact ⟨rfl, On.goes hbl ho rfl rfl h2 hg⟩
end
end Go.Proofs.YtgmkbcoahilkhaaGreat.Sh
end
section
namespace Go.Proofs.YtgmkbcoahilkhaaGreat.Sh
open Go.RowKit YtgmkbcoahilkhaaGreatW.PrintWords YtgmkbcoahilkhaaGreatW.PrintLast YtgmkbcoahilkhaaGreatW.PrintMore MapFn Disk Bitset Page Num
set_option maxHeartbeats 4000000
theorem image_on {w wr : World} {p pd : Nat} {s : Sh} (h : On w wr p pd s) (hk : Ok s) (hb : DB s.D) :
    Calls Tryz.prog 27 #[.pointer (some ⟨p, 0, none⟩)] wr fun en w' => en = .returned (.string (strOfNums s.image.2)) ∧ On w w' p pd s.image.1 := by
  obtain ⟨⟨F, hs, rfl, rfl, ho⟩, hbl⟩ := h
  refine (image_any s wr F hs hk hb).mono ?_
  rintro e w2 ⟨rfl, F2, h2, hg⟩
  exact ⟨rfl, On.goes hbl ho rfl rfl h2 hg⟩
structure GoodN (N : Int) (w wr : World) (p pd : Nat) (s : Sh) (last : List Int) : Prop where
  on : On w wr p pd s
  inv : Inv N s
  db : DB s.D
  never : s.D.fails = -1
  last : imgOf s.D.get s.was s.root.start = last
structure Clean (s : Sh) : Prop where
  table : s.table = s.was
  start : s.start = s.root.start
section
variable {N : Int} {w wr : World} {p pd : Nat} {s : Sh} {last : List Int}
theorem GoodN.later (h : GoodN N w wr p pd s last) {w' : World} (hb : Below wr.heap.size wr w') : GoodN N w w' p pd s last := ⟨h.on.later hb, h.inv, h.db, h.never, h.last⟩
theorem GoodN.step {w' : World} {s' : Sh} (h : GoodN N w wr p pd s last) (ho : On w w' p pd s') (hs : Step N s s') (hd : DB s'.D) : GoodN N w w' p pd s' last :=
  ⟨ho, hs.inv, hd, hs.never h.never, by rw [hs.root, hs.was, imgOf_same _ fun i hi => hs.get _ (.inr (.inr (.inr (.inr (mem_getD hi).1))))]; exact h.last⟩
theorem GoodN.sure {s' : Sh} (h : GoodN N w wr p pd s last) (k : Step N s s' ∨ Lost s s') : Step N s s' := k.elim id fun q => absurd h.never q.may
theorem GoodN.alloc (h : GoodN N w wr p pd s last) (kind : Int) {A : Option Addr} {c : Nat} {body : List Int} (hr : InW .u8 wr A body c) (hb : Bytes body) :
    Calls Tryz.prog 19 #[.pointer (some ⟨p, 0, none⟩), .int .i64 kind, .slice A body.length c] wr fun en w' => ∃ id e : Int, en = .returned (.tuple #[.int .i64 id, .int .i64 e]) ∧ ∃ s', GoodN N w w' p pd s' last := by
  refine (alloc_on h.on h.inv.ok kind hr hb).mono ?_
  rintro e w2 ⟨rfl, ho⟩
  exact ⟨_, _, rfl, _, h.step ho (h.sure (alloc_step h.inv kind hb)) (h.db.alloc kind hb)⟩
theorem GoodN.write (h : GoodN N w wr p pd s last) (id kind : Int) {A : Option Addr} {c : Nat} {body : List Int} (hr : InW .u8 wr A body c) (hb : Bytes body) :
    Calls Tryz.prog 29 #[.pointer (some ⟨p, 0, none⟩), .int .i64 id, .int .i64 kind, .slice A body.length c] wr fun en w' => ∃ e : Int, en = .returned (.int .i64 e) ∧ ∃ s', GoodN N w w' p pd s' last := by
  refine (write_on h.on h.inv.ok id kind hr hb).mono ?_
  rintro e w2 ⟨rfl, ho⟩
  exact ⟨_, rfl, _, h.step ho (h.sure (write_step h.inv id kind hb)) (h.db.shwrite id kind hb)⟩
theorem GoodN.free (h : GoodN N w wr p pd s last) (id : Int) :
    Calls Tryz.prog 23 #[.pointer (some ⟨p, 0, none⟩), .int .i64 id] wr fun en w' => ∃ e : Int, en = .returned (.int .i64 e) ∧ ∃ s', GoodN N w w' p pd s' last := by
  refine (free_on h.on h.inv.ok id).mono ?_
  rintro e w2 ⟨rfl, ho⟩
  exact ⟨_, rfl, _, h.step ho (free_step h.inv id) (by
    have e : (s.free id).1.D = s.D := by
      unfold Sh.free
      split
      · rfl
      · split <;> rfl
    rw [e]; exact h.db)⟩
theorem GoodN.setStart (h : GoodN N w wr p pd s last) (id : Int) :
    Calls Tryz.prog 28 #[.pointer (some ⟨p, 0, none⟩), .int .i64 id] wr fun en w' => ∃ e : Int, en = .returned (.int .i64 e) ∧ ∃ s', GoodN N w w' p pd s' last := by
  refine (setStart_on h.on id).mono ?_
  rintro e w2 ⟨rfl, ho⟩
  exact ⟨_, rfl, _, h.step ho (setStart_step h.inv id) (by
    have e : (s.setStart id).1.D = s.D := by
      unfold Sh.setStart
      split
      · rfl
      · split <;> rfl
    rw [e]; exact h.db)⟩
theorem GoodN.commitE (h : GoodN N w wr p pd s last) (he : s.commit.2 ≠ 0) :
    Calls Tryz.prog 20 #[.pointer (some ⟨p, 0, none⟩)] wr fun en w' => en = .returned (.int .i64 s.commit.2) ∧ GoodN N w w' p pd s last := by
  refine (commit_on h.on h.inv.ok h.inv.maps fun l h1 h2 => next_check h.inv h1 h2).mono ?_
  rintro e w2 ⟨rfl, ho⟩
  refine ⟨rfl, ?_⟩
  rcases commit_gen h.inv with ⟨_, q⟩ | ⟨q, _⟩ | ⟨_, _, _, q, _⟩
  · rw [q] at ho
    exact ⟨ho, h.inv, h.db, h.never, h.last⟩
  · exact absurd q he
  · exact absurd h.never q
theorem GoodN.commit0 (h : GoodN N w wr p pd s last) (he : s.commit.2 = 0) :
    Calls Tryz.prog 20 #[.pointer (some ⟨p, 0, none⟩)] wr fun en w' => en = .returned (.int .i64 0) ∧ ∃ s' last', GoodN N w w' p pd s' last' ∧ Clean s' := by
  refine (commit_on h.on h.inv.ok h.inv.maps fun l h1 h2 => next_check h.inv h1 h2).mono ?_
  rintro e w2 ⟨rfl, ho⟩
  rw [he]
  rcases commit_gen h.inv with ⟨q, _⟩ | ⟨_, q⟩ | ⟨q, _⟩
  · exact absurd he q
  · exact ⟨rfl, _, _, ⟨ho, q.inv, h.db.commit, q.never h.never, rfl⟩, ⟨q.table.trans q.was.symm, q.start.trans q.rstart.symm⟩⟩
  · exact absurd he q
theorem GoodN.image (h : GoodN N w wr p pd s last) (hc : Clean s) :
    Calls Tryz.prog 27 #[.pointer (some ⟨p, 0, none⟩)] wr fun en w' => en = .returned (.string (strOfNums last)) ∧ ∃ s', GoodN N w w' p pd s' last := by
  refine (image_on h.on h.inv.ok h.db).mono ?_
  obtain ⟨k, e⟩ := image_inv h.inv
  rintro en w2 ⟨rfl, ho⟩
  rw [e] at ho ⊢
  refine ⟨?_, _, ⟨ho, h.inv.reads k, h.db.of rfl rfl, h.never, h.last⟩⟩
  rw [show imgOf s.D.get s.table s.start = last by rw [hc.table, hc.start]; exact h.last]
theorem GoodN.abort (h : GoodN N w wr p pd s last) :
    Calls Tryz.prog 25 #[.pointer (some ⟨p, 0, none⟩)] wr fun en w' => en = .returned (.int .i64 0) ∧ ∃ s', GoodN N w w' p pd s' last ∧ Clean s' := by
  refine (abort_on h.on h.inv.ok).mono ?_
  obtain ⟨h1, h2, h3, h4, h5⟩ := abort_step h.inv
  rintro en w2 ⟨rfl, ho⟩
  rw [h2]
  exact ⟨rfl, _, h.step ho h1 (by rw [h5]; exact h.db), ⟨h3.trans h1.was.symm, h4.trans (by rw [h1.root])⟩⟩
theorem GoodN.open_ (h : GoodN N w wr p pd s last) :
    Calls Tryz.prog 30 #[.pointer (some ⟨pd, 0, none⟩)] wr fun en w' => ∃ p', en = .returned (.tuple #[.pointer (some ⟨p', 0, none⟩), .int .i64 0]) ∧ ∃ s', GoodN N w w' p' pd s' last ∧ Clean s' := by
  refine (open_on h.on.disk h.db.get).mono ?_
  obtain ⟨s', e, hi, h1, h2, h3, h4, h5, h6, h7⟩ := open_inv h.inv.up h.inv.blocks h.inv.fit h.inv.hold h.inv.loose
  have hdb := DB.open_ h.db
  rw [e] at hdb ⊢
  rintro en w2 ⟨p', rfl, _, ho⟩
  refine ⟨p', by rw [ptrOf_ok], s', ⟨ho rfl, hi, hdb, h6.trans h.never, ?_⟩, ⟨h3.trans h2.symm, h4.trans (by rw [h1])⟩⟩
  rw [h5, h2, h1]
  exact h.last
theorem GoodN.dirty (h : GoodN N w wr p pd s last) :
    Calls Tryz.prog 22 #[.pointer (some ⟨p, 0, none⟩)] wr fun en w' => en = .returned (.bool s.dirty) ∧ GoodN N w w' p pd s last := by
  refine (dirty_on h.on).mono ?_
  rintro en w2 ⟨rfl, ho⟩
  exact ⟨rfl, ho, h.inv, h.db, h.never, h.last⟩
theorem GoodN.ids (h : GoodN N w wr p pd s last) :
    Calls Tryz.prog 21 #[.pointer (some ⟨p, 0, none⟩)] wr fun en w' => ∃ A c, en = .returned (.slice A s.ids.length c) ∧ In .i64 w' A s.ids c ∧ GoodN N w w' p pd s last := by
  refine (ids_on h.on (by have := h.inv.len.2; omega)).mono ?_
  rintro en w2 ⟨A, c, rfl, hi, _, ho⟩
  exact ⟨A, c, rfl, hi, ho, h.inv, h.db, h.never, h.last⟩
theorem GoodN.used (h : GoodN N w wr p pd s last) :
    Calls Tryz.prog 24 #[.pointer (some ⟨p, 0, none⟩)] wr fun en w' => en = .returned (.int .i64 ((s.usedN : Nat) : Int)) ∧ GoodN N w w' p pd s last := by
  refine (used_on h.on h.inv.ok).mono ?_
  rintro en w2 ⟨rfl, ho⟩
  exact ⟨rfl, ho, h.inv, h.db, h.never, h.last⟩
theorem idsF_short : ∀ (l : List Int) (i : Nat), (idsF l i).length ≤ l.length
  | [], _ => by simp [idsF]
  | n :: r, i => by
    rw [idsF]
    have := idsF_short r (i + 1)
    split
    · simp; omega
    · simp; omega
theorem GoodN.count (h : GoodN 40 w wr p pd s last) (hd : s.dirty = false) :
    s.ids.length ≤ 3001 ∧ ((s.ids.length = 0 ∧ ((s.usedN : Nat) : Int) = 3) ∨ (0 < s.ids.length ∧ ∃ x : Int, rd s.ids ((s.ids.length - 1 : Nat) : Int) = x ∧ 0 ≤ x ∧ x ≤ 3000 ∧ ((s.usedN : Nat) : Int) = 2 + (s.ids.length : Int) + Int.tdiv (x + 122) 123 + 1)) := by
  have hu := used_count h.inv hd
  have h40 : mapsOf 40 = 1 := by decide +kernel
  rw [h40] at hu
  have hl := h.inv.len
  have hid : s.ids.length ≤ s.table.length := idsF_short _ _
  obtain ⟨l1, l2⟩ := h.inv.idsLast
  refine ⟨by omega, ?_⟩
  rcases (by omega : s.table.length = 1 ∨ 1 < s.table.length) with c | c
  · left
    rw [l2 c] at hu ⊢
    refine ⟨rfl, ?_⟩
    rw [hu, c]
    rfl
  · right
    obtain ⟨q1, q2⟩ := l1 c
    refine ⟨q1, _, q2, by omega, by omega, ?_⟩
    rw [hu, Int.tdiv_eq_ediv_of_nonneg (by omega)]
    omega
end
theorem good_new {w wr : World} {pd : Nat} (hd : DOn w wr pd (DiskSt.new 40)) :
    Calls Tryz.prog 9 #[.pointer (some ⟨pd, 0, none⟩)] wr fun en w' => ∃ p, en = .returned (.tuple #[.pointer (some ⟨p, 0, none⟩), .int .i64 0]) ∧ ∃ s last, GoodN 40 w w' p pd s last ∧ Clean s := by
  refine (format_on hd ⟨by decide, by decide⟩).mono ?_
  obtain ⟨s, e, hi, h1, h2, h3, h4, h5, h6⟩ := format_inv (N := 40) (D := DiskSt.new 40) rfl (by decide) rfl (by decide) (by decide +kernel)
  have hdb := DB.format (DB.new 40)
  rw [e] at hdb ⊢
  rintro en w2 ⟨p, rfl, ho⟩
  exact ⟨p, by rw [ptrOf_ok], s, _, ⟨ho, hi, hdb, h5, rfl⟩, ⟨h1.trans h2.symm, h3.trans h4.symm⟩⟩
end Go.Proofs.YtgmkbcoahilkhaaGreat.Sh
end
section
namespace Go.Proofs.YtgmkbcoahilkhaaGreat.Sh
open Go.RowKit YtgmkbcoahilkhaaGreatW.PrintWords YtgmkbcoahilkhaaGreatW.PrintLast YtgmkbcoahilkhaaGreatW.PrintMore MapFn Disk Bitset Page Num Acts
set_option maxHeartbeats 16000000
set_option maxRecDepth 100000
theorem infoAct : (Tryz.prog.info? 49).map (·.size) = some 10 := by kernel_rfl
theorem load_act {w : World} {ops : Array Oper} {rest : List Oper} {o : Oper} {a : Go.Act} {Q : Exit → Go.Act → World → Prop} (hg : o.guard = none) (x : Operand) (hop : o.op = Op.load 49 x) (g off : Nat) (hx : a.eval x = .pointer (some ⟨g, off, none⟩))
    (v : ActV) (A : Option Addr) (c : Nat) (A2 : Option Addr) (c2 : Nat) (hc : ∀ j, j < 10 → w.cell? ⟨g, off + j, none⟩ = (v.vals A c A2 c2)[j]?)
    (hK : wpList Tryz.prog ops Q rest (a.put o.dst (.agg #[.int .u8 v.kind, .int .i64 v.id, .int .i64 v.page, .slice A v.body.length c, .int .u8 v.d.kind, .int .i64 v.d.n, .int .u8 v.d.c, .int .u8 v.d.cut, .bool v.d.done, .slice A2 v.d.fate.length c2])) w) : wpList Tryz.prog ops Q (o :: rest) a w :=
  wpList_load_mid hg _ _ hop g off hx (v.vals A c A2 c2) _ (fun j y hy => by
    have hj : j < 10 := by
      refine Decidable.byContradiction fun q => ?_
      rw [List.getElem?_eq_none (by show 10 ≤ j; omega)] at hy
      cases hy
    rw [hc j hj, hy]) Tryz.underlying49 rfl (by rw [infoAct]; rfl) hK
theorem shadowSplits_any (A : Option Addr) (c : Nat) (l : List ActV) (w : World) (h : ActsAt w A l) :
    Calls Tryz.prog 5 #[.slice A l.length c] w fun e w' => e = .returned (.bool true) ∧ Below w.heap.size w w' := by
  have HF0 := few_any A c l w h
  have hmx := h.len
  obtain ⟨L, hL⟩ : ∃ L, l.length = L := ⟨_, rfl⟩
  have H := Hide.mk h
  have HL := Hide.mk hL
  rw [hL] at HF0 hmx ⊢
  have hmxL : (L : Int) ≤ 9223372036854775807 := by omega
  by_cases hf : fewB l 40 = true
  · rw [hf] at HF0
    have HFEW := Hide.mk HF0
    have hl40 : L ≤ 40 := by
      unfold fewB at hf
      have := (Bool.and_eq_true _ _ ▸ hf).1
      have := of_decide_eq_true this
      omega
    clear h hL hf HF0 hmx
    go_enter Tryz.func5, Tryz.ntmps5
    go_wp2_with (first
      | (go_at_call 26; with_reducible refine HFEW.out.mono ?_; rintro e wF ⟨rfl, hw⟩; obtain rfl : w = wF := hw.symm)
      | (go_at_call 10; refine (new_on 40 _).mono ?_; rintro e w1 ⟨pd, rfl, hd⟩; have HFM := Hide.mk (good_new hd); clear hd)
      | (go_at_call 9; with_reducible refine HFM.out.mono ?_; rintro e w2 ⟨p, rfl, s, last, hg, hc⟩; have HIM := Hide.mk (hg.image hc); clear hg hc)
      | (go_at_call 27; with_reducible refine HIM.out.mono ?_; rintro e w3 ⟨rfl, s3, hg⟩; have G3 := Hide.mk hg; clear hg))
    go_loopw [4, 5, 6, 7] (fun v4 v5 v6 v7 wr => ∃ (i p : Nat) (s : Sh) (last : List Int) (e : Int), v7 = .int .i64 (i : Int) ∧ v4 = .pointer (some ⟨p, 0, none⟩) ∧ v5 = .int .i64 e ∧ v6 = .string (strOfNums last) ∧ Hide (i ≤ L) ∧ Hide (GoodN 40 w wr p pd s last)) (fun _ _ _ v7 _ => 100 - (intOf v7).toNat)
    case atStart => exact ⟨0, p, s3, last, 0, by first | rfl | simp, rfl, rfl, rfl, ⟨Nat.zero_le _⟩, G3⟩
    case round =>
      obtain ⟨i, p, s, last, e, rfl, rfl, rfl, rfl, hi, hG⟩ := hrel
      clear G3 HIM HFM HFEW
      by_cases hlt0 : i < L
      · have hlt : (i : Int) < (L : Int) := by omega
        have hi40 : (i : Int) ≤ 40 := by omega
        obtain ⟨g, off, rfl, hact0⟩ := H.out.at_ i (by rw [HL.out]; exact hlt0)
        have hact := hact0.below hG.out.on.below
        obtain ⟨v, hv⟩ : ∃ v, l[i]'(by rw [HL.out]; exact hlt0) = v := ⟨_, rfl⟩
        rw [hv] at hact
        obtain ⟨kd, id, page, body, dv⟩ := v
        obtain ⟨⟨Ab, cb, A2, c2, hcell, hin, _⟩, hwf⟩ := hact
        obtain ⟨q, hq⟩ : ∃ q, Int.tmod kd 12 = q := ⟨_, rfl⟩
        have hq12 : 0 ≤ q ∧ q < 12 := by
          have h0 : 0 ≤ kd := hwf.kind.1
          rw [← hq, Int.tmod_eq_emod_of_nonneg h0]
          omega
        have HCELL := Hide.mk hcell
        have HIN := Hide.mk (show InW .u8 wr Ab body cb from hin)
        have HBY := Hide.mk (show Bytes body from hwf.body)
        have HQ := Hide.mk hq12
        have LT := Hide.mk hlt0
        clear hcell hin hwf hact0 hv hlt0 hq12
        go_upto_block 2 with (first
  | (refine load_act rfl _ rfl _ _ rfl _ _ _ _ _ HCELL.out ?_))
        clear hq
        go_cut [4, 5, 6] (fun v4 v5 v6 wx => ∃ (p : Nat) (s : Sh) (last : List Int) (e : Int), v4 = .pointer (some ⟨p, 0, none⟩) ∧ v5 = .int .i64 e ∧ v6 = .string (strOfNums last) ∧ Hide (GoodN 40 w wx p pd s last))
        case first =>
          have hal := (Below.refl wr.heap.size wr).alloc (Nat.le_refl _) (.cells #[.int .u8 kd, .int .i64 id, .int .i64 page, .slice Ab body.length cb, .int .u8 dv.kind, .int .i64 dv.n, .int .u8 dv.c, .int .u8 dv.cut, .bool dv.done, .slice A2 dv.fate.length c2] 49)
          have rowb := heap_last wr (.cells #[.int .u8 kd, .int .i64 id, .int .i64 page, .slice Ab body.length cb, .int .u8 dv.kind, .int .i64 dv.n, .int .u8 dv.c, .int .u8 dv.cut, .bool dv.done, .slice A2 dv.fate.length c2] 49)
          generalize wr.alloc (.cells #[.int .u8 kd, .int .i64 id, .int .i64 page, .slice Ab body.length cb, .int .u8 dv.kind, .int .i64 dv.n, .int .u8 dv.c, .int .u8 dv.cut, .bool dv.done, .slice A2 dv.fate.length c2] 49) = WB at hal rowb ⊢
          have hGb := Hide.mk (hG.out.later hal)
          have hib := Hide.mk (HIN.out.below hal)
          have hbb := HBY
          have k1 : WB.cell? ⟨wr.heap.size, 1, none⟩ = some (.int .i64 id) := cell_of rowb
          have k2 : WB.cell? ⟨wr.heap.size, 2, none⟩ = some (.int .i64 page) := cell_of rowb
          have k3 : WB.cell? ⟨wr.heap.size, 3, none⟩ = some (.slice Ab body.length cb) := cell_of rowb
          have hql := HQ.out
          clear hal rowb HCELL HIN HBY
          rcases (by omega : q = 0 ∨ q = 1 ∨ q = 2 ∨ q = 3 ∨ q = 4 ∨ q = 5 ∨ q = 6 ∨ q = 7 ∨ q = 8 ∨ q = 9 ∨ q = 10 ∨ q = 11) with rfl | rfl | rfl | rfl | rfl | rfl | rfl | rfl | rfl | rfl | rfl | rfl
          · have HAL := Hide.mk (hGb.out.alloc page hib.out hbb.out)
            go_wp2_with (first
              | (go_at_call 19; with_reducible refine HAL.out.mono ?_; rintro e2 w5 ⟨id5, er5, rfl, s5, hg⟩; have G5 := Hide.mk hg; clear hg))
            go_meet
            exact ⟨p, s5, last, e, rfl, rfl, rfl, G5⟩
          · have HAL := Hide.mk (hGb.out.alloc page hib.out hbb.out)
            go_wp2_with (first
              | (go_at_call 19; with_reducible refine HAL.out.mono ?_; rintro e2 w5 ⟨id5, er5, rfl, s5, hg⟩; have G5 := Hide.mk hg; clear hg))
            go_meet
            exact ⟨p, s5, last, e, rfl, rfl, rfl, G5⟩
          · have HAL := Hide.mk (hGb.out.alloc page hib.out hbb.out)
            go_wp2_with (first
              | (go_at_call 19; with_reducible refine HAL.out.mono ?_; rintro e2 w5 ⟨id5, er5, rfl, s5, hg⟩; have G5 := Hide.mk hg; clear hg))
            go_meet
            exact ⟨p, s5, last, e, rfl, rfl, rfl, G5⟩
          · have HAL := Hide.mk (hGb.out.write id page hib.out hbb.out)
            go_wp2_with (first
              | (go_at_call 29; with_reducible refine HAL.out.mono ?_; rintro e2 w5 ⟨er5, rfl, s5, hg⟩; have G5 := Hide.mk hg; clear hg))
            go_meet
            exact ⟨p, s5, last, e, rfl, rfl, rfl, G5⟩
          · have HAL := Hide.mk (hGb.out.write id page hib.out hbb.out)
            go_wp2_with (first
              | (go_at_call 29; with_reducible refine HAL.out.mono ?_; rintro e2 w5 ⟨er5, rfl, s5, hg⟩; have G5 := Hide.mk hg; clear hg))
            go_meet
            exact ⟨p, s5, last, e, rfl, rfl, rfl, G5⟩
          · have HAL := Hide.mk (hGb.out.free id)
            go_wp2_with (first
              | (go_at_call 23; with_reducible refine HAL.out.mono ?_; rintro e2 w5 ⟨er5, rfl, s5, hg⟩; have G5 := Hide.mk hg; clear hg))
            go_meet
            exact ⟨p, s5, last, e, rfl, rfl, rfl, G5⟩
          · have HAL := Hide.mk (hGb.out.setStart id)
            go_wp2_with (first
              | (go_at_call 28; with_reducible refine HAL.out.mono ?_; rintro e2 w5 ⟨er5, rfl, s5, hg⟩; have G5 := Hide.mk hg; clear hg))
            go_meet
            exact ⟨p, s5, last, e, rfl, rfl, rfl, G5⟩
          · by_cases he : s.commit.2 = 0
            · have HAL := Hide.mk (hGb.out.commit0 he)
              clear he
              go_wp2_with (first
                | (go_at_call 20; with_reducible refine HAL.out.mono ?_; rintro e2 w5 ⟨rfl, s5, last5, hg, hc⟩; have HIM := Hide.mk (hg.image hc); clear hg hc)
                | (go_at_call 27; with_reducible refine HIM.out.mono ?_; rintro e2 w6 ⟨rfl, s6, hg⟩; have G6 := Hide.mk hg; clear hg))
              go_meet
              exact ⟨p, s6, last5, e, rfl, rfl, rfl, G6⟩
            · have HAL0 := hGb.out.commitE he
              obtain ⟨er, her⟩ : ∃ er, s.commit.2 = er := ⟨_, rfl⟩
              rw [her] at HAL0 he
              have hz : (er == 0) = false := by simpa using he
              have HAL := Hide.mk HAL0
              clear her HAL0
              go_wp2_with (first
                | (go_at_call 20; with_reducible refine HAL.out.mono ?_; rintro e2 w5 ⟨rfl, hg⟩; have G5 := Hide.mk hg; clear hg))
              go_meet
              exact ⟨p, s, last, e, rfl, rfl, rfl, G5⟩
          · have HAL := Hide.mk hGb.out.abort
            go_wp2_with (first
              | (go_at_call 25; with_reducible refine HAL.out.mono ?_; rintro e2 w5 ⟨rfl, s5, hg, hc⟩; have HIM := Hide.mk (hg.image hc); clear hg hc)
              | (go_at_call 27; with_reducible refine HIM.out.mono ?_; rintro e2 w6 ⟨rfl, s6, hg⟩; have G6 := Hide.mk hg; clear hg))
            go_meet
            exact ⟨p, s6, last, e, rfl, rfl, rfl, G6⟩
          · have HAL := Hide.mk hGb.out.open_
            go_wp2_with (first
              | (go_at_call 30; with_reducible refine HAL.out.mono ?_; rintro e2 w5 ⟨p5, rfl, s5, hg, hc⟩; have HIM := Hide.mk (hg.image hc); clear hg hc)
              | (go_at_call 27; with_reducible refine HIM.out.mono ?_; rintro e2 w6 ⟨rfl, s6, hg⟩; have G6 := Hide.mk hg; clear hg))
            go_meet
            exact ⟨p5, s6, last, 0, rfl, rfl, rfl, G6⟩
          · by_cases he : s.commit.2 = 0
            · have HAL := Hide.mk (hGb.out.commit0 he)
              clear he
              go_wp2_with (first
                | (go_at_call 20; with_reducible refine HAL.out.mono ?_; rintro e2 w5 ⟨rfl, s5, last5, hg, hc⟩; have HIM := Hide.mk (hg.image hc); clear hg hc)
                | (go_at_call 27; with_reducible refine HIM.out.mono ?_; rintro e2 w6 ⟨rfl, s6, hg⟩; have G6 := Hide.mk hg; clear hg))
              go_meet
              exact ⟨p, s6, last5, e, rfl, rfl, rfl, G6⟩
            · have HAL0 := hGb.out.commitE he
              obtain ⟨er, her⟩ : ∃ er, s.commit.2 = er := ⟨_, rfl⟩
              rw [her] at HAL0 he
              have hz : (er == 0) = false := by simpa using he
              have HAL := Hide.mk HAL0
              clear her HAL0
              go_wp2_with (first
                | (go_at_call 20; with_reducible refine HAL.out.mono ?_; rintro e2 w5 ⟨rfl, hg⟩; have G5 := Hide.mk hg; clear hg))
              go_meet
              exact ⟨p, s, last, e, rfl, rfl, rfl, G5⟩
          · have HAL := Hide.mk hGb.out.open_
            go_wp2_with (first
              | (go_at_call 30; with_reducible refine HAL.out.mono ?_; rintro e2 w5 ⟨p5, rfl, s5, hg, hc⟩; have HIM := Hide.mk (hg.image hc); clear hg hc)
              | (go_at_call 27; with_reducible refine HIM.out.mono ?_; rintro e2 w6 ⟨rfl, s6, hg⟩; have G6 := Hide.mk hg; clear hg))
            go_meet
            exact ⟨p5, s6, last, 0, rfl, rfl, rfl, G6⟩
        case rest =>
          obtain ⟨p, s, last, e, rfl, rfl, rfl, hG2⟩ := hcut
          clear HCELL HIN HBY HQ hG
          by_cases hd : s.dirty = true
          · have HDY0 := hG2.out.dirty
            rw [hd] at HDY0
            have HDY := Hide.mk HDY0
            clear hd HDY0
            go_wp2_with (first
              | (go_at_call 22; with_reducible refine HDY.out.mono ?_; rintro e2 w7 ⟨rfl, hg⟩; have G7 := Hide.mk hg; have HID := Hide.mk hg.ids; clear hg))
            go_roundw
            case rel => exact ⟨i + 1, p, s, last, e, by go_num, rfl, rfl, rfl, ⟨by have := LT.out; omega⟩, G7⟩
            case measure => simp [intOf]; omega
          · have hd : s.dirty = false := by simpa using hd
            have HDY0 := hG2.out.dirty
            have hct := hG2.out.count hd
            rw [hd] at HDY0
            have HDY := Hide.mk HDY0
            obtain ⟨n, hn⟩ : ∃ n, s.ids.length = n := ⟨_, rfl⟩
            rw [hn] at hct
            obtain ⟨hn3, hct⟩ := hct
            clear hd HDY0
            rcases hct with ⟨hn0, hu⟩ | ⟨hn0, x, hx, hx0, hx1, hu⟩
            · subst hn0
              have HU := Hide.mk hu
              clear hu
              go_wp2_with (first
                | (go_at_call 22; with_reducible refine HDY.out.mono ?_; rintro e2 w7 ⟨rfl, hg⟩; have G7 := Hide.mk hg; have HID := Hide.mk hg.ids; clear hg)
                | (go_at_call 21; with_reducible refine HID.out.mono ?_; rintro e2 w8 ⟨A8, c8, rfl, hi8, hg⟩; rw [hn]; have HUS0 := hg.used; rw [HU.out] at HUS0; have HUS := Hide.mk HUS0; have I8 := Hide.mk hi8; clear hg HUS0)
                | (go_at_call 24; with_reducible refine HUS.out.mono ?_; rintro e2 w9 ⟨rfl, hg⟩; have G9 := Hide.mk hg; clear hg))
              go_roundw
              case rel => exact ⟨i + 1, p, s, last, e, by go_num, rfl, rfl, rfl, ⟨by have := LT.out; omega⟩, G9⟩
              case measure => simp [intOf]; omega
            · have HU := Hide.mk hu
              have HN := Hide.mk hn
              have HX := Hide.mk (show rd s.ids ((n : Int) - 1) = x by rw [← hx]; congr 1; omega)
              have hnp : (0 : Int) < (n : Int) := by omega
              have g1 : (0 : Int) ≤ (n : Int) - 1 := by omega
              have g2 : (n : Int) - 1 < (n : Int) := by omega
              have hq0 : 0 ≤ Int.tdiv (x + 122) 123 ∧ Int.tdiv (x + 122) 123 ≤ 100 := by
                rw [Int.tdiv_eq_ediv_of_nonneg (by omega)]
                omega
              clear hu hx
              go_wp2_with (first
                | (go_at_call 22; with_reducible refine HDY.out.mono ?_; rintro e2 w7 ⟨rfl, hg⟩; have G7 := Hide.mk hg; have HID := Hide.mk hg.ids; clear hg)
                | (go_at_call 21; with_reducible refine HID.out.mono ?_; rintro e2 w8 ⟨A8, c8, rfl, hi8, hg⟩; rw [hn]; have HUS0 := hg.used; rw [HU.out] at HUS0; have HUS := Hide.mk HUS0; have I8 := Hide.mk hi8; clear hg HUS0; obtain ⟨a8, ha8, hc8⟩ := Kd.at_int I8.out.reads ((n : Int) - 1) (by omega) (by have := HN.out; omega); rw [show ((n : Int) - 1).toNat = n - 1 by omega, HX.out] at hc8; subst ha8; have I9 := I8)
                | (go_at_call 24; with_reducible refine HUS.out.mono ?_; rintro e2 w9 ⟨rfl, hg⟩; have G9 := Hide.mk hg; clear hg))
              go_roundw
              case rel => exact ⟨i + 1, p, s, last, e, by go_num, rfl, rfl, rfl, ⟨by have := LT.out; omega⟩, G9⟩
              case measure => simp [intOf]; omega
      · have hlt : ¬ (i : Int) < (L : Int) := by omega
        have B3 := Hide.mk hG.out.on.below
        clear hlt0 hG
        go_wp2_with (first
          | (go_at_call 18; refine (awake_any _).mono ?_; rintro e wA ⟨rfl, hb⟩; have BA := Hide.mk hb; clear hb))
        go_ret
        exact ⟨rfl, B3.out.trans (BA.out.mono B3.out.size)⟩
  · have hf : fewB l 40 = false := by simpa using hf
    rw [hf] at HF0
    have HFEW := Hide.mk HF0
    clear h hL hf HF0 hmx
    go_enter Tryz.func5, Tryz.ntmps5
    go_wp2_with (first
      | (go_at_call 26; with_reducible refine HFEW.out.mono ?_; rintro e wF ⟨rfl, hw⟩; obtain rfl : w = wF := hw.symm)
      | (go_at_call 18; refine (awake_any _).mono ?_; rintro e wA ⟨rfl, hb⟩; have BA := Hide.mk hb; clear hb))
    go_ret
    exact ⟨rfl, BA.out⟩
end Go.Proofs.YtgmkbcoahilkhaaGreat.Sh
end
section
namespace Go.Proofs.YtgmkbcoahilkhaaGreatW.PrintWords
open Go.ChangeShapes Go.WideShapes
end Go.Proofs.YtgmkbcoahilkhaaGreatW.PrintWords
end
