/- ShadowKeeps: wherever the power fails, and whatever becomes of loose blocks: opened again the pages are as behind the last commit that told so, or as behind the one that was under way; for all lists of calls, no condition. -/
import Derived.Test.YtgmkbcoahilkhaaGreatRows
import Derived.WalkKit
import Derived.ProofKit
import Derived.OpenShut
import Derived.ShutString
import Derived.ChangeOld
import Derived.Below
import Derived.SizedLaws
import Derived.Test.YtgmkbcoahilkhaaGreatSKF
namespace Go.Proofs.YtgmkbcoahilkhaaGreat.shadowKeeps
open Go.ChangeShapes Go.WideShapes Go.ChangeAt Go.RowKit
open Go.ChangeMaps (open_string shut_string)
open Go.Proofs.YtgmkbcoahilkhaaGreatW.PrintWords Go.Proofs.YtgmkbcoahilkhaaGreatW.PrintLast Go.Proofs.YtgmkbcoahilkhaaGreatW.PrintMore Go.Proofs.YtgmkbcoahilkhaaGreat.Acts
set_option linter.unusedVariables false
theorem own : ownKnob Tryz.prog.godebug = none := by kernel_rfl
theorem laidOut : laidOutB Tryz.prog = true := by kernel_rfl
theorem byte_of {x : Int} (h : (Lit.int .u8 x).wf = true) : 0 ≤ x ∧ x < 256 := by
  simp only [Lit.wf, Bool.and_eq_true, decide_eq_true_eq] at h
  have h1 : IntKind.u8.min = 0 := rfl
  have h2 : IntKind.u8.max = 255 := rfl
  omega
def IsRow (k : IntKind) (w : World) (a : Option Addr) (len cap : Nat) (zs : List Int) : Prop :=
  (a = none ∧ len = 0 ∧ cap = 0 ∧ zs = []) ∨
  ∃ x, a = some x ∧ len ≤ cap ∧ cap ≤ maxLen ∧ zs.length = cap ∧ (∀ i, i < zs.length → w.cell? (x.add i) = some (.int k (zs.getD i 0))) ∧ ∀ n ∈ zs, (Lit.int k n).wf = true
theorem okSlice_lt {P : Program} {w : World} {base : Nat} {t e : TypeId} {a : Option Addr} {len cap : Nat} (ht : P.underlying t = some (.slice e)) (h : Value.okWide P w .any base t (.slice a len cap)) : ∀ x, a = some x → x.block < w.heap.size := by
  rintro x rfl
  simp only [Value.okWide, ht, Cell.okWide, Cell.ok, World.has] at h
  obtain ⟨_, _, _, _, row, cells, hs, _⟩ := h
  rcases Nat.lt_or_ge x.block w.heap.size with q | q
  · exact q
  · unfold World.shape? at hs
    rw [Array.getElem?_eq_none q] at hs
    cases hs
theorem walk (b0 : Option Addr) (l0 : List ActV) (cap0 : Nat) (w : World) (hm0 : l0.length ≤ 9223372036854775807) (hA0 : ∀ (i : Nat) (hi : i < l0.length), ∃ g o, b0 = some ⟨g, o, none⟩ ∧ ActAt w g (o + i * 10) l0[i]) :
    Calls Tryz.prog 6 #[.slice b0 l0.length cap0] w fun e w' => e = .returned (.bool true) ∧ Below w.heap.size w w' := by
  exact Go.Proofs.YtgmkbcoahilkhaaGreat.Sh.shadowKeeps_any b0 cap0 l0 w ⟨hm0, hA0⟩
set_option maxRecDepth 100000 in
theorem lifted (os : Os) (started : os.Started) (H : Type) (enc : TypeId × Value → H) :
    ReturnsInHanded {} Tryz.checked os 6 .any (Rows.shadowKeepsSpec.pre6 enc Tryz.prog Tryz.f6 Rows.shadowKeepsRow.domain false) (Rows.shadowKeepsSpec.post enc Tryz.prog Tryz.f6 false true false false) := by
  refine returnsInHanded_of_change_sized (C := Tryz.checked) own started (by kernel_rfl) Tryz.func6
    (ChangeSpec.witness6 (enc := enc) (C := Tryz.checked) false ⟨#[], #[.slice none 0 0], []⟩ 8 (by kernel_rfl) (by kernel_rfl) (by kernel_rfl) (by kernel_rfl)) ?_
  intro W base args ds gs before hval0 hW hcnd hsz0 _
  have hsz : (DataW.weightsEach Tryz.prog (Tryz.f6.params.toList ++ Rows.shadowKeepsSpec.plain.varTypes Tryz.prog) (ds ++ gs)).all (· ≤ reachBytes) = true := hsz0
  have hval : ∀ (j : Nat) t v, Tryz.f6.params[j]? = some t → args[j]? = some v → Value.okWide Tryz.prog W .any base t v := hval0
  have hW' := hW
  obtain ⟨p, q, hA0, hV, rfl, hfz, hnd⟩ := hW
  have hA : DataW.TrodAll enc Tryz.prog W 0 (fun _ => true) true Tryz.f6.params.toList args.toList ds p := hA0
  rw [Tryz.params6] at hA hval hsz
  obtain ⟨v0, vs0, d0, ds0, p0, q0, hargs, rfl, rfl, h0, r0⟩ := trodAll_cons hA
  obtain ⟨rfl, rfl, rfl⟩ := trodAll_nil r0
  obtain rfl : args = #[v0] := by cases args; simp_all
  obtain ⟨rfl, rfl⟩ := trodVars_none hV
  obtain ⟨a0, len0, cap0, rfl⟩ := okWide_slice Tryz.underlying43 (hval 0 43 v0 rfl rfl)
  have k0 := h0
  have lt0 : ∀ x ∈ p0, x.block < W.heap.size := by obtain ⟨m, hm⟩ := k0; exact DataW.trod_lt m _ _ _ hm
  obtain ⟨fuel0, hf0⟩ := h0
  obtain ⟨_, l0, _, hv0, hm0, hA0⟩ := open_acts (show DataW.trod _ Tryz.prog _ _ _ _ _ 43 [_] = _ from hf0)
  cases hv0
  clear hA0 hval0 hsz0 hsz
  refine (walk _ l0 _ W hm0 hA0).mono fun e W' ⟨he, bel⟩ => ?_
  subst he
  exact ⟨_, rfl, _, _, _, [], _, [], hW', trodAll_mk1 (shut_bool Tryz.underlying4 _), (trodAll_cons_mk (Below.trod laidOut (by kernel_rfl) (of_decide_eq_true (by kernel_rfl)) k0 bel lt0) trodAll_mk0), rfl, bel.frame _, fun h => by cases h⟩
theorem over : Rows.shadowKeepsRow.holds Tryz.pinned (OpenSpec.ofChange Rows.shadowKeepsSpec) :=
  OpenClaim.holds_of_wide 6 Tryz.f6 rfl rfl rfl rfl rfl rfl rfl ⟨rfl, rfl, rfl, rfl, rfl⟩ rfl rfl rfl rfl rfl (by kernel_rfl) Tryz.func6 (by kernel_rfl)
    (of_decide_eq_true (by kernel_rfl)) (by unfold Func.isWrapper; first | (rw [if_pos (by decide +kernel)]; kernel_rfl) | (rw [if_neg (by decide +kernel)]; exact ⟨rfl, rfl⟩))
    (fun os started H enc _ => lifted os started H enc)
theorem proved : Rows.ShadowKeepsSaid := over
#print axioms proved
end Go.Proofs.YtgmkbcoahilkhaaGreat.shadowKeeps
namespace Go.Proofs.YtgmkbcoahilkhaaGreat
/-- The row, under a short name, for the claim. -/
theorem shadowKeeps_holds : Rows.ShadowKeepsSaid := shadowKeeps.proved
end Go.Proofs.YtgmkbcoahilkhaaGreat
