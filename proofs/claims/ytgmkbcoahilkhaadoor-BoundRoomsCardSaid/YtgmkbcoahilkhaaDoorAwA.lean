/- bound's one closed case: what every right program reckons. -/
import Derived.Test.YtgmkbcoahilkhaaDoorUses
import Derived.Test.YtgmkbcoahilkhaaDoorWFoot
import Derived.Test.YtgmkbcoahilkhaaDoorWInvWords
import Derived.Maps.OwnOps
import Derived.Deep.LoopGhost
import Derived.BigQuiet
import Derived.Maps.AppendAt
import Derived.Maps.Keyed
namespace Go.Proofs.YtgmkbcoahilkhaaDoor.Awake
open Go.RowKit Go.Maps Go.Proofs.YtgmkbcoahilkhaaDoorW.PrintWords Go.Proofs.YtgmkbcoahilkhaaDoorW.PrintLast Go.Proofs.YtgmkbcoahilkhaaDoorW.PrintMore
set_option linter.unusedVariables false
set_option linter.unusedSimpArgs false
attribute [local go_sem] max2_int min2_int max_two min_two
set_option maxHeartbeats 2000000
set_option maxRecDepth 100000

theorem pages10 (w : World) : Calls Tryd.prog 5 #[.int .i64 10] w fun e w' => e = .returned (.int .i64 1044) ∧ Below w.heap.size w w' := by
  go_enter Tryd.func5, Tryd.ntmps5
  go_wp2
  go_ret
  exact ⟨rfl, Below.refl _ _⟩
theorem blocks10 (w : World) : Calls Tryd.prog 7 #[.int .i64 10] w fun e w' => e = .returned (.int .i64 2148) ∧ Below w.heap.size w w' := by
  go_enter Tryd.func7, Tryd.ntmps7
  go_wp2_with (go_at_call 5; refine (pages10 _).mono ?_; rintro e w1 ⟨rfl, hb⟩; have B1 := Aside0.mk hb; clear hb)
  go_ret
  exact ⟨rfl, B1.out⟩
theorem node0 (a b c d s f : Value) (w : World) : Calls Tryd.prog 12 #[.agg #[a, b, c, d, s], .int .i64 0, f] w fun e w' => e = .returned (.int .i64 0) ∧ Below w.heap.size w w' := by
  go_enter Tryd.func12, Tryd.ntmps12
  go_wp2
  go_ret
  exact ⟨rfl, below_alloc (Below.refl _ _) _⟩
theorem passing0 (a b d s g cl vs : Value) (w : World) : Calls Tryd.prog 20 #[.agg #[a, b, .slice none 0 0, d, s], .agg #[g, cl, vs]] w fun e w' => e = .returned (.slice none 0 0) ∧ Below w.heap.size w w' := by
  go_enter Tryd.func20, Tryd.ntmps20
  go_wp2
  refine wp_loop_rounds 1 ?_
  rw [rounds_succ]
  go_wp2
  go_ret
  exact ⟨rfl, below_alloc (below_alloc (Below.refl _ _) _) _⟩

/-- The set of the tags seen so far. -/
def seen : Nat → DataW Unit
  | 0 => .map []
  | n + 1 => (seen n).put (.int .i64 ((n : Int) + 1)) (.lit (.bool true))
abbrev isSet (w : World) (mb n : Nat) : Prop := w.ownsMap Tryd.prog 3 (plainElem Tryd.prog 4) mb n (seen n)

theorem wpList_lookup_bool {H : Type} {P : Program} (w : World) {ops : Array Oper} {rest : List Oper} {o : Oper} {a : Act} {Q : Exit → Act → World → Prop}
    (hg : o.guard = none) (m x : Operand) (t : TypeId) (hop : o.op = Op.lookup t m x false)
    (k e : TypeId) (K : Maps.Keyed P k) (ht : P.underlying t = some (.map k e)) (he : P.underlying e = some .bool) (hz : (zeroValue e).run P w = .ok (.bool false) w) (b n : Nat) (D : DataW H)
    (hm : a.eval m = .map (some b)) (hown : w.ownsMap P k (plainElem P e) b n D) (key : Value) (kl : Lit) (hx : a.eval x = key) (hkey : keyOf P k key = some kl) (y : Bool) (hy : D.atKey kl (.lit (.bool false)) = .lit (.bool y))
    (hK : wpList P ops Q rest (a.put o.dst (.bool y)) w) : wpList P ops Q (o :: rest) a w := by
  refine wpList_plain hg fun K' hK' => ?_
  obtain ⟨v, ps, hrun, hv⟩ := hown.lookup K ht hz (plainElem_bool he false) hkey
  rw [hy] at hv
  have ev : v = .bool y := by
    unfold plainElem at hv
    rw [he] at hv
    cases v <;> simp at hv
    rw [hv.1]
  subst ev
  unfold Oper.wp
  simp [execOp, hop, hm, hx, hrun, Result.andThen]
  exact hK' _ _ hK

theorem law3 : Maps.Keyed Tryd.prog 3 := Maps.int_keyed Tryd.underlying3
theorem grown_of_below {w w' : World} (h : Below w.heap.size w w') (row : Option Nat) : w.grownBy w' row := ⟨h.os, h.tape, h.output, h.size, fun k hk _ => h.block k hk⟩
/-- A struct of five cells, and a box of one map, as the closure reads them. -/
structure Five (w : World) (nb : Nat) (a b d s : Value) : Prop where
  c0 : w.cell? ⟨nb, 0, none⟩ = some a
  c1 : w.cell? ⟨nb, 1, none⟩ = some b
  c2 : w.cell? ⟨nb, 2, none⟩ = some (.slice none 0 0)
  c3 : w.cell? ⟨nb, 3, none⟩ = some d
  c4 : w.cell? ⟨nb, 4, none⟩ = some s
theorem Five.grown {w w' : World} {nb mb : Nat} {a b d s : Value} (h : Five w nb a b d s) (hg : w.grownBy w' (some mb)) (hne : nb ≠ mb) : Five w' nb a b d s :=
  ⟨hg.cell h.c0 (by simpa using hne), hg.cell h.c1 (by simpa using hne), hg.cell h.c2 (by simpa using hne), hg.cell h.c3 (by simpa using hne), hg.cell h.c4 (by simpa using hne)⟩

theorem key_wf (n : Nat) (hn : n < 2) : (Lit.int .i64 ((n : Int) + 1)).wf = true := by
  have : n = 0 ∨ n = 1 := by omega
  rcases this with rfl | rfl <;> decide
theorem not_seen (n : Nat) (hn : n < 2) : (seen n).atKey (.int .i64 ((n : Int) + 1)) (.lit (.bool false)) = .lit (.bool false) := by
  have : n = 0 ∨ n = 1 := by omega
  rcases this with rfl | rfl <;> rfl

end Go.Proofs.YtgmkbcoahilkhaaDoor.Awake
