/-
  No cell of these rows narrows 'for every input' (looked for: loops, veiled, ifaces, maps, wideKeys, modest, calm, conditions, laid).
  DERIVED. THE GIVEN ROWS OF THIS SEAT. 6 by the template 'for every input the law returns true; each argument reads behind the call as it read before'; 0 by the template 'total and deterministic' (their statements: YtplkndmkchpcdaaGreatTotals.lean).
  GIVEN WITH THE SEED: the statements are not yours to turn. If you find one false, say at which input.
  Laid BY PROGRAM, IN A SANDBOX (cutbox-rows.mjs): the forced cells as the released guide's own fill.sh prints them over the translation ee2c9c25f9db914c… (all of the seat's roots in one cut). By AI agents, Wed Nov 11 2026. No macro, syntax, notation, axiom, sorry.
-/
import Derived.Test.YtplkndmkchpcdaaGreatChecked
import GoSem.Claim
import GoSem.ClaimJoined
import GoSem.ClaimMapViews
import Derived.JoinedTies
import Derived.KernelRfl
namespace Go.Proofs.YtplkndmkchpcdaaGreat
/- THE CELL 'sum', in the pinned program and in every row, IS THE sha256 OF THE DUMP (.gsa) THAT YtplkndmkchpcdaaGreatProg.lean LOADS. Nothing in Lean hashes anything: it is a label: what it is worth is what the hold of that sum in a sandbox is worth. -/
noncomputable def Tryz.pinned : Pinned := { name := "ytplkndmkchpcdaagreat", sum := "ee2c9c25f9db914cca28c58f61cd6323053996d435ef8486dcc2084976f2fcf8", checked := Tryz.checked }
namespace Rows
def none {H : Type} : Left H := { results := [], args := [] }

/-- 'intarsialaw08.PoolHolds': WHATEVER THE INPUT: true; the input reads as it did. -/
def poolHoldsSpec : ChangeSpec := { name := "poolHolds", fn := fun _ => fun
  | [d1, d2] => { results := [.lit (.bool true)], args := [d1, d2] }
  | _ => none }
def poolHoldsRow : OpenClaim := { program := "ytplkndmkchpcdaagreat", sum := "ee2c9c25f9db914cca28c58f61cd6323053996d435ef8486dcc2084976f2fcf8", func := "intarsia/intarsialaw08.PoolHolds", spec := "poolHolds", unfollowed := true, recurses := true, apart := false }
def PoolHoldsSaid : Prop := poolHoldsRow.holds Tryz.pinned (OpenSpec.ofChange poolHoldsSpec)

/-- ITS FALSE NEIGHBOUR: 'it returns false'. Refute it at one input. -/
def poolHoldsWrong : ChangeSpec := { name := "poolHolds", fn := fun _ => fun
  | [d1, d2] => { results := [.lit (.bool false)], args := [d1, d2] }
  | _ => none }
def PoolHoldsWrongFalsely : Prop := poolHoldsRow.holds Tryz.pinned (OpenSpec.ofChange poolHoldsWrong)

/-- 'intarsialaw07.ShadowFills': WHATEVER THE INPUT: true; the input reads as it did. -/
def shadowFillsSpec : ChangeSpec := { name := "shadowFills", fn := fun _ => fun
  | [d1, d2] => { results := [.lit (.bool true)], args := [d1, d2] }
  | _ => none }
def shadowFillsRow : OpenClaim := { program := "ytplkndmkchpcdaagreat", sum := "ee2c9c25f9db914cca28c58f61cd6323053996d435ef8486dcc2084976f2fcf8", func := "intarsia/intarsialaw07.ShadowFills", spec := "shadowFills", unfollowed := true, recurses := true, apart := false }
def ShadowFillsSaid : Prop := shadowFillsRow.holds Tryz.pinned (OpenSpec.ofChange shadowFillsSpec)

/-- ITS FALSE NEIGHBOUR: 'it returns false'. Refute it at one input. -/
def shadowFillsWrong : ChangeSpec := { name := "shadowFills", fn := fun _ => fun
  | [d1, d2] => { results := [.lit (.bool false)], args := [d1, d2] }
  | _ => none }
def ShadowFillsWrongFalsely : Prop := shadowFillsRow.holds Tryz.pinned (OpenSpec.ofChange shadowFillsWrong)

/-- 'intarsialaw07.ShadowSplits': WHATEVER THE INPUT: true; the input reads as it did. -/
def shadowSplitsSpec : ChangeSpec := { name := "shadowSplits", fn := fun _ => fun
  | [d] => { results := [.lit (.bool true)], args := [d] }
  | _ => none }
def shadowSplitsRow : OpenClaim := { program := "ytplkndmkchpcdaagreat", sum := "ee2c9c25f9db914cca28c58f61cd6323053996d435ef8486dcc2084976f2fcf8", func := "intarsia/intarsialaw07.ShadowSplits", spec := "shadowSplits", unfollowed := true, recurses := true, apart := false }
def ShadowSplitsSaid : Prop := shadowSplitsRow.holds Tryz.pinned (OpenSpec.ofChange shadowSplitsSpec)

/-- ITS FALSE NEIGHBOUR: 'it returns false'. Refute it at one input. -/
def shadowSplitsWrong : ChangeSpec := { name := "shadowSplits", fn := fun _ => fun
  | [d] => { results := [.lit (.bool false)], args := [d] }
  | _ => none }
def ShadowSplitsWrongFalsely : Prop := shadowSplitsRow.holds Tryz.pinned (OpenSpec.ofChange shadowSplitsWrong)

/-- 'intarsialaw07.ShadowKeeps': WHATEVER THE INPUT: true; the input reads as it did. -/
def shadowKeepsSpec : ChangeSpec := { name := "shadowKeeps", fn := fun _ => fun
  | [d] => { results := [.lit (.bool true)], args := [d] }
  | _ => none }
def shadowKeepsRow : OpenClaim := { program := "ytplkndmkchpcdaagreat", sum := "ee2c9c25f9db914cca28c58f61cd6323053996d435ef8486dcc2084976f2fcf8", func := "intarsia/intarsialaw07.ShadowKeeps", spec := "shadowKeeps", unfollowed := true, recurses := true, apart := false }
def ShadowKeepsSaid : Prop := shadowKeepsRow.holds Tryz.pinned (OpenSpec.ofChange shadowKeepsSpec)

/-- ITS FALSE NEIGHBOUR: 'it returns false'. Refute it at one input. -/
def shadowKeepsWrong : ChangeSpec := { name := "shadowKeeps", fn := fun _ => fun
  | [d] => { results := [.lit (.bool false)], args := [d] }
  | _ => none }
def ShadowKeepsWrongFalsely : Prop := shadowKeepsRow.holds Tryz.pinned (OpenSpec.ofChange shadowKeepsWrong)

/-- 'intarsialaw08.PoolSees': WHATEVER THE INPUT: true; the input reads as it did. -/
def poolSeesSpec : ChangeSpec := { name := "poolSees", fn := fun _ => fun
  | [d1, d2] => { results := [.lit (.bool true)], args := [d1, d2] }
  | _ => none }
def poolSeesRow : OpenClaim := { program := "ytplkndmkchpcdaagreat", sum := "ee2c9c25f9db914cca28c58f61cd6323053996d435ef8486dcc2084976f2fcf8", func := "intarsia/intarsialaw08.PoolSees", spec := "poolSees", unfollowed := true, recurses := true, apart := false }
def PoolSeesSaid : Prop := poolSeesRow.holds Tryz.pinned (OpenSpec.ofChange poolSeesSpec)

/-- ITS FALSE NEIGHBOUR: 'it returns false'. Refute it at one input. -/
def poolSeesWrong : ChangeSpec := { name := "poolSees", fn := fun _ => fun
  | [d1, d2] => { results := [.lit (.bool false)], args := [d1, d2] }
  | _ => none }
def PoolSeesWrongFalsely : Prop := poolSeesRow.holds Tryz.pinned (OpenSpec.ofChange poolSeesWrong)

/-- 'intarsialaw08.PoolNews': WHATEVER THE INPUT: true; the input reads as it did. -/
def poolNewsSpec : ChangeSpec := { name := "poolNews", fn := fun _ => fun
  | [d] => { results := [.lit (.bool true)], args := [d] }
  | _ => none }
def poolNewsRow : OpenClaim := { program := "ytplkndmkchpcdaagreat", sum := "ee2c9c25f9db914cca28c58f61cd6323053996d435ef8486dcc2084976f2fcf8", func := "intarsia/intarsialaw08.PoolNews", spec := "poolNews", unfollowed := true, recurses := true, apart := false }
def PoolNewsSaid : Prop := poolNewsRow.holds Tryz.pinned (OpenSpec.ofChange poolNewsSpec)

/-- ITS FALSE NEIGHBOUR: 'it returns false'. Refute it at one input. -/
def poolNewsWrong : ChangeSpec := { name := "poolNews", fn := fun _ => fun
  | [d] => { results := [.lit (.bool false)], args := [d] }
  | _ => none }
def PoolNewsWrongFalsely : Prop := poolNewsRow.holds Tryz.pinned (OpenSpec.ofChange poolNewsWrong)

/- THE SECOND FORM. 'bulk': how many values and letters a reading holds, each counted each time it is reached (what is shared counts as often as it is met; a slice's spare places count too). A statement '..UptoSaid' is the law's where the arguments, and the package variables that the reading takes, are together of bulk at most 1048576: NARROWER than '..Said'. Prove '..Said' where nothing that the law and all that it calls make is longer than what came in: it says more and counts as full. Else prove '..UptoSaid'. A law counts once. -/
mutual
def uptoBulk {H : Type} : DataW H → Nat
  | .lit (.string bytes) => bytes.length + 1
  | .lit _ => 1
  | .nil => 1
  | .ptr d => uptoBulk d + 1
  | .slice elems spare => uptoBulkAll elems + uptoBulkAll spare + 1
  | .agg parts => uptoBulkAll parts + 1
  | .iface _ d => uptoBulk d + 1
  | .map entries => uptoBulkEntries entries + 1
  | .held _ => 1
def uptoBulkAll {H : Type} : List (DataW H) → Nat
  | [] => 0
  | d :: r => uptoBulk d + uptoBulkAll r
def uptoBulkEntries {H : Type} : List (Lit × DataW H) → Nat
  | [] => 0
  | x :: r => uptoBulkEntry x + uptoBulkEntries r
def uptoBulkEntry {H : Type} : Lit × DataW H → Nat
  | (.string bytes, d) => bytes.length + uptoBulk d + 1
  | (_, d) => uptoBulk d + 1
 end
def uptoSmall : (H : Type) → List (DataW H) → Bool := fun _ ds => decide (uptoBulkAll ds ≤ 1048576)
def OpenSpec.upto (s : _root_.Go.ChangeSpec) : _root_.Go.OpenSpec := { _root_.Go.OpenSpec.ofChange s with cond := some uptoSmall }

/-- 'intarsialaw08.PoolHolds', WHERE WHAT IT READS IS OF BULK AT MOST 1048576: true; the input reads as it did. -/
def poolHoldsUptoRow : OpenClaim := { program := "ytplkndmkchpcdaagreat", sum := "ee2c9c25f9db914cca28c58f61cd6323053996d435ef8486dcc2084976f2fcf8", func := "intarsia/intarsialaw08.PoolHolds", spec := "poolHolds", unfollowed := true, recurses := true, apart := false, narrowed := true }
def PoolHoldsUptoSaid : Prop := poolHoldsUptoRow.holds Tryz.pinned (OpenSpec.upto poolHoldsSpec)

/-- 'intarsialaw07.ShadowFills', WHERE WHAT IT READS IS OF BULK AT MOST 1048576: true; the input reads as it did. -/
def shadowFillsUptoRow : OpenClaim := { program := "ytplkndmkchpcdaagreat", sum := "ee2c9c25f9db914cca28c58f61cd6323053996d435ef8486dcc2084976f2fcf8", func := "intarsia/intarsialaw07.ShadowFills", spec := "shadowFills", unfollowed := true, recurses := true, apart := false, narrowed := true }
def ShadowFillsUptoSaid : Prop := shadowFillsUptoRow.holds Tryz.pinned (OpenSpec.upto shadowFillsSpec)

/-- 'intarsialaw07.ShadowSplits', WHERE WHAT IT READS IS OF BULK AT MOST 1048576: true; the input reads as it did. -/
def shadowSplitsUptoRow : OpenClaim := { program := "ytplkndmkchpcdaagreat", sum := "ee2c9c25f9db914cca28c58f61cd6323053996d435ef8486dcc2084976f2fcf8", func := "intarsia/intarsialaw07.ShadowSplits", spec := "shadowSplits", unfollowed := true, recurses := true, apart := false, narrowed := true }
def ShadowSplitsUptoSaid : Prop := shadowSplitsUptoRow.holds Tryz.pinned (OpenSpec.upto shadowSplitsSpec)

/-- 'intarsialaw07.ShadowKeeps', WHERE WHAT IT READS IS OF BULK AT MOST 1048576: true; the input reads as it did. -/
def shadowKeepsUptoRow : OpenClaim := { program := "ytplkndmkchpcdaagreat", sum := "ee2c9c25f9db914cca28c58f61cd6323053996d435ef8486dcc2084976f2fcf8", func := "intarsia/intarsialaw07.ShadowKeeps", spec := "shadowKeeps", unfollowed := true, recurses := true, apart := false, narrowed := true }
def ShadowKeepsUptoSaid : Prop := shadowKeepsUptoRow.holds Tryz.pinned (OpenSpec.upto shadowKeepsSpec)

/-- 'intarsialaw08.PoolSees', WHERE WHAT IT READS IS OF BULK AT MOST 1048576: true; the input reads as it did. -/
def poolSeesUptoRow : OpenClaim := { program := "ytplkndmkchpcdaagreat", sum := "ee2c9c25f9db914cca28c58f61cd6323053996d435ef8486dcc2084976f2fcf8", func := "intarsia/intarsialaw08.PoolSees", spec := "poolSees", unfollowed := true, recurses := true, apart := false, narrowed := true }
def PoolSeesUptoSaid : Prop := poolSeesUptoRow.holds Tryz.pinned (OpenSpec.upto poolSeesSpec)

/-- 'intarsialaw08.PoolNews', WHERE WHAT IT READS IS OF BULK AT MOST 1048576: true; the input reads as it did. -/
def poolNewsUptoRow : OpenClaim := { program := "ytplkndmkchpcdaagreat", sum := "ee2c9c25f9db914cca28c58f61cd6323053996d435ef8486dcc2084976f2fcf8", func := "intarsia/intarsialaw08.PoolNews", spec := "poolNews", unfollowed := true, recurses := true, apart := false, narrowed := true }
def PoolNewsUptoSaid : Prop := poolNewsUptoRow.holds Tryz.pinned (OpenSpec.upto poolNewsSpec)

end Rows
end Go.Proofs.YtplkndmkchpcdaaGreat
