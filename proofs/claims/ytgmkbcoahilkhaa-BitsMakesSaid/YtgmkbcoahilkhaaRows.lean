/-
  No cell of these rows narrows 'for every input' (looked for: loops, veiled, ifaces, maps, wideKeys, modest, calm, conditions, laid).
  DERIVED. THE GIVEN ROWS OF THIS SEAT. 5 by the template 'for every input the law returns true; each argument reads behind the call as it read before'; 0 by the template 'total and deterministic' (their statements: YtgmkbcoahilkhaaTotals.lean).
  GIVEN WITH THE SEED: the statements are not yours to turn. If you find one false, say at which input.
  Laid BY PROGRAM, IN A SANDBOX (cutbox-rows.mjs): the forced cells as the released guide's own fill.sh prints them over the translation 893ae84acb8af372… (all of the seat's roots in one cut). By AI agents, Wed Nov 11 2026. No macro, syntax, notation, axiom, sorry.
-/
import Derived.Test.YtgmkbcoahilkhaaChecked
import GoSem.Claim
import GoSem.ClaimJoined
import GoSem.ClaimMapViews
import Derived.JoinedTies
import Derived.KernelRfl
namespace Go.Proofs.Ytgmkbcoahilkhaa
/- THE CELL 'sum', in the pinned program and in every row, IS THE sha256 OF THE DUMP (.gsa) THAT YtgmkbcoahilkhaaProg.lean LOADS. Nothing in Lean hashes anything: it is a label: what it is worth is what the hold of that sum in a sandbox is worth. -/
noncomputable def Try.pinned : Pinned := { name := "ytgmkbcoahilkhaa", sum := "893ae84acb8af37295c8d168f8597dc6709b11f412ecb1a4247e41c5f6ea8833", checked := Try.checked }
namespace Rows
def none {H : Type} : Left H := { results := [], args := [] }

/-- 'intarsialaw04.BitsWith': WHATEVER THE INPUT: true; the input reads as it did. -/
def bitsWithSpec : ChangeSpec := { name := "bitsWith", fn := fun _ => fun
  | [d1, d2, d3] => { results := [.lit (.bool true)], args := [d1, d2, d3] }
  | _ => none }
def bitsWithRow : OpenClaim := { program := "ytgmkbcoahilkhaa", sum := "893ae84acb8af37295c8d168f8597dc6709b11f412ecb1a4247e41c5f6ea8833", func := "intarsia/intarsialaw04.BitsWith", spec := "bitsWith", apart := false }
def BitsWithSaid : Prop := bitsWithRow.holds Try.pinned (OpenSpec.ofChange bitsWithSpec)

/-- ITS FALSE NEIGHBOUR: 'it returns false'. Refute it at one input. -/
def bitsWithWrong : ChangeSpec := { name := "bitsWith", fn := fun _ => fun
  | [d1, d2, d3] => { results := [.lit (.bool false)], args := [d1, d2, d3] }
  | _ => none }
def BitsWithWrongFalsely : Prop := bitsWithRow.holds Try.pinned (OpenSpec.ofChange bitsWithWrong)

/-- 'intarsialaw04.BitsLooks': WHATEVER THE INPUT: true; the input reads as it did. -/
def bitsLooksSpec : ChangeSpec := { name := "bitsLooks", fn := fun _ => fun
  | [d1, d2, d3] => { results := [.lit (.bool true)], args := [d1, d2, d3] }
  | _ => none }
def bitsLooksRow : OpenClaim := { program := "ytgmkbcoahilkhaa", sum := "893ae84acb8af37295c8d168f8597dc6709b11f412ecb1a4247e41c5f6ea8833", func := "intarsia/intarsialaw04.BitsLooks", spec := "bitsLooks", apart := false }
def BitsLooksSaid : Prop := bitsLooksRow.holds Try.pinned (OpenSpec.ofChange bitsLooksSpec)

/-- ITS FALSE NEIGHBOUR: 'it returns false'. Refute it at one input. -/
def bitsLooksWrong : ChangeSpec := { name := "bitsLooks", fn := fun _ => fun
  | [d1, d2, d3] => { results := [.lit (.bool false)], args := [d1, d2, d3] }
  | _ => none }
def BitsLooksWrongFalsely : Prop := bitsLooksRow.holds Try.pinned (OpenSpec.ofChange bitsLooksWrong)

/-- 'intarsialaw04.BitsMakes': WHATEVER THE INPUT: true; the input reads as it did. -/
def bitsMakesSpec : ChangeSpec := { name := "bitsMakes", fn := fun _ => fun
  | [d1, d2, d3] => { results := [.lit (.bool true)], args := [d1, d2, d3] }
  | _ => none }
def bitsMakesRow : OpenClaim := { program := "ytgmkbcoahilkhaa", sum := "893ae84acb8af37295c8d168f8597dc6709b11f412ecb1a4247e41c5f6ea8833", func := "intarsia/intarsialaw04.BitsMakes", spec := "bitsMakes", unfollowed := true, recurses := true, apart := false }
def BitsMakesSaid : Prop := bitsMakesRow.holds Try.pinned (OpenSpec.ofChange bitsMakesSpec)

/-- ITS FALSE NEIGHBOUR: 'it returns false'. Refute it at one input. -/
def bitsMakesWrong : ChangeSpec := { name := "bitsMakes", fn := fun _ => fun
  | [d1, d2, d3] => { results := [.lit (.bool false)], args := [d1, d2, d3] }
  | _ => none }
def BitsMakesWrongFalsely : Prop := bitsMakesRow.holds Try.pinned (OpenSpec.ofChange bitsMakesWrong)

/-- 'intarsialaw04.BitsFills': WHATEVER THE INPUT: true; the input reads as it did. -/
def bitsFillsSpec : ChangeSpec := { name := "bitsFills", fn := fun _ => fun
  | [d] => { results := [.lit (.bool true)], args := [d] }
  | _ => none }
def bitsFillsRow : OpenClaim := { program := "ytgmkbcoahilkhaa", sum := "893ae84acb8af37295c8d168f8597dc6709b11f412ecb1a4247e41c5f6ea8833", func := "intarsia/intarsialaw04.BitsFills", spec := "bitsFills", unfollowed := true, recurses := true, apart := false }
def BitsFillsSaid : Prop := bitsFillsRow.holds Try.pinned (OpenSpec.ofChange bitsFillsSpec)

/-- ITS FALSE NEIGHBOUR: 'it returns false'. Refute it at one input. -/
def bitsFillsWrong : ChangeSpec := { name := "bitsFills", fn := fun _ => fun
  | [d] => { results := [.lit (.bool false)], args := [d] }
  | _ => none }
def BitsFillsWrongFalsely : Prop := bitsFillsRow.holds Try.pinned (OpenSpec.ofChange bitsFillsWrong)

/-- 'intarsialaw04.BitsSets': WHATEVER THE INPUT: true; the input reads as it did. -/
def bitsSetsSpec : ChangeSpec := { name := "bitsSets", fn := fun _ => fun
  | [d1, d2] => { results := [.lit (.bool true)], args := [d1, d2] }
  | _ => none }
def bitsSetsRow : OpenClaim := { program := "ytgmkbcoahilkhaa", sum := "893ae84acb8af37295c8d168f8597dc6709b11f412ecb1a4247e41c5f6ea8833", func := "intarsia/intarsialaw04.BitsSets", spec := "bitsSets", unfollowed := true, recurses := true, apart := false }
def BitsSetsSaid : Prop := bitsSetsRow.holds Try.pinned (OpenSpec.ofChange bitsSetsSpec)

/-- ITS FALSE NEIGHBOUR: 'it returns false'. Refute it at one input. -/
def bitsSetsWrong : ChangeSpec := { name := "bitsSets", fn := fun _ => fun
  | [d1, d2] => { results := [.lit (.bool false)], args := [d1, d2] }
  | _ => none }
def BitsSetsWrongFalsely : Prop := bitsSetsRow.holds Try.pinned (OpenSpec.ofChange bitsSetsWrong)

/- THE SECOND FORM. 'bulk': how many values and letters a reading holds, each counted each time it is reached (what is shared counts as often as it is met; a slice's spare places count too). A statement '..UptoSaid' is the law's where the arguments, and the package variables that the reading takes, are together of bulk at most 1048576: NARROWER than '..Said'. Prove '..Said' where nothing that the law and all that it calls make is longer than what came in: it says more and counts as full. Else prove '..UptoSaid'. A law counts once. -/
mutual
def uptoBulk {H : Type} : DataW H → Nat
  | .lit (.string bytes) => bytes.length + 1
  | .lit _ => 1
  | .nil => 1
  | .ptr d => uptoBulk d + 1
  | .slice elems spare => uptoBulkAll elems + uptoBulkAll spare + 1
  | .agg parts => uptoBulkAll parts + 1
  | .iface _ d => uptoBulk d + 1
  | .map entries => uptoBulkEntries entries + 1
  | .held _ => 1
def uptoBulkAll {H : Type} : List (DataW H) → Nat
  | [] => 0
  | d :: r => uptoBulk d + uptoBulkAll r
def uptoBulkEntries {H : Type} : List (Lit × DataW H) → Nat
  | [] => 0
  | x :: r => uptoBulkEntry x + uptoBulkEntries r
def uptoBulkEntry {H : Type} : Lit × DataW H → Nat
  | (.string bytes, d) => bytes.length + uptoBulk d + 1
  | (_, d) => uptoBulk d + 1
 end
def uptoSmall : (H : Type) → List (DataW H) → Bool := fun _ ds => decide (uptoBulkAll ds ≤ 1048576)
def OpenSpec.upto (s : _root_.Go.ChangeSpec) : _root_.Go.OpenSpec := { _root_.Go.OpenSpec.ofChange s with cond := some uptoSmall }

/-- 'intarsialaw04.BitsWith', WHERE WHAT IT READS IS OF BULK AT MOST 1048576: true; the input reads as it did. -/
def bitsWithUptoRow : OpenClaim := { program := "ytgmkbcoahilkhaa", sum := "893ae84acb8af37295c8d168f8597dc6709b11f412ecb1a4247e41c5f6ea8833", func := "intarsia/intarsialaw04.BitsWith", spec := "bitsWith", apart := false, narrowed := true }
def BitsWithUptoSaid : Prop := bitsWithUptoRow.holds Try.pinned (OpenSpec.upto bitsWithSpec)

/-- 'intarsialaw04.BitsLooks', WHERE WHAT IT READS IS OF BULK AT MOST 1048576: true; the input reads as it did. -/
def bitsLooksUptoRow : OpenClaim := { program := "ytgmkbcoahilkhaa", sum := "893ae84acb8af37295c8d168f8597dc6709b11f412ecb1a4247e41c5f6ea8833", func := "intarsia/intarsialaw04.BitsLooks", spec := "bitsLooks", apart := false, narrowed := true }
def BitsLooksUptoSaid : Prop := bitsLooksUptoRow.holds Try.pinned (OpenSpec.upto bitsLooksSpec)

/-- 'intarsialaw04.BitsMakes', WHERE WHAT IT READS IS OF BULK AT MOST 1048576: true; the input reads as it did. -/
def bitsMakesUptoRow : OpenClaim := { program := "ytgmkbcoahilkhaa", sum := "893ae84acb8af37295c8d168f8597dc6709b11f412ecb1a4247e41c5f6ea8833", func := "intarsia/intarsialaw04.BitsMakes", spec := "bitsMakes", unfollowed := true, recurses := true, apart := false, narrowed := true }
def BitsMakesUptoSaid : Prop := bitsMakesUptoRow.holds Try.pinned (OpenSpec.upto bitsMakesSpec)

/-- 'intarsialaw04.BitsFills', WHERE WHAT IT READS IS OF BULK AT MOST 1048576: true; the input reads as it did. -/
def bitsFillsUptoRow : OpenClaim := { program := "ytgmkbcoahilkhaa", sum := "893ae84acb8af37295c8d168f8597dc6709b11f412ecb1a4247e41c5f6ea8833", func := "intarsia/intarsialaw04.BitsFills", spec := "bitsFills", unfollowed := true, recurses := true, apart := false, narrowed := true }
def BitsFillsUptoSaid : Prop := bitsFillsUptoRow.holds Try.pinned (OpenSpec.upto bitsFillsSpec)

/-- 'intarsialaw04.BitsSets', WHERE WHAT IT READS IS OF BULK AT MOST 1048576: true; the input reads as it did. -/
def bitsSetsUptoRow : OpenClaim := { program := "ytgmkbcoahilkhaa", sum := "893ae84acb8af37295c8d168f8597dc6709b11f412ecb1a4247e41c5f6ea8833", func := "intarsia/intarsialaw04.BitsSets", spec := "bitsSets", unfollowed := true, recurses := true, apart := false, narrowed := true }
def BitsSetsUptoSaid : Prop := bitsSetsUptoRow.holds Try.pinned (OpenSpec.upto bitsSetsSpec)

end Rows
end Go.Proofs.Ytgmkbcoahilkhaa
