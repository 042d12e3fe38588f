/- What a call of layer 4 (bits) answers, by the plain functions: for sets of few bytes. -/
import Derived.Test.YtgmkbcoahilkhaaPlainB
namespace Go.Proofs.Ytgmkbcoahilkhaa.Total
open Go.RowKit Go.Proofs.Ytgmkbcoahilkhaa.PAll Go.Proofs.YtgmkbcoahilkhaaW.PrintWords Go.Proofs.YtgmkbcoahilkhaaW.PrintLast Go.Proofs.YtgmkbcoahilkhaaW.PrintMore Go.Proofs.Ytgmkbcoahilkhaa.Plain

/-- A slice of bytes that reads as l. -/
structure InB (w : World) (A : Option Addr) (l : List Int) (c : Nat) : Prop where
  reads : Kd.C (Kd.int .u8) w A l.length l
  room : l.length ≤ c
theorem InB.below {w w1 : World} {A : Option Addr} {l : List Int} {c : Nat} (h : InB w A l c) (hb : Below w.heap.size w w1) : InB w1 A l c := ⟨Kd.C_below h.reads hb, h.room⟩
theorem InB.alloc {w : World} {A : Option Addr} {l : List Int} {c : Nat} (h : InB w A l c) (o : Obj) : InB (w.alloc o) A l c := h.below (below_alloc (Below.refl _ _) o)
theorem InB.drew {w : World} {A : Option Addr} {l : List Int} {c : Nat} (h : InB w A l c) (n : Nat) : InB (w.drewN n) A l c := h.below (pw_below_drewN (Below.refl _ _) n)
theorem InB.drew1 {w : World} {A : Option Addr} {l : List Int} {c : Nat} (h : InB w A l c) : InB w.drew A l c := h.below (below_drew (Below.refl _ _))
/-- A slice of bytes of the call's own. -/
def OwnB (w : World) (base : Nat) (v : Value) (l : List Int) : Prop := Kd.R (Kd.int .u8) 5 w base (fun _ => True) v l
theorem OwnB.slice {w : World} {base : Nat} {v : Value} {l : List Int} (h : OwnB w base v l) : ∃ A c, v = .slice A l.length c ∧ InB w A l c := by
  obtain ⟨A, c, rfl, hc, hr⟩ := Kd.R_reads h
  exact ⟨A, c, rfl, hr, hc⟩
theorem OwnB.below {w w1 : World} {base : Nat} {v : Value} {l : List Int} (h : OwnB w base v l) (hb : Below w.heap.size w w1) : OwnB w1 base v l := Kd.R_below h hb

section
variable {A : Option Addr} {c : Nat} {l : List Int} {w : World}
theorem has_any (h : InB w A l c) (hl : Small l) (hb : Bytes l) (i : Int) : Calls Try.prog 10 #[.slice A l.length c, .int .i64 i] w fun e w' => e = .returned (.bool (hasL l i)) ∧ Drawn0 w w' :=
  bits_Has.calls A c l i _ w h.reads h.room (has_eq hl hb i)
theorem with_any (h : InB w A l c) (hl : Small l) (i : Int) (on : Bool) : Calls Try.prog 9 #[.slice A l.length c, .int .i64 i, .bool on] w fun e w' => ∃ v : Value, e = .returned v ∧ OwnB w' w.heap.size v (withL l i on) ∧ Below w.heap.size w w' :=
  bits_With.calls A c l i on _ w h.reads h.room (with_eq hl i on)
theorem first_any (h : InB w A l c) (hl : Small l) (hb : Bytes l) (i : Int) (hi : i ≤ 9223372036854775807) : Calls Try.prog 11 #[.slice A l.length c, .int .i64 i] w fun e w' => e = .returned (.tuple #[.int .i64 (firstL l i).1, .bool (firstL l i).2]) ∧ Below w.heap.size w w' :=
  bits_First.calls (8 * l.length + 1) A c l i _ _ w h.reads h.room (first_eq hl hb i hi (Nat.lt_succ_self _))
theorem count_any (h : InB w A l c) (hl : Small l) (hb : Bytes l) : Calls Try.prog 17 #[.slice A l.length c] w fun e w' => e = .returned (.int .i64 ((countL l : Nat) : Int)) ∧ Drawn0 w w' := by
  obtain ⟨k, hk⟩ := (count_eq hl hb).rounds
  exact bits_Count.calls k A c l _ w h.reads h.room hk
theorem awake_any (w : World) : Calls Try.prog 8 #[] w fun e w' => e = .returned (.bool true) ∧ Below w.heap.size w w' :=
  intarsialaw04_awake.calls 40 true w (by decide +kernel)
theorem join_any {A1 : Option Addr} {c1 : Nat} {l1 : List Int} (h : InB w A l c) (h1 : InB w A1 l1 c1) (hl : Small l) (hl1 : Small l1) : Calls Try.prog 20 #[.slice A l.length c, .slice A1 l1.length c1] w fun e w' => ∃ v : Value, e = .returned v ∧ OwnB w' w.heap.size v (Given.joinL Given.orB l l1) ∧ Below w.heap.size w w' := by
  unfold Small at hl hl1
  exact Given.join_any A c l A1 c1 l1 w h.reads h1.reads (by omega) (by omega)
theorem less_any {A1 : Option Addr} {c1 : Nat} {l1 : List Int} (h : InB w A l c) (h1 : InB w A1 l1 c1) (hl : Small l) (hl1 : Small l1) : Calls Try.prog 21 #[.slice A l.length c, .slice A1 l1.length c1] w fun e w' => ∃ v : Value, e = .returned v ∧ OwnB w' w.heap.size v (Given.joinL Given.andNotB l l1) ∧ Below w.heap.size w w' := by
  unfold Small at hl hl1
  exact Given.less_any A c l A1 c1 l1 w h.reads h1.reads (by omega) (by omega)
end
end Go.Proofs.Ytgmkbcoahilkhaa.Total
