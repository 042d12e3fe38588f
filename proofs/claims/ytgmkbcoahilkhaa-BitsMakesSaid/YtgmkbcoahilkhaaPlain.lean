/- Plain facts on sets of bits as lists of bytes: what has, with, first, count are, and that the printed functions are these. -/
import Derived.Test.YtgmkbcoahilkhaaPAllx4
namespace Go.Proofs.Ytgmkbcoahilkhaa.Plain
open Go.RowKit Go.Proofs.Ytgmkbcoahilkhaa.PAll Go.Proofs.YtgmkbcoahilkhaaW.PrintWords Go.Proofs.YtgmkbcoahilkhaaW.PrintLast Go.Proofs.YtgmkbcoahilkhaaW.PrintMore

/-! ### bytes -/
def bitB (x : Int) (j : Nat) : Bool := x.toNat.testBit (7 - j)
def maskB (j : Nat) : Int := shr .u8 128 j
def IsByte (x : Int) : Prop := 0 ≤ x ∧ x < 256
instance (x : Int) : Decidable (IsByte x) := inferInstanceAs (Decidable (_ ∧ _))
theorem byte_ex {x : Int} (h : IsByte x) : ∃ y : Fin 256, x = ((y.val : Nat) : Int) := ⟨⟨x.toNat, by have := h.1; have := h.2; omega⟩, by have := h.1; simp; omega⟩
theorem all_bytes (p : Int → Fin 8 → Bool) (h : ∀ (y : Fin 256) (j : Fin 8), p ((y.val : Nat) : Int) j = true) {x : Int} (hx : IsByte x) {j : Nat} (hj : j < 8) : p x ⟨j, hj⟩ = true := by
  obtain ⟨y, rfl⟩ := byte_ex hx
  exact h y ⟨j, hj⟩
theorem and_mask {x : Int} (hx : IsByte x) {j : Nat} (hj : j < 8) : (Go.bits .and .u8 x (maskB j) != 0) = bitB x j := by
  have := all_bytes (fun x j => (Go.bits .and .u8 x (maskB j.val) != 0) == bitB x j.val) (by decide +kernel) hx hj
  simpa using this
theorem ref_bit {x : Int} (hx : IsByte x) {j : Nat} (hj : j < 8) : (((Int.tdiv x (maskB j)) % 256) % 2 == 1) = bitB x j := by
  have := all_bytes (fun x j => ((((Int.tdiv x (maskB j.val)) % 256) % 2 == 1) == bitB x j.val)) (by decide +kernel) hx hj
  simpa using this
theorem mask_byte {j : Nat} (hj : j < 8) : maskB j ≠ 0 := by
  have h : ∀ j : Fin 8, maskB j.val ≠ 0 := by decide +kernel
  exact h ⟨j, hj⟩
theorem mask_half {j : Nat} (hj : j + 1 < 8) : (Int.tdiv (maskB j) 2) % 256 = maskB (j + 1) := by
  have h : ∀ j : Fin 7, (Int.tdiv (maskB j.val) 2) % 256 = maskB (j.val + 1) := by decide +kernel
  exact h ⟨j, by omega⟩
def setB (x : Int) (j : Nat) (on : Bool) : Int := if on then Go.bits .or .u8 x (maskB j) else Go.bits .andNot .u8 x (maskB j)
theorem setB_byte {x : Int} (hx : IsByte x) {j : Nat} (hj : j < 8) (on : Bool) : IsByte (setB x j on) := by
  have := all_bytes (fun x j => decide (IsByte (setB x j.val true)) && decide (IsByte (setB x j.val false))) (by decide +kernel) hx hj
  simp only [Bool.and_eq_true, decide_eq_true_eq] at this
  cases on
  · exact this.2
  · exact this.1
theorem setB_bit {x : Int} (hx : IsByte x) {j : Nat} (hj : j < 8) (on : Bool) {i : Nat} (hi : i < 8) : bitB (setB x j on) i = if i = j then on else bitB x i := by
  have := all_bytes (fun x j => decide (∀ i : Fin 8, bitB (setB x j.val true) i.val = if i.val = j.val then true else bitB x i.val) && decide (∀ i : Fin 8, bitB (setB x j.val false) i.val = if i.val = j.val then false else bitB x i.val)) (by decide +kernel) hx hj
  simp only [Bool.and_eq_true, decide_eq_true_eq] at this
  cases on
  · exact this.2 ⟨i, hi⟩
  · exact this.1 ⟨i, hi⟩
theorem setB_ref {x : Int} (hx : IsByte x) {j : Nat} (hj : j < 8) : (bitB x j = false → (x + maskB j) % 256 = setB x j true) ∧ (bitB x j = true → (x - maskB j) % 256 = setB x j false) ∧ (bitB x j = true → setB x j true = x) ∧ (bitB x j = false → setB x j false = x) := by
  have := all_bytes (fun x j => (bitB x j.val || ((x + maskB j.val) % 256 == setB x j.val true)) && (!bitB x j.val || ((x - maskB j.val) % 256 == setB x j.val false)) && (!bitB x j.val || (setB x j.val true == x)) && (bitB x j.val || (setB x j.val false == x))) (by decide +kernel) hx hj
  simp only [Bool.and_eq_true, Bool.or_eq_true, beq_iff_eq, Bool.not_eq_true'] at this
  obtain ⟨⟨⟨h1, h2⟩, h3⟩, h4⟩ := this
  refine ⟨fun h => h1.resolve_left (by simp [h]), fun h => h2.resolve_left (by simp [h]), fun h => h3.resolve_left (by simp [h]), fun h => h4.resolve_left (by simp [h])⟩
def popB (x : Int) : Nat := ((List.range 8).filter (bitB x)).length
theorem popB_zero : popB 0 = 0 := by decide +kernel
theorem popB_le (x : Int) : popB x ≤ 8 := by unfold popB; exact Nat.le_trans (List.length_filter_le _ _) (by simp)
theorem popB_step {x : Int} (hx : IsByte x) (h0 : x ≠ 0) : IsByte (Go.bits .and .u8 x ((x - 1) % 256)) ∧ popB (Go.bits .and .u8 x ((x - 1) % 256)) + 1 = popB x := by
  have := all_bytes (fun x _ => (x == 0) || (decide (IsByte (Go.bits .and .u8 x ((x - 1) % 256))) && (popB (Go.bits .and .u8 x ((x - 1) % 256)) + 1 == popB x))) (by decide +kernel) hx (j := 0) (by omega)
  simp only [Bool.or_eq_true, Bool.and_eq_true, decide_eq_true_eq, beq_iff_eq] at this
  exact this.resolve_left h0
theorem popB_set {x : Int} (hx : IsByte x) {j : Nat} (hj : j < 8) (hb : bitB x j = false) : popB (setB x j true) = popB x + 1 := by
  have := all_bytes (fun x j => bitB x j.val || (popB (setB x j.val true) == popB x + 1)) (by decide +kernel) hx hj
  simp only [Bool.or_eq_true, beq_iff_eq] at this
  exact this.resolve_left (by simp [hb])
theorem byte_ext {x y : Int} (hx : IsByte x) (hy : IsByte y) (h : ∀ j, j < 8 → bitB x j = bitB y j) : x = y := by
  have e : x.toNat = y.toNat := by
    apply Nat.eq_of_testBit_eq
    intro i
    by_cases hi : i < 8
    · have := h (7 - i) (by omega)
      unfold bitB at this
      rwa [show 7 - (7 - i) = i from by omega] at this
    · have p : 2 ^ 8 ≤ 2 ^ i := Nat.pow_le_pow_right (by decide) (by omega)
      rw [Nat.testBit_lt_two_pow (by have := hx.2; have := hx.1; omega), Nat.testBit_lt_two_pow (by have := hy.2; have := hy.1; omega)]
  have := hx.1; have := hy.1; omega
theorem or_nat {x y : Int} (hx : IsByte x) (hy : IsByte y) : Given.orB x y = ((x.toNat ||| y.toNat : Nat) : Int) := by
  have := (bits_nat .u8 8 (by decide) wraps_u8 x.toNat y.toNat (by have := hx.2; have := hx.1; omega) (by have := hy.2; have := hy.1; omega)).2
  rw [Int.toNat_of_nonneg hx.1, Int.toNat_of_nonneg hy.1] at this
  exact this
theorem or_byte {x y : Int} (hx : IsByte x) (hy : IsByte y) : IsByte (Given.orB x y) := by
  rw [or_nat hx hy]
  have := Nat.or_lt_two_pow (n := 8) (show x.toNat < 2 ^ 8 by have := hx.2; have := hx.1; omega) (show y.toNat < 2 ^ 8 by have := hy.2; have := hy.1; omega)
  exact ⟨by omega, by omega⟩
theorem or_bit {x y : Int} (hx : IsByte x) (hy : IsByte y) (j : Nat) : bitB (Given.orB x y) j = (bitB x j || bitB y j) := by
  rw [or_nat hx hy]; unfold bitB; rw [Int.toNat_natCast, Nat.testBit_or]
theorem andNot_nat {x y : Int} (hx : IsByte x) (hy : IsByte y) : Given.andNotB x y = (((BitVec.ofNat 8 x.toNat) &&& ~~~(BitVec.ofNat 8 y.toNat)).toNat : Int) := by
  unfold Given.andNotB
  have ex : BitVec.ofInt 8 x = BitVec.ofNat 8 x.toNat := by rw [← BitVec.ofInt_natCast, Int.toNat_of_nonneg hx.1]
  have ey : BitVec.ofInt 8 y = BitVec.ofNat 8 y.toNat := by rw [← BitVec.ofInt_natCast, Int.toNat_of_nonneg hy.1]
  show IntKind.u8.wrap (((BitVec.ofInt 8 x) &&& ~~~(BitVec.ofInt 8 y)).toNat : Int) = _
  rw [ex, ey]
  exact wraps_u8 _ (by omega) (by have := ((BitVec.ofNat 8 x.toNat) &&& ~~~(BitVec.ofNat 8 y.toNat)).isLt; omega)
theorem andNot_byte {x y : Int} (hx : IsByte x) (hy : IsByte y) : IsByte (Given.andNotB x y) := by
  rw [andNot_nat hx hy]
  have := ((BitVec.ofNat 8 x.toNat) &&& ~~~(BitVec.ofNat 8 y.toNat)).isLt
  exact ⟨by omega, by omega⟩
theorem andNot_bit {x y : Int} (hx : IsByte x) (hy : IsByte y) (j : Nat) : bitB (Given.andNotB x y) j = (bitB x j && !bitB y j) := by
  rw [andNot_nat hx hy]
  unfold bitB
  rw [Int.toNat_natCast, ← BitVec.getLsbD, BitVec.getLsbD_and, BitVec.getLsbD_not, BitVec.getLsbD_ofNat, BitVec.getLsbD_ofNat]
  have h7 : decide (7 - j < 8) = true := by simp; omega
  simp [h7]
theorem zero_bit (j : Nat) : bitB 0 j = false := by unfold bitB; simp
theorem zero_byte : IsByte 0 := by decide

/-! ### sets -/
theorem getD_lt {l : List Int} {i : Nat} (h : i < l.length) (d : Int) : l.getD i d = l[i] := by simp [List.getD_eq_getElem?_getD, h]
theorem getD_ge {l : List Int} {i : Nat} (h : l.length ≤ i) (d : Int) : l.getD i d = d := by simp [List.getD_eq_getElem?_getD, List.getElem?_eq_none h]
def Bytes (l : List Int) : Prop := ∀ x ∈ l, IsByte x
def at_ (l : List Int) (i : Nat) : Int := l.getD i 0
theorem at_byte {l : List Int} (h : Bytes l) (i : Nat) : IsByte (at_ l i) := by
  unfold at_
  by_cases hi : i < l.length
  · rw [getD_lt hi]; exact h _ (List.getElem_mem hi)
  · rw [getD_ge (by omega)]; exact zero_byte
def hasN (l : List Int) (n : Nat) : Bool := bitB (at_ l (n / 8)) (n % 8)
theorem hasN_out {l : List Int} {n : Nat} (h : 8 * l.length ≤ n) : hasN l n = false := by
  unfold hasN at_
  rw [getD_ge (by omega)]
  exact zero_bit _
def hasL (l : List Int) (i : Int) : Bool := decide (0 ≤ i) && hasN l i.toNat
theorem hasL_nat (l : List Int) (n : Nat) : hasL l (n : Int) = hasN l n := by simp [hasL]
theorem list_ext {a b : List Int} (ha : Bytes a) (hb : Bytes b) (hl : a.length = b.length) (h : ∀ n, n < 8 * a.length → hasN a n = hasN b n) : a = b := by
  apply List.ext_getElem hl
  intro i h1 h2
  have ea : at_ a i = a[i] := getD_lt h1 0
  have eb : at_ b i = b[i] := getD_lt h2 0
  rw [← ea, ← eb]
  apply byte_ext (at_byte ha i) (at_byte hb i)
  intro j hj
  have := h (8 * i + j) (by omega)
  unfold hasN at this
  rwa [show (8 * i + j) / 8 = i from by omega, show (8 * i + j) % 8 = j from by omega] at this
/-- A set with a number, or without it. -/
def withN (l : List Int) (n : Nat) (on : Bool) : List Int := l.set (n / 8) (setB (at_ l (n / 8)) (n % 8) on)
theorem withN_length (l : List Int) (n : Nat) (on : Bool) : (withN l n on).length = l.length := by simp [withN]
theorem withN_bytes {l : List Int} (h : Bytes l) (n : Nat) (on : Bool) : Bytes (withN l n on) := by
  intro x hx
  rcases List.mem_or_eq_of_mem_set hx with hx | rfl
  · exact h x hx
  · exact setB_byte (at_byte h _) (Nat.mod_lt _ (by decide)) on
theorem at_withN (l : List Int) (n : Nat) (on : Bool) (i : Nat) (h : n < 8 * l.length) : at_ (withN l n on) i = if i = n / 8 then setB (at_ l (n / 8)) (n % 8) on else at_ l i := by
  unfold withN at_
  rw [List.getD_eq_getElem?_getD, List.getElem?_set]
  by_cases e : n / 8 = i
  · subst e; rw [if_pos rfl, if_pos (by omega), if_pos rfl]; rfl
  · rw [if_neg e, if_neg (fun h => e h.symm), List.getD_eq_getElem?_getD]
theorem hasN_withN {l : List Int} (hl : Bytes l) (n : Nat) (on : Bool) (h : n < 8 * l.length) (m : Nat) : hasN (withN l n on) m = if m = n then on else hasN l m := by
  unfold hasN
  rw [at_withN l n on _ h]
  by_cases e : m / 8 = n / 8
  · rw [if_pos e, setB_bit (at_byte hl _) (Nat.mod_lt _ (by decide)) on (Nat.mod_lt _ (by decide))]
    by_cases f : m % 8 = n % 8
    · rw [if_pos f, if_pos (by omega)]
    · rw [if_neg f, if_neg (by intro h; subst h; exact f rfl), e]
  · rw [if_neg e, if_neg (by intro h; subst h; exact e rfl)]
def withL (l : List Int) (i : Int) (on : Bool) : List Int := if 0 ≤ i ∧ i < 8 * (l.length : Int) then withN l i.toNat on else l
theorem at_joinL (g : Int → Int → Int) (a b : List Int) (i : Nat) (hg : g 0 0 = 0) : at_ (Given.joinL g a b) i = g (at_ a i) (at_ b i) := by
  unfold at_ Given.joinL
  by_cases hi : i < max a.length b.length
  · simp [List.getD_eq_getElem?_getD, hi]
  · rw [getD_ge (by simp; omega), getD_ge (by omega), getD_ge (by omega), hg]
theorem joinL_bytes {g : Int → Int → Int} (hg : ∀ x y, IsByte x → IsByte y → IsByte (g x y)) {a b : List Int} (ha : Bytes a) (hb : Bytes b) : Bytes (Given.joinL g a b) := by
  intro x hx
  obtain ⟨i, _, rfl⟩ := List.mem_map.1 hx
  exact hg _ _ (at_byte ha i) (at_byte hb i)
theorem hasN_join {a b : List Int} (ha : Bytes a) (hb : Bytes b) (n : Nat) : hasN (Given.joinL Given.orB a b) n = (hasN a n || hasN b n) := by
  unfold hasN
  rw [at_joinL _ _ _ _ (by decide +kernel), or_bit (at_byte ha _) (at_byte hb _)]
theorem hasN_less {a b : List Int} (ha : Bytes a) (hb : Bytes b) (n : Nat) : hasN (Given.joinL Given.andNotB a b) n = (hasN a n && !hasN b n) := by
  unfold hasN
  rw [at_joinL _ _ _ _ (by decide +kernel), andNot_bit (at_byte ha _) (at_byte hb _)]
/-- How many. -/
def countL (l : List Int) : Nat := (l.map popB).sum
theorem countL_le (l : List Int) : countL l ≤ 8 * l.length := by
  induction l with
  | nil => simp [countL]
  | cons x l ih => have := popB_le x; simp only [countL, List.map_cons, List.sum_cons, List.length_cons] at *; omega
/-- Which. -/
def listN (l : List Int) : List Nat := (List.range (8 * l.length)).filter (hasN l)
theorem range_add (a b : Nat) : List.range (a + b) = List.range a ++ (List.range b).map (a + ·) := List.range_add
theorem listN_length (l : List Int) : (listN l).length = countL l := by
  induction l with
  | nil => simp [listN, countL]
  | cons x l ih =>
    unfold listN
    rw [show 8 * (x :: l).length = 8 + 8 * l.length from by simp; omega, range_add, List.filter_append, List.length_append]
    have e1 : (List.range 8).filter (hasN (x :: l)) = (List.range 8).filter (bitB x) := by
      apply List.filter_congr
      intro i hi
      have := List.mem_range.1 hi
      unfold hasN at_
      rw [show i / 8 = 0 from by omega, show i % 8 = i from by omega]
      rfl
    have e2 : (((List.range (8 * l.length)).map (8 + ·)).filter (hasN (x :: l))).length = ((List.range (8 * l.length)).filter (hasN l)).length := by
      rw [List.filter_map, List.length_map]
      congr 1
      apply List.filter_congr
      intro i _
      show hasN (x :: l) (8 + i) = hasN l i
      unfold hasN at_
      rw [show (8 + i) / 8 = i / 8 + 1 from by omega, show (8 + i) % 8 = i % 8 from by omega]
      rfl
    rw [e1, e2]
    show popB x + (listN l).length = _
    rw [ih]
    simp [countL]
end Go.Proofs.Ytgmkbcoahilkhaa.Plain
