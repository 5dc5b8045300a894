/- Lattices by rows of bits: what the functions compute, in plain Lean. -/
import Derived.Test.YtdojebhmkbfppaaCa
set_option linter.unusedVariables false
set_option linter.unusedSimpArgs false
namespace Go.PS

/-- Is 'y' at least 'x'? -/
def tb (up : List Int) (x y : Nat) : Bool := (gi up x).toNat.testBit y

theorem bit_math {v : Int} (h0 : 0 ≤ v) (y : Nat) : ((v.tdiv (2 ^ y)).tmod 2 = 1) ↔ v.toNat.testBit y = true := by
  obtain ⟨n, rfl⟩ := Int.eq_ofNat_of_zero_le h0
  have e : ((n : Int).tdiv (2 ^ y)).tmod 2 = ((n / 2 ^ y % 2 : Nat) : Int) := by
    have : (2 : Int) ^ y = ((2 ^ y : Nat) : Int) := by push_cast; rfl
    rw [this]
    rw [Int.tdiv_eq_ediv_of_nonneg (by omega), ← Int.natCast_ediv, Int.tmod_eq_emod_of_nonneg (Int.natCast_nonneg _)]
    rfl
  rw [e, Nat.testBit_eq_decide_div_mod_eq, decide_eq_true_eq, Int.toNat_natCast]
  generalize n / 2 ^ y % 2 = m
  omega

/-- 'v>>y%2 == 1', whatever the number. -/
theorem shr_bit (v : Int) {y : Nat} (hy : y ≤ 63) : ((bShr .i64 v y).tmod 2 = 1) ↔ v.toNat.testBit y = true := by
  have e : bShr .i64 v y = v.fdiv (2 ^ y) := by
    unfold bShr
    rw [show min (y : Int).toNat IntKind.i64.bits = y from by simp [IntKind.bits]; omega]
  rw [e]
  have hp : (0 : Int) < 2 ^ y := Int.pow_pos (by omega)
  rcases Int.le_total 0 v with h | h
  · rw [← bit_math h, Int.fdiv_eq_ediv_of_nonneg _ (by omega), Int.tdiv_eq_ediv_of_nonneg h]
  · rcases Int.lt_or_eq_of_le h with h | h
    · have h1 : v.fdiv (2 ^ y) < 0 := by
        rw [Int.fdiv_eq_ediv_of_nonneg _ (by omega)]
        exact Int.ediv_neg_of_neg_of_pos h hp
      have h2 : v.toNat = 0 := by omega
      rw [h2, Nat.zero_testBit]
      have : (v.fdiv (2 ^ y)).tmod 2 ≤ 0 := by
        have h3 := Int.tmod_nonneg (a := -(v.fdiv (2 ^ y))) 2 (by omega)
        rw [Int.neg_tmod] at h3
        omega
      constructor
      · intro h; omega
      · intro h; cases h
    · subst h; simp

theorem ofInt_nat {v : Int} (h0 : 0 ≤ v) (h1 : v < 9223372036854775808) : (BitVec.ofInt 64 v).toNat = v.toNat := by
  rw [BitVec.toNat_ofInt]; omega

theorem bAnd_nat {a b : Int} (ha : 0 ≤ a) (ha1 : a < 9223372036854775808) (hb : 0 ≤ b) (hb1 : b < 9223372036854775808) : bAnd .i64 a b = ((a.toNat &&& b.toNat : Nat) : Int) := by
  show IntKind.i64.wrap (((BitVec.ofInt 64 a &&& BitVec.ofInt 64 b).toNat : Nat) : Int) = _
  rw [BitVec.toNat_and, ofInt_nat ha ha1, ofInt_nat hb hb1]
  have : a.toNat &&& b.toNat ≤ a.toNat := Nat.and_le_left
  exact wrap64 (by omega) (by omega)

theorem bAndNot_zero {a b : Int} (ha : 0 ≤ a) (ha1 : a < 9223372036854775808) (hb : 0 ≤ b) (hb1 : b < 9223372036854775808) : bAndNot .i64 a b = 0 ↔ ∀ z, a.toNat.testBit z = true → b.toNat.testBit z = true := by
  have e : (BitVec.ofInt 64 a &&& ~~~(BitVec.ofInt 64 b)).toNat ≤ a.toNat := by
    rw [BitVec.toNat_and, ofInt_nat ha ha1]; exact Nat.and_le_left
  have e2 : bAndNot .i64 a b = (((BitVec.ofInt 64 a &&& ~~~(BitVec.ofInt 64 b)).toNat : Nat) : Int) := by
    show IntKind.i64.wrap (((BitVec.ofInt 64 a &&& ~~~(BitVec.ofInt 64 b)).toNat : Nat) : Int) = _
    exact wrap64 (by omega) (by omega)
  rw [e2]
  have e3 : (((BitVec.ofInt 64 a &&& ~~~(BitVec.ofInt 64 b)).toNat : Nat) : Int) = 0 ↔ (BitVec.ofInt 64 a &&& ~~~(BitVec.ofInt 64 b)) = 0#64 := by
    rw [BitVec.toNat_eq]; simp
  rw [e3]
  constructor
  · intro h z hz
    have hz64 : z < 64 := by
      rcases Nat.lt_or_ge z 64 with h | h
      · exact h
      · have : a.toNat.testBit z = false := Nat.testBit_lt_two_pow (Nat.lt_of_lt_of_le (show a.toNat < 2 ^ 63 by omega) (Nat.pow_le_pow_right (by omega) (by omega)))
        rw [this] at hz; cases hz
    have := congrArg (fun v => v.getLsbD z) h
    simp only [BitVec.getLsbD_and, BitVec.getLsbD_not, BitVec.getLsbD_zero, hz64, decide_true, Bool.true_and] at this
    rw [← BitVec.testBit_toNat, ← BitVec.testBit_toNat, ofInt_nat ha ha1, ofInt_nat hb hb1, hz] at this
    simpa using this
  · intro h
    apply BitVec.eq_of_getLsbD_eq
    intro z hz
    have := h z
    simp only [BitVec.getLsbD_and, BitVec.getLsbD_not, BitVec.getLsbD_zero, hz, decide_true, Bool.true_and]
    rw [← BitVec.testBit_toNat, ← BitVec.testBit_toNat, ofInt_nat ha ha1, ofInt_nat hb hb1]
    cases h1 : a.toNat.testBit z
    · rfl
    · rw [this h1]; rfl

structure VO (up : List Int) : Prop where
  one : 1 ≤ up.length
  six : up.length ≤ 6
  rng : ∀ x, x < up.length → 0 ≤ gi up x ∧ gi up x < 2 ^ up.length
  row : ∀ x, x < up.length → tb up x x = true ∧ tb up 0 x = true ∧ tb up x (up.length - 1) = true
  anti : ∀ x, x < up.length → ∀ y, y < up.length → x ≠ y → tb up x y = true → tb up y x = false
  trans : ∀ x, x < up.length → ∀ y, y < up.length → ∀ z, z < up.length → tb up x y = true → tb up y z = true → tb up x z = true

noncomputable instance (up : List Int) : Decidable (VO up) := Classical.propDecidable _

/-- Rows of few bits. -/
structure Sm (up : List Int) : Prop where
  six : up.length ≤ 6
  rng : ∀ x, x < up.length → 0 ≤ gi up x ∧ gi up x < 2 ^ up.length

theorem VO.sm {up : List Int} (v : VO up) : Sm up := ⟨v.six, v.rng⟩

theorem Sm.lt {up : List Int} (s : Sm up) {x : Nat} (h : x < up.length) : 0 ≤ gi up x ∧ gi up x < 64 := by
  have h1 := s.rng x h
  have hp : (2 : Int) ^ up.length ≤ 64 := by
    have := Nat.pow_le_pow_right (n := 2) (by omega) s.six
    exact_mod_cast this
  omega

theorem Sm.bit {up : List Int} (s : Sm up) {x z : Nat} (h : x < up.length) (hz : tb up x z = true) : z < up.length := by
  rcases Nat.lt_or_ge z up.length with q | q
  · exact q
  · have h1 := s.rng x h
    have h2 : (gi up x).toNat < 2 ^ up.length := by
      have : ((gi up x).toNat : Int) < ((2 ^ up.length : Nat) : Int) := by push_cast; omega
      exact_mod_cast this
    have : tb up x z = false := Nat.testBit_lt_two_pow (Nat.lt_of_lt_of_le h2 (Nat.pow_le_pow_right (by omega) q))
    rw [this] at hz; cases hz

/-- The first of the numbers below 'n' with 'p', -1 if there is none. -/
def firstI (n : Nat) (p : Nat → Bool) : Int := match (List.range n).find? p with | some z => z | none => -1

theorem firstI_some {n z : Nat} {p : Nat → Bool} (hz : z < n) (h : p z = true) (hj : ∀ j, j < z → p j = false) : firstI n p = z := by
  have : (List.range n).find? p = some z := by
    rw [List.find?_range_eq_some]
    exact ⟨h, by simpa using hz, fun j hj' => by simp [hj j hj']⟩
  simp [firstI, this]
theorem firstI_none {n : Nat} {p : Nat → Bool} (hj : ∀ j, j < n → p j = false) : firstI n p = -1 := by
  have : (List.range n).find? p = none := by
    rw [List.find?_eq_none]
    intro x hx
    simp [hj x (by simpa using hx)]
  simp [firstI, this]
theorem firstI_range {n : Nat} {p : Nat → Bool} : firstI n p = -1 ∨ ∃ z, z < n ∧ p z = true ∧ firstI n p = z := by
  unfold firstI
  split
  · rename_i z h
    rw [List.find?_range_eq_some] at h
    exact .inr ⟨z, by simpa using h.2.1, h.1, rfl⟩
  · exact .inl rfl

/-- Is 'z' the meet of 'x' and 'y'? -/
def isM (up : List Int) (x y z : Nat) : Bool := tb up z x && tb up z y && (List.range up.length).all fun w => !tb up w x || !tb up w y || tb up w z
def isJ (up : List Int) (x y z : Nat) : Bool := tb up x z && tb up y z && (List.range up.length).all fun w => !tb up x w || !tb up y w || tb up z w
def meetM (up : List Int) (x y : Nat) : Int := firstI up.length (isM up x y)
def joinM (up : List Int) (x y : Nat) : Int := firstI up.length (isJ up x y)

theorem bAnd_bit {up : List Int} (s : Sm up) {x y : Nat} (hx : x < up.length) (hy : y < up.length) (z : Nat) : (bAnd .i64 (gi up x) (gi up y)).toNat.testBit z = (tb up x z && tb up y z) := by
  have h1 := s.lt hx
  have h2 := s.lt hy
  rw [bAnd_nat h1.1 (by omega) h2.1 (by omega), Int.toNat_natCast, Nat.testBit_and]
  rfl

theorem bAnd_rng {up : List Int} (s : Sm up) {x y : Nat} (hx : x < up.length) (hy : y < up.length) : 0 ≤ bAnd .i64 (gi up x) (gi up y) ∧ bAnd .i64 (gi up x) (gi up y) < 9223372036854775808 := by
  have h1 := s.lt hx
  have h2 := s.lt hy
  rw [bAnd_nat h1.1 (by omega) h2.1 (by omega)]
  have : (gi up x).toNat &&& (gi up y).toNat ≤ (gi up x).toNat := Nat.and_le_left
  omega

/-- The program's join by bits. -/
theorem isJ_bits {up : List Int} (s : Sm up) {x y z : Nat} (hx : x < up.length) (hy : y < up.length) (hz : z < up.length) :
    (decide ((bShr .i64 (bAnd .i64 (gi up x) (gi up y)) z).tmod 2 = 1) && decide (bAndNot .i64 (bAnd .i64 (gi up x) (gi up y)) (gi up z) = 0)) = isJ up x y z := by
  have h6 := s.six
  have hr := bAnd_rng s hx hy
  have h3 := s.lt hz
  rw [Bool.eq_iff_iff]
  simp only [Bool.and_eq_true, decide_eq_true_eq, isJ, List.all_eq_true, List.mem_range]
  rw [shr_bit _ (by omega), bAnd_bit s hx hy, bAndNot_zero hr.1 hr.2 h3.1 (by omega), Bool.and_eq_true]
  refine and_congr_right (fun _ => ?_)
  constructor
  · intro h w hw
    have := h w
    rw [bAnd_bit s hx hy] at this
    cases h1 : tb up x w
    · rfl
    · cases h2 : tb up y w
      · rfl
      · rw [h1, h2] at this
        simpa [tb] using this rfl
  · intro h w hw
    rw [bAnd_bit s hx hy, Bool.and_eq_true] at hw
    have := h w (s.bit hx hw.1)
    rw [hw.1, hw.2] at this
    simpa [tb] using this

/-- The program's looks at one row, and at one pair. -/
def okRow (up : List Int) (x : Nat) : Bool := decide (0 ≤ gi up x) && decide (gi up x ≤ 2 ^ up.length - 1) && tb up x x && tb up x (up.length - 1) && tb up 0 x
def okPair (up : List Int) (x y : Nat) : Bool := !(tb up x y && ((decide (y ≠ x) && tb up y x) || decide (bAndNot .i64 (gi up y) (gi up x) ≠ 0)))

theorem vo_of_ok {up : List Int} (h1 : 1 ≤ up.length) (h6 : up.length ≤ 6) (h : ∀ x, x < up.length → okRow up x = true ∧ ∀ y, y < up.length → okPair up x y = true) : VO up := by
  have hr : ∀ x, x < up.length → 0 ≤ gi up x ∧ gi up x < 2 ^ up.length := fun x hx => by
    have := (h x hx).1
    simp only [okRow, Bool.and_eq_true, decide_eq_true_eq] at this
    omega
  have s : Sm up := ⟨h6, hr⟩
  refine ⟨h1, h6, hr, fun x hx => ?_, fun x hx y hy hne hxy => ?_, fun x hx y hy z hz hxy hyz => ?_⟩
  · have := (h x hx).1
    simp only [okRow, Bool.and_eq_true, decide_eq_true_eq] at this
    exact ⟨this.1.1.2, this.2, this.1.2⟩
  · have := (h x hx).2 y hy
    simp only [okPair, hxy, Bool.true_and] at this
    cases hyx : tb up y x
    · rfl
    · simp [hyx, Ne.symm hne] at this
  · have := (h x hx).2 y hy
    have l1 := s.lt hx
    have l2 := s.lt hy
    have e : bAndNot .i64 (gi up y) (gi up x) = 0 := by
      simp only [okPair, hxy, Bool.true_and] at this
      cases hyx : decide (bAndNot .i64 (gi up y) (gi up x) ≠ 0)
      · simpa using hyx
      · simp [hyx] at this
    exact (bAndNot_zero l2.1 (by omega) l1.1 (by omega)).1 e z hyz

theorem ok_of_vo {up : List Int} (v : VO up) {x : Nat} (hx : x < up.length) : okRow up x = true ∧ ∀ y, y < up.length → okPair up x y = true := by
  have s := v.sm
  constructor
  · have := v.rng x hx
    have h2 := v.row x hx
    simp only [okRow, Bool.and_eq_true, decide_eq_true_eq]
    exact ⟨⟨⟨⟨this.1, by omega⟩, h2.1⟩, h2.2.2⟩, h2.2.1⟩
  · intro y hy
    have l1 := s.lt hx
    have l2 := s.lt hy
    cases hxy : tb up x y
    · simp [okPair, hxy]
    · have e : bAndNot .i64 (gi up y) (gi up x) = 0 := (bAndNot_zero l2.1 (by omega) l1.1 (by omega)).2 fun z hz => v.trans x hx y hy z (s.bit hy hz) hxy hz
      by_cases hne : y = x
      · simp [okPair, hne, show bAndNot .i64 (gi up x) (gi up x) = 0 by rw [← hne] at e ⊢; exact e]
      · simp [okPair, e, v.anti x hx y hy (Ne.symm hne) hxy]

/-- A lattice. -/
structure VL (up : List Int) : Prop where
  ord : VO up
  mj : ∀ x, x < up.length → ∀ y, y < up.length → 0 ≤ meetM up x y ∧ 0 ≤ joinM up x y

noncomputable instance (up : List Int) : Decidable (VL up) := Classical.propDecidable _

end Go.PS
