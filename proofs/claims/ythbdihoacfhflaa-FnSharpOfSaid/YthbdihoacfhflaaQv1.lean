/- Part 1 of what the last text proves: Sharp elements: the law holds at every input. -/
import Derived.Test.YthbdihoacfhflaaQo6
section
-- PRINTED by gen.py: clean texts of functions, and their tie to the program.
set_option maxRecDepth 100000
namespace Go.PS
open Go.Proofs
/-- impl.has -/
def an_170 : Ann := ⟨[], [(0, [0, 1]), (1, [4])], [], []⟩
def fa_170 : FnA := ⟨10, [.t 4],
  (.seq
    (.region false [⟨some 4, (.mv (.c (.bool false))), 4, none, 0⟩] (some [0, 1]))
    (.seq
      (.region false [⟨some 5, (.mv (.t 0)), 3, none, 0⟩, ⟨some 6, (.mv (.t 1)), 3, none, 0⟩, ⟨some 7, (.bin .shr 3 (.t 5) (.t 6)), 3, none, 0⟩, ⟨some 8, (.bin .rem 3 (.t 7) (.c (.int .i64 2))), 3, none, 0⟩, ⟨some 9, (.bin .eql 3 (.t 8) (.c (.int .i64 1))), 4, none, 0⟩, ⟨some 4, (.mv (.t 9)), 4, none, 0⟩] (some [4]))
      .ret))⟩
theorem fok_170 : FnOk Try.prog 170 fa_170 an_170 := ⟨Try.f170, _, Try.func170, rfl, by kernel_rfl, rfl, rfl, by decide, by kernel_rfl⟩
/-- laws.power -/
def an_39 : Ann := ⟨[], [(0, [0]), (1, [0, 3]), (2, [0, 3, 5]), (4, [0, 3]), (3, [0, 3]), (5, [2])], [(2, [0, 3], [])], []⟩
def lb_39_2 : AC :=
  (.seq
    (.seq
      (.region false [⟨some 4, (.mv (.t 0)), 3, none, 0⟩, ⟨some 5, (.bin .gtr 3 (.t 4) (.c (.int .i64 0))), 4, none, 0⟩] (some [0, 3, 5]))
      (.cond (.t 5)
        .skip
        (.exit 0)))
    (.seq
      (.block 1
        (.region false [⟨some 8, (.mv (.t 3)), 3, none, 0⟩, ⟨some 9, (.bin .mul 3 (.c (.int .i64 2)) (.t 8)), 3, none, 0⟩, ⟨some 3, (.mv (.t 9)), 3, none, 0⟩] (some [0, 3])))
      (.region false [⟨some 6, (.mv (.t 0)), 3, none, 0⟩, ⟨some 7, (.bin .sub 3 (.t 6) (.c (.int .i64 1))), 3, none, 0⟩, ⟨some 0, (.mv (.t 7)), 3, none, 0⟩] (some [0, 3]))))
def fa_39 : FnA := ⟨11, [.t 2],
  (.seq
    (.region false [⟨some 2, (.mv (.c (.int .i64 0))), 3, none, 0⟩] (some [0]))
    (.seq
      (.region false [⟨some 3, (.mv (.c (.int .i64 1))), 3, none, 0⟩] (some [0, 3]))
      (.seq
        (.block 0
          (.loop [0, 3] [] lb_39_2))
        (.seq
          (.region false [⟨some 10, (.mv (.t 3)), 3, none, 0⟩, ⟨some 2, (.mv (.t 10)), 3, none, 0⟩] (some [2]))
          .ret))))⟩
theorem fok_39 : FnOk Try.prog 39 fa_39 an_39 := ⟨Try.f39, _, Try.func39, rfl, by kernel_rfl, rfl, rfl, by decide, by kernel_rfl⟩
end Go.PS
end

section
-- Sets of elements by bits; filters, in plain Lean.
set_option linter.unusedVariables false
set_option linter.unusedSimpArgs false
namespace Go.PS

-- sets by bits

/-- The set of the numbers below 'n' with 'p'. -/
def mskN (n : Nat) (p : Nat → Bool) : Nat := (List.range n).foldl (fun o i => if p i then o ||| 2 ^ i else o) 0
theorem mskN_succ {n : Nat} {p : Nat → Bool} : mskN (n + 1) p = if p n then mskN n p ||| 2 ^ n else mskN n p := by
  simp [mskN, List.range_succ]
theorem mskN_bit {p : Nat → Bool} {x : Nat} : ∀ n : Nat, (mskN n p).testBit x = (decide (x < n) && p x)
  | 0 => by simp [mskN]
  | n + 1 => by
    have ih := mskN_bit (p := p) (x := x) n
    rw [mskN_succ]
    by_cases e : x = n
    · subst e
      split
      · rename_i h
        simp [Nat.testBit_or, Nat.testBit_two_pow, h]
      · rename_i h
        rw [ih]
        simp [h]
    · have e2 : (decide (x < n + 1)) = decide (x < n) := by rw [Bool.eq_iff_iff]; simp; omega
      rw [e2]
      split
      · rw [Nat.testBit_or, ih, Nat.testBit_two_pow, show decide (n = x) = false by simp; omega, Bool.or_false]
      · exact ih
theorem lt_of_bits {n f : Nat} (h : ∀ x, f.testBit x = true → x < n) : f < 2 ^ n :=
  Nat.lt_pow_two_of_testBit f (fun i hi => by
    cases hb : f.testBit i
    · rfl
    · have := h i hb; omega)
theorem mskN_lt {n : Nat} {p : Nat → Bool} : mskN n p < 2 ^ n := lt_of_bits fun x hx => by rw [mskN_bit] at hx; simp at hx; exact hx.1
section
variable {u : List Int} {t : List (List Int)} {x y z w : Nat}

structure FI (u : List Int) (t : List (List Int)) (f : Nat) : Prop where
  lt : f < 2 ^ u.length
  top : f.testBit (u.length - 1) = true
  up : ∀ x, x < u.length → ∀ y, y < u.length → f.testBit x = true → tb u x y = true → f.testBit y = true
  mul : ∀ x, x < u.length → ∀ y, y < u.length → f.testBit x = true → f.testBit y = true → f.testBit (tn t x y) = true
noncomputable instance (u : List Int) (t : List (List Int)) (f : Nat) : Decidable (FI u t f) := Classical.propDecidable _

theorem FI.and {f g : Nat} (a : VA u t) (hf : FI u t f) (hg : FI u t g) : FI u t (f &&& g) := by
  refine ⟨Nat.lt_of_le_of_lt Nat.and_le_left hf.lt, ?_, fun x hx y hy h1 h2 => ?_, fun x hx y hy h1 h2 => ?_⟩
  · rw [Nat.testBit_and, hf.top, hg.top]; rfl
  · rw [Nat.testBit_and, Bool.and_eq_true] at h1 ⊢
    exact ⟨hf.up x hx y hy h1.1 h2, hg.up x hx y hy h1.2 h2⟩
  · rw [Nat.testBit_and, Bool.and_eq_true] at h1 h2 ⊢
    exact ⟨hf.mul x hx y hy h1.1 h2.1, hg.mul x hx y hy h1.2 h2.2⟩
-- powers
-- classes
end
end Go.PS
end

section
-- Contracts: sets by bits; filters of the reference.
set_option maxRecDepth 100000
set_option linter.unusedVariables false
set_option linter.unusedSimpArgs false
namespace Go.PS
open Go.Proofs

/-- A bit, 0 or 1. -/
def bitI (x : Int) (j : Nat) : Int := if x.toNat.testBit j then 1 else 0
@[simp] theorem bitI_one {x : Int} {j : Nat} : bitI x j = 1 ↔ x.toNat.testBit j = true := by unfold bitI; split <;> simp_all
@[simp] theorem bitI_zero {x : Int} {j : Nat} : bitI x j = 0 ↔ x.toNat.testBit j = false := by unfold bitI; split <;> simp_all
theorem bitI_eq {x : Int} (h0 : 0 ≤ x) (j : Nat) : (x.tdiv (2 ^ j)).tmod 2 = bitI x j := by
  have h := bit_math h0 j
  unfold bitI
  split
  · rename_i hb; exact h.2 hb
  · rename_i hb
    have h1 : ¬ (x.tdiv (2 ^ j)).tmod 2 = 1 := fun e => hb (h.1 e)
    have hp : (0 : Int) < 2 ^ j := Int.pow_pos (by omega)
    have h2 : 0 ≤ x.tdiv (2 ^ j) := Int.tdiv_nonneg h0 (by omega)
    have h3 := Int.tmod_nonneg (a := x.tdiv (2 ^ j)) 2 h2
    have h4 := Int.tmod_lt_of_pos (x.tdiv (2 ^ j)) (b := 2) (by omega)
    omega
theorem p2w {n : Nat} (h : n ≤ 6) : IntKind.i64.wrap ((2 : Int) ^ n - 1) = 2 ^ n - 1 := by
  have : n = 0 ∨ n = 1 ∨ n = 2 ∨ n = 3 ∨ n = 4 ∨ n = 5 ∨ n = 6 := by omega
  rcases this with rfl | rfl | rfl | rfl | rfl | rfl | rfl <;> rfl
theorem p2le {n : Nat} (h : n ≤ 6) : 0 < 2 ^ n ∧ 2 ^ n ≤ 64 := ⟨Nat.pow_pos (by omega), Nat.pow_le_pow_right (n := 2) (by omega) h⟩
theorem p2i {n : Nat} : (2 : Int) ^ n = ((2 ^ n : Nat) : Int) := by push_cast; rfl
theorem bitS_pc (x j : Int) (h0 : 0 ≤ x) (h1 : x < 64) (h2 : 0 ≤ j) (h3 : j ≤ 61) : PC Try.prog 171 [I64 x, I64 j] none true (fun r _ => r = I64 (bitI x j.toNat)) := by
  rw [← bitI_eq h0]
  exact bit_pc x j h0 h1 h2 h3
noncomputable def fm_bitS : Fam Try.prog := mkFam (X := Int × Int) 171 true (fun (x, j) => [I64 x, I64 j]) (fun (x, j) => (0 ≤ x) ∧ (x < 64) ∧ (0 ≤ j) ∧ (j ≤ 61)) (fun (x, j) => I64 (bitI x j.toNat)) (by
  rintro ⟨x, j⟩ ⟨h0, h1, h2, h3⟩
  exact bitS_pc x j h0 h1 h2 h3)
@[simp] theorem fm_bitS_id : fm_bitS.id = 171 := rfl
@[simp] theorem fm_bitS_fresh : fm_bitS.fresh = true := rfl
@[simp] theorem fm_bitS_look (x j : Int) (h0 : 0 ≤ x) (h1 : x < 64) (h2 : 0 ≤ j) (h3 : j ≤ 61) : fm_bitS.look [I64 x, I64 j] = some (I64 (bitI x j.toNat)) :=
  lookF_of (X := Int × Int) (args := fun (x, j) => [I64 x, I64 j]) (pre := fun (x, j) => (0 ≤ x) ∧ (x < 64) ∧ (0 ≤ j) ∧ (j ≤ 61)) (val := fun (x, j) => I64 (bitI x j.toNat)) (by
  rintro ⟨x, j⟩ ⟨x', j'⟩ h
  simp at h
  try simp only [and_assoc] at h
  obtain ⟨rfl, rfl⟩ := h
  rfl) (x, j) ⟨h0, h1, h2, h3⟩
attribute [irreducible] fm_bitS
theorem powerL_pc (n : Int) (h0 : 0 ≤ n) (h1 : n ≤ 61) : PC Try.prog 39 [I64 n] none true (fun r _ => r = I64 (2 ^ n.toNat)) := by
  obtain ⟨k, rfl⟩ := Int.eq_ofNat_of_zero_le h0
  refine pcT [] fok_39 ?_
  simp [fa_39]
  refine loopA (tabK_mono _) k (fun i => [(0, I64 ((k : Int) - i)), (3, I64 (2 ^ i))]) (fun _ => []) (fun _ => True) (by simp) (by simp) (fun i g hi _ => ?_)
  have h1 : (2 : Int) ^ i ≤ 2 ^ 61 := by
    have := Nat.pow_le_pow_right (n := 2) (by omega) (show i ≤ 61 by omega)
    exact_mod_cast this
  have h2 : (0 : Int) < 2 ^ i := Int.pow_pos (by omega)
  simp [lb_39_2, wrap64 (n := 2 * 2 ^ i) (by omega) (by omega), wrap64 (n := (k : Int) - i - 1) (by omega) (by omega)]
  refine ⟨fun h => ⟨by omega, by omega, ?_⟩, fun h => ?_⟩
  · rw [Int.pow_succ]; omega
  · rw [show i = k by omega]
noncomputable def fm_powerL : Fam Try.prog := mkFam (X := Int) 39 true (fun n => [I64 n]) (fun n => (0 ≤ n) ∧ (n ≤ 61)) (fun n => I64 (2 ^ n.toNat)) (by
  rintro n ⟨h0, h1⟩
  exact powerL_pc n h0 h1)
@[simp] theorem fm_powerL_id : fm_powerL.id = 39 := rfl
@[simp] theorem fm_powerL_fresh : fm_powerL.fresh = true := rfl
@[simp] theorem fm_powerL_look (n : Int) (h0 : 0 ≤ n) (h1 : n ≤ 61) : fm_powerL.look [I64 n] = some (I64 (2 ^ n.toNat)) :=
  lookF_of (X := Int) (args := fun n => [I64 n]) (pre := fun n => (0 ≤ n) ∧ (n ≤ 61)) (val := fun n => I64 (2 ^ n.toNat)) (by
  intro n n' h
  simp at h
  subst h
  rfl) n ⟨h0, h1⟩
attribute [irreducible] fm_powerL
/-- Is a number a set of so many elements? -/
def inS (n : Nat) (f : Int) : Bool := decide (0 ≤ f) && decide (f ≤ 2 ^ n - 1)
theorem inS_ex {n : Nat} {f : Int} (h : inS n f = true) : ∃ k : Nat, f = k ∧ k < 2 ^ n := by
  simp only [inS, Bool.and_eq_true, decide_eq_true_eq, p2i] at h
  exact ⟨f.toNat, by omega, by omega⟩
theorem inS_nat {n k : Nat} (h : k < 2 ^ n) : inS n (k : Int) = true := by
  simp only [inS, Bool.and_eq_true, decide_eq_true_eq, p2i]
  omega
theorem leBig {n : Nat} (h : n ≤ 1099511627776) : n ≤ big := h
/-- Numbers as a list of the program's. -/
abbrev natL (l : List Nat) : List Int := l.map fun (x : Nat) => (x : Int)
theorem mem_natL {l : List Nat} {v : Int} : v ∈ natL l ↔ ∃ x, x ∈ l ∧ v = (x : Int) := by
  simp only [natL, List.mem_map]
  constructor
  · rintro ⟨x, h, rfl⟩; exact ⟨x, h, rfl⟩
  · rintro ⟨x, h, rfl⟩; exact ⟨x, h, rfl⟩
theorem mem_natL_nat {l : List Nat} {x : Nat} : (x : Int) ∈ natL l ↔ x ∈ l := by
  rw [mem_natL]
  constructor
  · rintro ⟨y, h, e⟩
    have : x = y := by omega
    rw [this]; exact h
  · exact fun h => ⟨x, h, rfl⟩
end Go.PS
end

section
-- Counting: what goes into a list without repeats is no more than the list.
set_option linter.unusedVariables false
set_option linter.unusedSimpArgs false
namespace Go.PS
end Go.PS
end

section
-- Contracts: filters of the program; lists and weights of the laws.
set_option maxRecDepth 100000
set_option linter.unusedVariables false
set_option linter.unusedSimpArgs false
namespace Go.PS
open Go.Proofs

theorem hasI_pc (f x : Int) (h0 : 0 ≤ x) (h1 : x ≤ 63) : PC Try.prog 170 [I64 f, I64 x] none true (fun r _ => r = .bool (f.toNat.testBit x.toNat)) := by
  obtain ⟨x, rfl⟩ := Int.eq_ofNat_of_zero_le h0
  have h := shr_bit f (y := x) (by omega)
  refine pcT [] fok_170 ?_
  simp [fa_170, h]
noncomputable def fm_hasI : Fam Try.prog := mkFam (X := Int × Int) 170 true (fun (f, x) => [I64 f, I64 x]) (fun (f, x) => (0 ≤ x) ∧ (x ≤ 63)) (fun (f, x) => .bool (f.toNat.testBit x.toNat)) (by
  rintro ⟨f, x⟩ ⟨h0, h1⟩
  exact hasI_pc f x h0 h1)
@[simp] theorem fm_hasI_id : fm_hasI.id = 170 := rfl
@[simp] theorem fm_hasI_fresh : fm_hasI.fresh = true := rfl
@[simp] theorem fm_hasI_look (f x : Int) (h0 : 0 ≤ x) (h1 : x ≤ 63) : fm_hasI.look [I64 f, I64 x] = some (.bool (f.toNat.testBit x.toNat)) :=
  lookF_of (X := Int × Int) (args := fun (f, x) => [I64 f, I64 x]) (pre := fun (f, x) => (0 ≤ x) ∧ (x ≤ 63)) (val := fun (f, x) => .bool (f.toNat.testBit x.toNat)) (by
  rintro ⟨f, x⟩ ⟨f', x'⟩ h
  simp at h
  try simp only [and_assoc] at h
  obtain ⟨rfl, rfl⟩ := h
  rfl) (f, x) ⟨h0, h1⟩
attribute [irreducible] fm_hasI
theorem shl2w {n : Nat} (h : n ≤ 6) : bShl .i64 1 (n : Int) = 2 ^ n ∧ IntKind.i64.wrap ((2 : Int) ^ n - 1) = 2 ^ n - 1 := by
  have : n = 0 ∨ n = 1 ∨ n = 2 ∨ n = 3 ∨ n = 4 ∨ n = 5 ∨ n = 6 := by omega
  rcases this with rfl | rfl | rfl | rfl | rfl | rfl | rfl <;> exact ⟨rfl, rfl⟩
-- lists of the laws
end Go.PS
end

section
-- Parts; sharp elements, in plain Lean.
set_option linter.unusedVariables false
set_option linter.unusedSimpArgs false
namespace Go.PS

section
variable {u : List Int} {t : List (List Int)} {x y z w : Nat}

structure PT (u : List Int) (t : List (List Int)) (s : Nat) : Prop where
  lt : s < 2 ^ u.length
  bot : s.testBit 0 = true
  top : s.testBit (u.length - 1) = true
  cl : ∀ x, x < u.length → ∀ y, y < u.length → s.testBit x = true → s.testBit y = true → (s.testBit (tn t x y) = true ∧ s.testBit (im u t x y) = true) ∧ s.testBit (mt u x y) = true ∧ s.testBit (jo u x y) = true
noncomputable instance (u : List Int) (t : List (List Int)) (s : Nat) : Decidable (PT u t s) := Classical.propDecidable _

noncomputable def prtN (u : List Int) (t : List (List Int)) (m : Nat) : List Nat := (List.range m).filter fun s => decide (PT u t s)
theorem mem_prt {s : Nat} : s ∈ prtN u t (2 ^ u.length) ↔ PT u t s := by
  simp only [prtN, List.mem_filter, List.mem_range, decide_eq_true_eq]
  exact ⟨fun h => h.2, fun h => ⟨h.lt, h⟩⟩
theorem prtN_zero : prtN u t 0 = [] := rfl
theorem prtN_succ {m : Nat} : prtN u t (m + 1) = prtN u t m ++ (if PT u t m then [m] else []) := by
  simp only [prtN, List.range_succ, List.filter_append, List.filter_cons, List.filter_nil, decide_eq_true_eq]
theorem prtN_len {m : Nat} : (prtN u t m).length ≤ m := by
  have := List.length_filter_le (fun s => decide (PT u t s)) (List.range m)
  unfold prtN
  simpa using this
theorem PT.and {f g : Nat} (hf : PT u t f) (hg : PT u t g) : PT u t (f &&& g) := by
  refine ⟨Nat.lt_of_le_of_lt Nat.and_le_left hf.lt, ?_, ?_, fun x hx y hy h1 h2 => ?_⟩
  · rw [Nat.testBit_and, hf.bot, hg.bot]; rfl
  · rw [Nat.testBit_and, hf.top, hg.top]; rfl
  · rw [Nat.testBit_and, Bool.and_eq_true] at h1 h2
    have a1 := hf.cl x hx y hy h1.1 h2.1
    have a2 := hg.cl x hx y hy h1.2 h2.2
    simp only [Nat.testBit_and, a1.1.1, a1.1.2, a1.2.1, a1.2.2, a2.1.1, a2.1.2, a2.2.1, a2.2.2, Bool.and_self, and_self]
theorem VA.im_bot (a : VA u t) (hx : x < u.length) : im u t 0 x = u.length - 1 := (a.im_top a.lat.pos hx).2 (a.lat.bot hx)
theorem VL.jo_bot (v : VL u) (hx : x < u.length) : jo u 0 x = x := v.jo_eq v.pos hx (v.bot hx)
theorem VL.jo_top (v : VL u) (hx : x < u.length) : jo u x (u.length - 1) = u.length - 1 := v.jo_eq hx (by omega) (v.topl hx)
theorem VL.jo_topl (v : VL u) (hx : x < u.length) : jo u (u.length - 1) x = u.length - 1 := by rw [v.jo_comm (by omega) hx, v.jo_top hx]
-- sharp elements
theorem VA.bo_not (a : VA u t) (hx : x < u.length) (h : BO u t x) : BO u t (im u t x 0) := by
  have e := a.bo_iv hx h
  unfold IV at e
  unfold BO
  rw [e, a.lat.jo_comm a.im_lt hx]; exact h
theorem VA.bo_bot (a : VA u t) : BO u t 0 := by
  unfold BO
  rw [a.im_bot a.lat.pos, a.lat.jo_bot (by have := a.lat.pos; omega)]
theorem VA.bo_top (a : VA u t) : BO u t (u.length - 1) := a.lat.jo_topl a.im_lt
theorem VA.bo_le (a : VA u t) {p : Nat} (hx : x < u.length) (hy : y < u.length) (h : BO u t x) (hp : p < u.length) (h1 : tb u (tn t p x) y = true) (h2 : tb u (tn t p (im u t x 0)) y = true) : tb u p y = true := by
  have e := a.tn_jo hp hx (a.im_lt (x := x) (y := 0))
  rw [show jo u x (im u t x 0) = u.length - 1 from h, a.tn_top hp] at e
  rw [e]
  exact a.lat.jo_le (a.tn_lt hp hx) (a.tn_lt hp a.im_lt) hy h1 h2
/-- With a sharp element meets are products. -/
theorem VA.bo_mt (a : VA u t) (hx : x < u.length) (hy : y < u.length) (h : BO u t x) : mt u x y = tn t x y := by
  have hm := a.lat.mt_lt hx hy
  have hn := a.im_lt (x := x) (y := 0)
  have ht := a.tn_lt hx hy
  refine a.lat.eq hm ht (a.bo_le hx ht h hm ?_ ?_) (a.lat.le_mt hx hy ht (a.le_l hx hy) (a.le_r hx hy))
  · rw [a.tn_comm hm hx]; exact a.mono hx hm hy (a.lat.mt_r hx hy)
  · have := a.monol hn hm hx (a.lat.mt_l hx hy)
    rw [a.not_mul hx] at this
    exact a.lat.tr (a.tn_lt hm hn) a.lat.pos ht this (a.lat.bot ht)
theorem VA.bo_im (a : VA u t) (hx : x < u.length) (hy : y < u.length) (h : BO u t x) : im u t x y = jo u (im u t x 0) y := by
  have hi := a.im_lt (x := x) (y := y)
  have hn := a.im_lt (x := x) (y := 0)
  have hj := a.lat.jo_lt hn hy
  refine a.lat.eq hi hj (a.bo_le hx hj h hi ?_ ?_) (a.lat.jo_le hn hy hi ?_ ?_)
  · have := a.mp (x := x) (y := y) hx hy
    rw [a.tn_comm hx hi] at this
    exact a.lat.tr (a.tn_lt hi hx) hy hj this (a.lat.jo_r hn hy)
  · exact a.lat.tr (a.tn_lt hi hn) hn hj (a.le_r hi hn) (a.lat.jo_l hn hy)
  · exact a.im_mono hx a.lat.pos hy (a.lat.bot hy)
  · rw [← a.res hx hy hy]; exact a.le_r hx hy
theorem VA.bo_jo (a : VA u t) (hx : x < u.length) (hy : y < u.length) (h : BO u t x) (h2 : BO u t y) : BO u t (jo u x y) := by
  have v := a.lat
  have hj := v.jo_lt hx hy
  have hnx := a.im_lt (x := x) (y := 0)
  have hny := a.im_lt (x := y) (y := 0)
  have hnj := a.im_lt (x := jo u x y) (y := 0)
  have hk := v.jo_lt hj hnj
  have htop : u.length - 1 < u.length := by omega
  have l1 : tb u x (jo u (jo u x y) (im u t (jo u x y) 0)) = true := v.tr hx hj hk (v.jo_l hx hy) (v.jo_l hj hnj)
  have l2 : tb u y (jo u (jo u x y) (im u t (jo u x y) 0)) = true := v.tr hy hj hk (v.jo_r hx hy) (v.jo_l hj hnj)
  have hxy := a.tn_lt hnx hny
  have l3 : tb u (tn t (im u t x 0) (im u t y 0)) (im u t (jo u x y) 0) = true := by
    rw [← a.res hj v.pos hxy, a.jo_tn hxy hx hy, ← a.tn_assoc hx hnx hny, a.not_mul hx, a.tn_botl hny, a.tn_comm hnx hny, ← a.tn_assoc hy hny hnx, a.not_mul hy, a.tn_botl hnx, v.jo_bot v.pos]
    exact v.rf v.pos
  refine v.eq_top hk (a.bo_le hx hk h htop ?_ ?_)
  · rw [a.tn_topl hx]; exact l1
  · rw [a.tn_topl hnx]
    refine a.bo_le hy hk h2 hnx ?_ ?_
    · exact v.tr (a.tn_lt hnx hy) hy hk (a.le_r hnx hy) l2
    · exact v.tr hxy hnj hk l3 (v.jo_r hj hnj)
theorem VA.bo_tn (a : VA u t) (hx : x < u.length) (hy : y < u.length) (h : BO u t x) (h2 : BO u t y) : BO u t (tn t x y) := by
  have v := a.lat
  have hj := a.tn_lt hx hy
  have hnx := a.im_lt (x := x) (y := 0)
  have hny := a.im_lt (x := y) (y := 0)
  have hnj := a.im_lt (x := tn t x y) (y := 0)
  have hk := v.jo_lt hj hnj
  have htop : u.length - 1 < u.length := by omega
  have n1 : tb u (im u t x 0) (jo u (tn t x y) (im u t (tn t x y) 0)) = true := v.tr hnx hnj hk (a.im_anti hj hx v.pos (a.le_l hx hy)) (v.jo_r hj hnj)
  have n2 : tb u (im u t y 0) (jo u (tn t x y) (im u t (tn t x y) 0)) = true := v.tr hny hnj hk (a.im_anti hj hy v.pos (a.le_r hx hy)) (v.jo_r hj hnj)
  refine v.eq_top hk (a.bo_le hx hk h htop ?_ ?_)
  · rw [a.tn_topl hx]
    refine a.bo_le hy hk h2 hx (v.jo_l hj hnj) ?_
    exact v.tr (a.tn_lt hx hny) hny hk (a.le_r hx hny) n2
  · rw [a.tn_topl hnx]; exact n1
noncomputable def shN (u : List Int) (t : List (List Int)) : Nat := mskN u.length fun x => decide (jo u x (im u t x 0) = u.length - 1)
theorem sh_bit : (shN u t).testBit x = true ↔ x < u.length ∧ BO u t x := by
  unfold shN
  rw [mskN_bit, Bool.and_eq_true, decide_eq_true_eq, decide_eq_true_eq]
  rfl
/-- Sharp elements are a part. -/
theorem pt_sharp (a : VA u t) : PT u t (shN u t) := by
  have hp := a.lat.pos
  refine ⟨mskN_lt, sh_bit.2 ⟨hp, a.bo_bot⟩, sh_bit.2 ⟨by omega, a.bo_top⟩, fun x hx y hy h1 h2 => ?_⟩
  rw [sh_bit] at h1 h2
  simp only [sh_bit]
  have b1 := a.bo_tn hx hy h1.2 h2.2
  refine ⟨⟨⟨a.tn_lt hx hy, b1⟩, ⟨a.im_lt, ?_⟩⟩, ⟨a.lat.mt_lt hx hy, ?_⟩, ⟨a.lat.jo_lt hx hy, a.bo_jo hx hy h1.2 h2.2⟩⟩
  · rw [a.bo_im hx hy h1.2]
    exact a.bo_jo a.im_lt hy (a.bo_not hx h1.2) h2.2
  · rw [a.bo_mt hx hy h1.2]; exact b1
end
end Go.PS
end

section
-- PRINTED by gen.py: clean texts of functions, and their tie to the program.
set_option maxRecDepth 100000
namespace Go.PS
open Go.Proofs
/-- spec.isPart -/
def an_122 : Ann := ⟨[(2, 2, 3), (2, 4, 3), (2, 8, 3), (2, 15, 3), (10, 2, 3), (10, 7, 3), (10, 20, 3), (10, 27, 3), (10, 28, 3), (10, 37, 3), (10, 38, 3), (10, 47, 3), (10, 48, 3)], [(0, [1, 2]), (1, [1, 2, 5]), (2, [1, 2, 5, 28]), (3, [4]), (4, [1, 2, 5, 6]), (5, [1, 2, 5, 6, 31]), (7, [1, 2, 5, 6, 7]), (8, [1, 2, 5, 6, 7, 36]), (10, [1, 2, 5, 6, 7, 90]), (11, [4]), (9, [1, 2, 5, 6, 7]), (6, [1, 2, 5, 6]), (12, [4])], [(5, [1, 2, 5, 6], []), (8, [1, 2, 5, 6, 7], [])], []⟩
def lb_122_8 : AC :=
  (.seq
    (.seq
      (.region false [⟨some 34, (.mv (.t 7)), 3, none, 0⟩, ⟨some 35, (.mv (.t 5)), 3, none, 0⟩, ⟨some 36, (.bin .lss 3 (.t 34) (.t 35)), 4, none, 0⟩] (some [1, 2, 5, 6, 7, 36]))
      (.cond (.t 36)
        .skip
        (.exit 2)))
    (.seq
      (.block 3
        (.seq
          (.region false (gops (seg [1, 2, 5, 6, 7, 48] [⟨some 39, (.mv (.t 1)), 3, none, 0⟩, ⟨some 40, (.mv (.t 6)), 3, none, 0⟩, ⟨some 41, (.call (.f 171) [(.t 39), (.t 40)]), 3, none, 3⟩, ⟨some 42, (.bin .eql 3 (.t 41) (.c (.int .i64 1))), 4, none, 0⟩, ⟨some 43, (.mv (.t 42)), 4, none, 0⟩, ⟨some 44, (.mv (.t 1)), 3, some (43, true), 0⟩, ⟨some 45, (.mv (.t 7)), 3, some (43, true), 0⟩, ⟨some 46, (.call (.f 171) [(.t 44), (.t 45)]), 3, some (43, true), 3⟩, ⟨some 47, (.bin .eql 3 (.t 46) (.c (.int .i64 1))), 4, some (43, true), 0⟩, ⟨some 48, (.pick (.t 43) (.t 47) (.c (.bool false))), 4, none, 0⟩]
          (seg [1, 2, 5, 6, 7, 49, 50, 58] [⟨some 49, (.mv (.t 48)), 4, none, 0⟩, ⟨some 50, (.mv (.t 1)), 3, some (49, true), 0⟩, ⟨some 51, (.faddr 27 (.t 2) 1), 0, some (49, true), 0⟩, ⟨some 52, (.load 25 (.t 51)), 25, some (49, true), 0⟩, ⟨some 53, (.mv (.t 6)), 3, some (49, true), 0⟩, ⟨some 54, (.iaddr 25 (.t 52) (.t 53)), 0, some (49, true), 0⟩, ⟨some 55, (.load 23 (.t 54)), 23, some (49, true), 0⟩, ⟨some 56, (.mv (.t 7)), 3, some (49, true), 0⟩, ⟨some 57, (.iaddr 23 (.t 55) (.t 56)), 0, some (49, true), 0⟩, ⟨some 58, (.load 3 (.t 57)), 3, some (49, true), 0⟩]
          (seg [1, 2, 5, 6, 7, 49, 61, 68] [⟨some 59, (.call (.f 171) [(.t 50), (.t 58)]), 3, some (49, true), 3⟩, ⟨some 60, (.bin .eql 3 (.t 59) (.c (.int .i64 0))), 4, some (49, true), 0⟩, ⟨some 61, (.mv (.t 60)), 4, some (49, true), 0⟩, ⟨some 62, (.mv (.t 1)), 3, some (61, false), 0⟩, ⟨some 63, (.load 27 (.t 2)), 27, some (61, false), 0⟩, ⟨some 64, (.mv (.t 6)), 3, some (61, false), 0⟩, ⟨some 65, (.mv (.t 7)), 3, some (61, false), 0⟩, ⟨some 66, (.call (.f 137) [(.t 63), (.t 64), (.t 65)]), 3, some (61, false), 3⟩, ⟨some 67, (.call (.f 171) [(.t 62), (.t 66)]), 3, some (61, false), 3⟩, ⟨some 68, (.bin .eql 3 (.t 67) (.c (.int .i64 0))), 4, some (61, false), 0⟩]
          (seg [1, 2, 5, 6, 7, 49, 70, 78] [⟨some 69, (.pick (.t 61) (.c (.bool true)) (.t 68)), 4, some (49, true), 0⟩, ⟨some 70, (.mv (.t 69)), 4, some (49, true), 0⟩, ⟨some 71, (.mv (.t 1)), 3, some (70, false), 0⟩, ⟨some 72, (.faddr 27 (.t 2) 0), 0, some (70, false), 0⟩, ⟨some 73, (.load 23 (.t 72)), 23, some (70, false), 0⟩, ⟨some 74, (.mv (.t 6)), 3, some (70, false), 0⟩, ⟨some 75, (.mv (.t 7)), 3, some (70, false), 0⟩, ⟨some 76, (.call (.f 165) [(.t 73), (.t 74), (.t 75)]), 3, some (70, false), 3⟩, ⟨some 77, (.call (.f 171) [(.t 71), (.t 76)]), 3, some (70, false), 3⟩, ⟨some 78, (.bin .eql 3 (.t 77) (.c (.int .i64 0))), 4, some (70, false), 0⟩]
          [⟨some 79, (.pick (.t 70) (.c (.bool true)) (.t 78)), 4, some (49, true), 0⟩, ⟨some 80, (.mv (.t 79)), 4, some (49, true), 0⟩, ⟨some 81, (.mv (.t 1)), 3, some (80, false), 0⟩, ⟨some 82, (.faddr 27 (.t 2) 0), 0, some (80, false), 0⟩, ⟨some 83, (.load 23 (.t 82)), 23, some (80, false), 0⟩, ⟨some 84, (.mv (.t 6)), 3, some (80, false), 0⟩, ⟨some 85, (.mv (.t 7)), 3, some (80, false), 0⟩, ⟨some 86, (.call (.f 136) [(.t 83), (.t 84), (.t 85)]), 3, some (80, false), 3⟩, ⟨some 87, (.call (.f 171) [(.t 81), (.t 86)]), 3, some (80, false), 3⟩, ⟨some 88, (.bin .eql 3 (.t 87) (.c (.int .i64 0))), 4, some (80, false), 0⟩, ⟨some 89, (.pick (.t 80) (.c (.bool true)) (.t 88)), 4, some (49, true), 0⟩, ⟨some 90, (.pick (.t 49) (.t 89) (.c (.bool false))), 4, none, 0⟩] [1, 2, 5, 6, 7, 90] (by decide)) [1, 2, 5, 6, 7, 90] (by decide)) [1, 2, 5, 6, 7, 90] (by decide)) [1, 2, 5, 6, 7, 90] (by decide))) (some [1, 2, 5, 6, 7, 90]))
          (.cond (.t 90)
            (.seq
              (.region false [⟨some 4, (.mv (.c (.bool false))), 4, none, 0⟩] (some [4]))
              .ret)
            .skip)))
      (.region false [⟨some 37, (.mv (.t 7)), 3, none, 0⟩, ⟨some 38, (.bin .add 3 (.t 37) (.c (.int .i64 1))), 3, none, 0⟩, ⟨some 7, (.mv (.t 38)), 3, none, 0⟩] (some [1, 2, 5, 6, 7]))))
def lb_122_5 : AC :=
  (.seq
    (.seq
      (.region false [⟨some 29, (.mv (.t 6)), 3, none, 0⟩, ⟨some 30, (.mv (.t 5)), 3, none, 0⟩, ⟨some 31, (.bin .lss 3 (.t 29) (.t 30)), 4, none, 0⟩] (some [1, 2, 5, 6, 31]))
      (.cond (.t 31)
        .skip
        (.exit 0)))
    (.seq
      (.block 1
        (.seq
          (.region false [⟨some 7, (.mv (.c (.int .i64 0))), 3, none, 0⟩] (some [1, 2, 5, 6, 7]))
          (.block 2
            (.loop [1, 2, 5, 6, 7] [] lb_122_8))))
      (.region false [⟨some 32, (.mv (.t 6)), 3, none, 0⟩, ⟨some 33, (.bin .add 3 (.t 32) (.c (.int .i64 1))), 3, none, 0⟩, ⟨some 6, (.mv (.t 33)), 3, none, 0⟩] (some [1, 2, 5, 6]))))
def fa_122 : FnA := ⟨91, [.t 4],
  (.seq
    (.region false [⟨some 2, (.box 27 (.t 0)), 0, none, 0⟩, ⟨some 4, (.mv (.c (.bool false))), 4, none, 0⟩] (some [1, 2]))
    (.seq
      (.region false [⟨some 8, (.faddr 27 (.t 2) 0), 0, none, 0⟩, ⟨some 9, (.load 23 (.t 8)), 23, none, 0⟩, ⟨some 10, (.len 23 (.t 9)), 3, none, 0⟩, ⟨some 5, (.mv (.t 10)), 3, none, 0⟩] (some [1, 2, 5]))
      (.seq
        (.seq
          (.region false (gops [⟨some 11, (.mv (.t 1)), 3, none, 0⟩, ⟨some 12, (.mv (.t 5)), 3, none, 0⟩, ⟨some 13, (.call (.f 121) [(.t 12)]), 3, none, 3⟩, ⟨some 14, (.bin .sub 3 (.t 13) (.c (.int .i64 1))), 3, none, 0⟩, ⟨some 15, (.call (.f 128) [(.t 11), (.c (.int .i64 0)), (.t 14)]), 4, none, 3⟩, ⟨some 16, (.un .not (.t 15)), 4, none, 0⟩, ⟨some 17, (.mv (.t 16)), 4, none, 0⟩, ⟨some 18, (.mv (.t 1)), 3, some (17, false), 0⟩, ⟨some 19, (.call (.f 171) [(.t 18), (.c (.int .i64 0))]), 3, some (17, false), 3⟩, ⟨some 20, (.bin .eql 3 (.t 19) (.c (.int .i64 0))), 4, some (17, false), 0⟩, ⟨some 21, (.pick (.t 17) (.c (.bool true)) (.t 20)), 4, none, 0⟩, ⟨some 22, (.mv (.t 21)), 4, none, 0⟩, ⟨some 23, (.mv (.t 1)), 3, some (22, false), 0⟩, ⟨some 24, (.mv (.t 5)), 3, some (22, false), 0⟩, ⟨some 25, (.bin .sub 3 (.t 24) (.c (.int .i64 1))), 3, some (22, false), 0⟩, ⟨some 26, (.call (.f 171) [(.t 23), (.t 25)]), 3, some (22, false), 3⟩, ⟨some 27, (.bin .eql 3 (.t 26) (.c (.int .i64 0))), 4, some (22, false), 0⟩, ⟨some 28, (.pick (.t 22) (.c (.bool true)) (.t 27)), 4, none, 0⟩]) (some [1, 2, 5, 28]))
          (.cond (.t 28)
            (.seq
              (.region false [⟨some 4, (.mv (.c (.bool false))), 4, none, 0⟩] (some [4]))
              .ret)
            .skip))
        (.seq
          (.seq
            (.region false [⟨some 6, (.mv (.c (.int .i64 0))), 3, none, 0⟩] (some [1, 2, 5, 6]))
            (.block 0
              (.loop [1, 2, 5, 6] [] lb_122_5)))
          (.seq
            (.region false [⟨some 4, (.mv (.c (.bool true))), 4, none, 0⟩] (some [4]))
            .ret)))))⟩
theorem fok_122 : FnOk Try.prog 122 fa_122 an_122 := ⟨Try.f122, _, Try.func122, rfl, by kernel_rfl, rfl, rfl, by decide, by kernel_rfl⟩
/-- spec.PartsOf -/
def an_42 : Ann := ⟨[(1, 1, 3), (3, 0, 1), (5, 4, 3), (7, 2, 3)], [(0, [1]), (1, [1, 7]), (2, [2]), (3, [1, 3]), (4, [1, 3, 4]), (5, [1, 3, 4, 14]), (7, [1, 3, 4, 19]), (8, [1, 3, 4]), (6, [1, 3, 4]), (9, [2])], [(5, [1, 3, 4], [64, 184])], []⟩
def lb_42_5 : AC :=
  (.seq
    (.seq
      (.region false [⟨some 9, (.mv (.t 4)), 3, none, 0⟩, ⟨some 10, (.faddr 27 (.t 1) 0), 0, none, 0⟩, ⟨some 11, (.load 23 (.t 10)), 23, none, 0⟩, ⟨some 12, (.len 23 (.t 11)), 3, none, 0⟩, ⟨some 13, (.call (.f 121) [(.t 12)]), 3, none, 3⟩, ⟨some 14, (.bin .lss 3 (.t 9) (.t 13)), 4, none, 0⟩] (some [1, 3, 4, 14]))
      (.cond (.t 14)
        .skip
        (.exit 0)))
    (.seq
      (.block 1
        (.seq
          (.region false [⟨some 17, (.load 27 (.t 1)), 27, none, 0⟩, ⟨some 18, (.mv (.t 4)), 3, none, 0⟩, ⟨some 19, (.call (.f 122) [(.t 17), (.t 18)]), 4, none, 3⟩] (some [1, 3, 4, 19]))
          (.cond (.t 19)
            (.region false [⟨some 20, (.mv (.t 3)), 23, none, 0⟩, ⟨some 21, (.mv (.t 4)), 3, none, 0⟩, ⟨some 22, (.bslice 23 1 [(0, (.t 21))]), 23, none, 0⟩, ⟨some 23, (.app 23 23 (.t 20) (.t 22)), 23, none, 0⟩, ⟨some 3, (.mv (.t 23)), 23, none, 0⟩] (some [1, 3, 4]))
            .skip)))
      (.region false [⟨some 15, (.mv (.t 4)), 3, none, 0⟩, ⟨some 16, (.bin .add 3 (.t 15) (.c (.int .i64 1))), 3, none, 0⟩, ⟨some 4, (.mv (.t 16)), 3, none, 0⟩] (some [1, 3, 4]))))
def fa_42 : FnA := ⟨25, [.t 2],
  (.seq
    (.region false [⟨some 1, (.box 27 (.t 0)), 0, none, 0⟩, ⟨some 2, (.mv (.c .nil)), 23, none, 0⟩] (some [1]))
    (.seq
      (.seq
        (.region false [⟨some 5, (.load 27 (.t 1)), 27, none, 0⟩, ⟨some 6, (.call (.f 111) [(.t 5)]), 4, none, 3⟩, ⟨some 7, (.un .not (.t 6)), 4, none, 0⟩] (some [1, 7]))
        (.cond (.t 7)
          (.seq
            (.region false [⟨some 2, (.mv (.c .nil)), 23, none, 0⟩] (some [2]))
            .ret)
          .skip))
      (.seq
        (.region false [⟨some 8, (.bslice 23 0 []), 23, none, 1⟩, ⟨some 3, (.mv (.t 8)), 23, none, 0⟩] (some [1, 3]))
        (.seq
          (.seq
            (.region false [⟨some 4, (.mv (.c (.int .i64 0))), 3, none, 0⟩] (some [1, 3, 4]))
            (.block 0
              (.loop [1, 3, 4] [64, 184] lb_42_5)))
          (.seq
            (.region false [⟨some 24, (.mv (.t 3)), 23, none, 0⟩, ⟨some 2, (.mv (.t 24)), 23, none, 0⟩] (some [2]))
            .ret)))))⟩
theorem fok_42 : FnOk Try.prog 42 fa_42 an_42 := ⟨Try.f42, _, Try.func42, rfl, by kernel_rfl, rfl, rfl, by decide, by kernel_rfl⟩
/-- impl.isPart -/
def an_120 : Ann := ⟨[(1, 1, 3), (1, 9, 3), (9, 2, 3), (9, 7, 3), (10, 9, 3), (10, 16, 3), (10, 17, 3), (10, 26, 3), (10, 27, 3), (10, 36, 3), (10, 37, 3)], [(0, [1, 2]), (1, [1, 2, 18]), (2, [4]), (3, [1, 2, 21, 22]), (4, [1, 2, 21, 22, 23]), (5, [1, 2, 5, 21, 22]), (6, [1, 2, 5, 21, 22, 27, 28]), (7, [1, 2, 5, 21, 22, 27, 28, 29]), (8, [1, 2, 5, 6, 21, 22, 27, 28]), (9, [1, 2, 5, 6, 21, 22, 27, 28, 40]), (10, [1, 2, 5, 21, 22, 27, 28, 80]), (11, [4]), (12, [1, 2, 5, 21, 22, 27, 28]), (13, [1, 2, 21, 22]), (14, [4])], [(4, [1, 2, 21, 22], []), (7, [1, 2, 5, 21, 22, 27, 28], [])], []⟩
def lb_120_7 : AC :=
  (.seq
    (.region false [⟨some 29, (.bin .lss 3 (.t 28) (.t 27)), 0, none, 0⟩] (some [1, 2, 5, 21, 22, 27, 28, 29]))
    (.seq
      (.cond (.t 29)
        .skip
        (.exit 2))
      (.seq
        (.block 3
          (.seq
            (.region false [⟨some 30, (.mv (.t 28)), 3, none, 0⟩, ⟨some 6, (.mv (.t 30)), 3, none, 0⟩] (some [1, 2, 5, 6, 21, 22, 27, 28]))
            (.seq
              (.seq
                (.region false (gops [⟨some 31, (.mv (.t 1)), 3, none, 0⟩, ⟨some 32, (.mv (.t 5)), 3, none, 0⟩, ⟨some 33, (.call (.f 170) [(.t 31), (.t 32)]), 4, none, 3⟩, ⟨some 34, (.un .not (.t 33)), 4, none, 0⟩, ⟨some 35, (.mv (.t 34)), 4, none, 0⟩, ⟨some 36, (.mv (.t 1)), 3, some (35, false), 0⟩, ⟨some 37, (.mv (.t 6)), 3, some (35, false), 0⟩, ⟨some 38, (.call (.f 170) [(.t 36), (.t 37)]), 4, some (35, false), 3⟩, ⟨some 39, (.un .not (.t 38)), 4, some (35, false), 0⟩, ⟨some 40, (.pick (.t 35) (.c (.bool true)) (.t 39)), 4, none, 0⟩]) (some [1, 2, 5, 6, 21, 22, 27, 28, 40]))
                (.cond (.t 40)
                  (.exit 3)
                  .skip))
              (.seq
                (.region false (gops (seg [1, 2, 5, 6, 21, 22, 27, 28, 50] [⟨some 41, (.mv (.t 1)), 3, none, 0⟩, ⟨some 42, (.faddr 27 (.t 2) 1), 0, none, 0⟩, ⟨some 43, (.load 25 (.t 42)), 25, none, 0⟩, ⟨some 44, (.mv (.t 5)), 3, none, 0⟩, ⟨some 45, (.iaddr 25 (.t 43) (.t 44)), 0, none, 0⟩, ⟨some 46, (.load 23 (.t 45)), 23, none, 0⟩, ⟨some 47, (.mv (.t 6)), 3, none, 0⟩, ⟨some 48, (.iaddr 23 (.t 46) (.t 47)), 0, none, 0⟩, ⟨some 49, (.load 3 (.t 48)), 3, none, 0⟩, ⟨some 50, (.call (.f 170) [(.t 41), (.t 49)]), 4, none, 3⟩]
                (seg [1, 2, 5, 6, 21, 22, 27, 28, 60] [⟨some 51, (.un .not (.t 50)), 4, none, 0⟩, ⟨some 52, (.mv (.t 51)), 4, none, 0⟩, ⟨some 53, (.mv (.t 1)), 3, some (52, false), 0⟩, ⟨some 54, (.load 27 (.t 2)), 27, some (52, false), 0⟩, ⟨some 55, (.mv (.t 5)), 3, some (52, false), 0⟩, ⟨some 56, (.mv (.t 6)), 3, some (52, false), 0⟩, ⟨some 57, (.call (.f 118) [(.t 54), (.t 55), (.t 56)]), 3, some (52, false), 3⟩, ⟨some 58, (.call (.f 170) [(.t 53), (.t 57)]), 4, some (52, false), 3⟩, ⟨some 59, (.un .not (.t 58)), 4, some (52, false), 0⟩, ⟨some 60, (.pick (.t 52) (.c (.bool true)) (.t 59)), 4, none, 0⟩]
                (seg [1, 2, 5, 6, 21, 22, 27, 28, 70] [⟨some 61, (.mv (.t 60)), 4, none, 0⟩, ⟨some 62, (.mv (.t 1)), 3, some (61, false), 0⟩, ⟨some 63, (.faddr 27 (.t 2) 0), 0, some (61, false), 0⟩, ⟨some 64, (.load 23 (.t 63)), 23, some (61, false), 0⟩, ⟨some 65, (.mv (.t 5)), 3, some (61, false), 0⟩, ⟨some 66, (.mv (.t 6)), 3, some (61, false), 0⟩, ⟨some 67, (.call (.f 95) [(.t 64), (.t 65), (.t 66)]), 3, some (61, false), 3⟩, ⟨some 68, (.call (.f 170) [(.t 62), (.t 67)]), 4, some (61, false), 3⟩, ⟨some 69, (.un .not (.t 68)), 4, some (61, false), 0⟩, ⟨some 70, (.pick (.t 61) (.c (.bool true)) (.t 69)), 4, none, 0⟩]
                [⟨some 71, (.mv (.t 70)), 4, none, 0⟩, ⟨some 72, (.mv (.t 1)), 3, some (71, false), 0⟩, ⟨some 73, (.faddr 27 (.t 2) 0), 0, some (71, false), 0⟩, ⟨some 74, (.load 23 (.t 73)), 23, some (71, false), 0⟩, ⟨some 75, (.mv (.t 5)), 3, some (71, false), 0⟩, ⟨some 76, (.mv (.t 6)), 3, some (71, false), 0⟩, ⟨some 77, (.call (.f 102) [(.t 74), (.t 75), (.t 76)]), 3, some (71, false), 3⟩, ⟨some 78, (.call (.f 170) [(.t 72), (.t 77)]), 4, some (71, false), 3⟩, ⟨some 79, (.un .not (.t 78)), 4, some (71, false), 0⟩, ⟨some 80, (.pick (.t 71) (.c (.bool true)) (.t 79)), 4, none, 0⟩] [1, 2, 5, 21, 22, 27, 28, 80] (by decide)) [1, 2, 5, 21, 22, 27, 28, 80] (by decide)) [1, 2, 5, 21, 22, 27, 28, 80] (by decide))) (some [1, 2, 5, 21, 22, 27, 28, 80]))
                (.cond (.t 80)
                  (.seq
                    (.region false [⟨some 4, (.mv (.c (.bool false))), 4, none, 0⟩] (some [4]))
                    .ret)
                  .skip)))))
        (.region false [⟨some 81, (.bin .add 3 (.t 28) (.c (.int .i64 1))), 3, none, 0⟩, ⟨some 28, (.mv (.t 81)), 3, none, 0⟩] (some [1, 2, 5, 21, 22, 27, 28])))))
def lb_120_4 : AC :=
  (.seq
    (.region false [⟨some 23, (.bin .lss 3 (.t 22) (.t 21)), 0, none, 0⟩] (some [1, 2, 21, 22, 23]))
    (.seq
      (.cond (.t 23)
        .skip
        (.exit 0))
      (.seq
        (.block 1
          (.seq
            (.region false [⟨some 24, (.mv (.t 22)), 3, none, 0⟩, ⟨some 5, (.mv (.t 24)), 3, none, 0⟩] (some [1, 2, 5, 21, 22]))
            (.seq
              (.region false [⟨some 25, (.faddr 27 (.t 2) 0), 0, none, 0⟩, ⟨some 26, (.load 23 (.t 25)), 23, none, 0⟩, ⟨some 27, (.len 23 (.t 26)), 3, none, 0⟩, ⟨some 28, (.mv (.c (.int .i64 0))), 3, none, 0⟩] (some [1, 2, 5, 21, 22, 27, 28]))
              (.block 2
                (.loop [1, 2, 5, 21, 22, 27, 28] [] lb_120_7)))))
        (.region false [⟨some 82, (.bin .add 3 (.t 22) (.c (.int .i64 1))), 3, none, 0⟩, ⟨some 22, (.mv (.t 82)), 3, none, 0⟩] (some [1, 2, 21, 22])))))
def fa_120 : FnA := ⟨83, [.t 4],
  (.seq
    (.region false [⟨some 2, (.box 27 (.t 0)), 0, none, 0⟩, ⟨some 4, (.mv (.c (.bool false))), 4, none, 0⟩] (some [1, 2]))
    (.seq
      (.seq
        (.region false (gops [⟨some 7, (.mv (.t 1)), 3, none, 0⟩, ⟨some 8, (.call (.f 170) [(.t 7), (.c (.int .i64 0))]), 4, none, 3⟩, ⟨some 9, (.un .not (.t 8)), 4, none, 0⟩, ⟨some 10, (.mv (.t 9)), 4, none, 0⟩, ⟨some 11, (.mv (.t 1)), 3, some (10, false), 0⟩, ⟨some 12, (.faddr 27 (.t 2) 0), 0, some (10, false), 0⟩, ⟨some 13, (.load 23 (.t 12)), 23, some (10, false), 0⟩, ⟨some 14, (.len 23 (.t 13)), 3, some (10, false), 0⟩, ⟨some 15, (.bin .sub 3 (.t 14) (.c (.int .i64 1))), 3, some (10, false), 0⟩, ⟨some 16, (.call (.f 170) [(.t 11), (.t 15)]), 4, some (10, false), 3⟩, ⟨some 17, (.un .not (.t 16)), 4, some (10, false), 0⟩, ⟨some 18, (.pick (.t 10) (.c (.bool true)) (.t 17)), 4, none, 0⟩]) (some [1, 2, 18]))
        (.cond (.t 18)
          (.seq
            (.region false [⟨some 4, (.mv (.c (.bool false))), 4, none, 0⟩] (some [4]))
            .ret)
          .skip))
      (.seq
        (.seq
          (.region false [⟨some 19, (.faddr 27 (.t 2) 0), 0, none, 0⟩, ⟨some 20, (.load 23 (.t 19)), 23, none, 0⟩, ⟨some 21, (.len 23 (.t 20)), 3, none, 0⟩, ⟨some 22, (.mv (.c (.int .i64 0))), 3, none, 0⟩] (some [1, 2, 21, 22]))
          (.block 0
            (.loop [1, 2, 21, 22] [] lb_120_4)))
        (.seq
          (.region false [⟨some 4, (.mv (.c (.bool true))), 4, none, 0⟩] (some [4]))
          .ret))))⟩
theorem fok_120 : FnOk Try.prog 120 fa_120 an_120 := ⟨Try.f120, _, Try.func120, rfl, by kernel_rfl, rfl, rfl, by decide, by kernel_rfl⟩
/-- impl.PartsOf -/
def an_41 : Ann := ⟨[(1, 1, 3), (3, 0, 1), (7, 2, 3)], [(0, [1]), (1, [1, 7]), (2, [2]), (3, [1, 3]), (4, [1, 3, 4]), (5, [1, 3, 4, 14]), (7, [1, 3, 4, 19]), (8, [1, 3, 4]), (6, [1, 3, 4]), (9, [2])], [(5, [1, 3, 4], [64, 184])], []⟩
def lb_41_5 : AC :=
  (.seq
    (.seq
      (.region false [⟨some 9, (.mv (.t 4)), 3, none, 0⟩, ⟨some 10, (.faddr 27 (.t 1) 0), 0, none, 0⟩, ⟨some 11, (.load 23 (.t 10)), 23, none, 0⟩, ⟨some 12, (.len 23 (.t 11)), 3, none, 0⟩, ⟨some 13, (.bin .shl 3 (.c (.int .i64 1)) (.t 12)), 3, none, 0⟩, ⟨some 14, (.bin .lss 3 (.t 9) (.t 13)), 4, none, 0⟩] (some [1, 3, 4, 14]))
      (.cond (.t 14)
        .skip
        (.exit 0)))
    (.seq
      (.block 1
        (.seq
          (.region false [⟨some 17, (.load 27 (.t 1)), 27, none, 0⟩, ⟨some 18, (.mv (.t 4)), 3, none, 0⟩, ⟨some 19, (.call (.f 120) [(.t 17), (.t 18)]), 4, none, 3⟩] (some [1, 3, 4, 19]))
          (.cond (.t 19)
            (.region false [⟨some 20, (.mv (.t 3)), 23, none, 0⟩, ⟨some 21, (.mv (.t 4)), 3, none, 0⟩, ⟨some 22, (.bslice 23 1 [(0, (.t 21))]), 23, none, 0⟩, ⟨some 23, (.app 23 23 (.t 20) (.t 22)), 23, none, 0⟩, ⟨some 3, (.mv (.t 23)), 23, none, 0⟩] (some [1, 3, 4]))
            .skip)))
      (.region false [⟨some 15, (.mv (.t 4)), 3, none, 0⟩, ⟨some 16, (.bin .add 3 (.t 15) (.c (.int .i64 1))), 3, none, 0⟩, ⟨some 4, (.mv (.t 16)), 3, none, 0⟩] (some [1, 3, 4]))))
def fa_41 : FnA := ⟨25, [.t 2],
  (.seq
    (.region false [⟨some 1, (.box 27 (.t 0)), 0, none, 0⟩, ⟨some 2, (.mv (.c .nil)), 23, none, 0⟩] (some [1]))
    (.seq
      (.seq
        (.region false [⟨some 5, (.load 27 (.t 1)), 27, none, 0⟩, ⟨some 6, (.call (.f 23) [(.t 5)]), 4, none, 3⟩, ⟨some 7, (.un .not (.t 6)), 4, none, 0⟩] (some [1, 7]))
        (.cond (.t 7)
          (.seq
            (.region false [⟨some 2, (.mv (.c .nil)), 23, none, 0⟩] (some [2]))
            .ret)
          .skip))
      (.seq
        (.region false [⟨some 8, (.bslice 23 0 []), 23, none, 1⟩, ⟨some 3, (.mv (.t 8)), 23, none, 0⟩] (some [1, 3]))
        (.seq
          (.seq
            (.region false [⟨some 4, (.mv (.c (.int .i64 0))), 3, none, 0⟩] (some [1, 3, 4]))
            (.block 0
              (.loop [1, 3, 4] [64, 184] lb_41_5)))
          (.seq
            (.region false [⟨some 24, (.mv (.t 3)), 23, none, 0⟩, ⟨some 2, (.mv (.t 24)), 23, none, 0⟩] (some [2]))
            .ret)))))⟩
theorem fok_41 : FnOk Try.prog 41 fa_41 an_41 := ⟨Try.f41, _, Try.func41, rfl, by kernel_rfl, rfl, rfl, by decide, by kernel_rfl⟩
end Go.PS
end

section
-- Contracts: parts.
set_option maxRecDepth 100000
set_option linter.unusedVariables false
set_option linter.unusedSimpArgs false
namespace Go.PS
open Go.Proofs

/-- What a pair makes no part. -/
def ptB (u : List Int) (t : List (List Int)) (s x y : Nat) : Bool := s.testBit x && s.testBit y && (!s.testBit (tn t x y) || !s.testBit (im u t x y) || !s.testBit (mt u x y) || !s.testBit (jo u x y))
theorem PT.at {u : List Int} {t : List (List Int)} {s : Nat} (P : PT u t s) {x y : Nat} (hx : x < u.length) (hy : y < u.length) : ptB u t s x y = false := by
  unfold ptB
  cases h1 : s.testBit x
  · rfl
  · cases h2 : s.testBit y
    · rfl
    · have := P.cl x hx y hy h1 h2
      simp [this.1.1, this.1.2, this.2.1, this.2.2]
theorem pt_of {u : List Int} {t : List (List Int)} {s : Nat} (h1 : s < 2 ^ u.length) (h2 : s.testBit 0 = true) (h3 : s.testBit (u.length - 1) = true) (h : ∀ x, x < u.length → ∀ y, y < u.length → ptB u t s x y = false) : PT u t s := by
  refine ⟨h1, h2, h3, fun x hx y hy c1 c2 => ?_⟩
  have := h x hx y hy
  simp only [ptB, c1, c2, Bool.true_and, Bool.or_eq_false_iff, Bool.not_eq_false'] at this
  exact ⟨⟨this.1.1.1, this.1.1.2⟩, this.1.2, this.2⟩
set_option maxHeartbeats 4000000 in
theorem isPtS_pc (u : List Int) (t : List (List Int)) (s : Int) (a : VA u t) (hs : inS u.length s = true) : PC Try.prog 122 [AL u t, I64 s] none true (fun r _ => r = .bool (decide (PT u t s.toNat))) := by
  obtain ⟨s, rfl, hs2⟩ := inS_ex hs
  simp only [Int.toNat_natCast]
  have v := a.lat
  have tf := a.tf
  have hp := v.pos
  have h6 := v.six
  have hul : u.length ≤ 1099511627776 := by omega
  have hw := p2w h6
  have h64 := p2le h6
  have hf2 : (s : Int) ≤ 2 ^ u.length - 1 := by rw [p2i]; omega
  have f64 : (s : Int) < 64 := by omega
  have w1 : IntKind.i64.wrap ((u.length : Int) - 1) = ((u.length - 1 : Nat) : Int) := by rw [wrap64 (by omega) (by omega)]; omega
  refine pcT [fm_power, fm_inRange, fm_bitS, fm_implyS, fm_meetS, fm_joinS] fok_122 ?_
  simp [fa_122]
  refine cutW (tabK_mono _) [(28, .bool (!(s.testBit 0 && s.testBit (u.length - 1))))] (by
    cases b0 : s.testBit 0
    · simp [hw, hf2, f64, b0, show (u.length : Int) ≤ 61 by omega]
    · simp [hw, hf2, f64, b0, w1, show (u.length : Int) ≤ 61 by omega, show ((u.length - 1 : Nat) : Int) ≤ 61 by omega]) ?_
  simp
  refine ⟨fun h P => ?_, fun b0 b1 => ?_⟩
  · have h0 := P.bot
    have h1 := P.top
    rw [Nat.testBit_zero, decide_eq_true_eq] at h0
    rcases h with c | c
    · omega
    · rw [c] at h1; cases h1
  have b0 : s.testBit 0 = true := by rw [Nat.testBit_zero, decide_eq_true_eq]; exact b0
  refine loopA (tabK_mono _) u.length (fun i => [(6, I64 i)]) (fun _ => []) (fun x => ∀ y, y < u.length → ptB u t s x y = false) (by simp) (by simp) (fun x g hx hP => ?_)
  simp [lb_122_5, wrap_succ hx hul]
  refine ⟨fun h2 => ?_, fun h2 => ?_⟩
  · refine loopA (tabK_mono _) u.length (fun i => [(7, I64 i)]) (fun _ => []) (fun y => ptB u t s x y = false) (by simp) (by simp) (fun y g2 hy hQ => ?_)
    simp only [lb_122_8]
    simp [wrap_succ hy hul]
    refine ⟨fun h3 => ?_, fun h3 => ?_⟩
    · refine cutW (tabK_mono _) [(90, .bool (ptB u t s x y))] (by
        have s1 := a.tn_int h2 h3
        have s2 := a.tn_lt h2 h3
        have hlen := a.len
        have hrow := a.rows x h2
        have l1 := fm_implyS_look u t x y tf (by omega) (by omega) (by omega) (by omega)
        have l2 := fm_meetS_look u x y v.sm (by omega) (by omega) (by omega) (by omega)
        have l3 := fm_joinS_look u x y v.sm (by omega) (by omega) (by omega) (by omega)
        simp only [Int.toNat_natCast] at l1 l2 l3
        rw [a.im_int] at l1
        rw [v.mt_int h2 h3] at l2
        rw [v.jo_int h2 h3] at l3
        have r1 := a.im_lt (x := x) (y := y)
        have r2 := v.mt_lt h2 h3
        have r3 := v.jo_lt h2 h3
        unfold ptB
        generalize tn t x y = z1 at *
        generalize im u t x y = z2 at *
        generalize mt u x y = z3 at *
        generalize jo u x y = z4 at *
        cases c1 : s.testBit x
        · simp [c1, f64, show (x : Int) ≤ 61 by omega]
        · cases c2 : s.testBit y
          · simp [c1, c2, f64, show (x : Int) ≤ 61 by omega, show (y : Int) ≤ 61 by omega]
          · cases k1 : s.testBit z1
            · simp [c1, c2, k1, h2, h3, s1, hlen, hrow, f64, show (x : Int) ≤ 61 by omega, show (y : Int) ≤ 61 by omega, show (z1 : Int) ≤ 61 by omega]
            · cases k2 : s.testBit z2
              · simp [c1, c2, k1, k2, h2, h3, s1, hlen, hrow, l1, f64, show (x : Int) ≤ 61 by omega, show (y : Int) ≤ 61 by omega, show (z1 : Int) ≤ 61 by omega, show (z2 : Int) ≤ 61 by omega]
              · cases k3 : s.testBit z3
                · simp [c1, c2, k1, k2, k3, h2, h3, s1, hlen, hrow, l1, l2, f64, show (x : Int) ≤ 61 by omega, show (y : Int) ≤ 61 by omega, show (z1 : Int) ≤ 61 by omega, show (z2 : Int) ≤ 61 by omega, show (z3 : Int) ≤ 61 by omega]
                · simp [c1, c2, k1, k2, k3, h2, h3, s1, hlen, hrow, l1, l2, l3, f64, show (x : Int) ≤ 61 by omega, show (y : Int) ≤ 61 by omega, show (z1 : Int) ≤ 61 by omega, show (z2 : Int) ≤ 61 by omega, show (z3 : Int) ≤ 61 by omega, show (z4 : Int) ≤ 61 by omega]) ?_
      cases hb : ptB u t s x y
      · simp [wrap_succ hy hul]
        exact ⟨h3, hb⟩
      · simp
        intro P
        have := P.at h2 h3
        rw [hb] at this
        cases this
    · exact ⟨h2, wrap_succ hx hul, fun y hy => hQ y (by omega)⟩
  · exact pt_of hs2 b0 b1 fun x hx => hP x (by omega)
noncomputable def fm_isPtS : Fam Try.prog := mkFam (X := List Int × List (List Int) × Int) 122 true (fun (u, t, s) => [AL u t, I64 s]) (fun (u, t, s) => (VA u t) ∧ (inS u.length s = true)) (fun (u, t, s) => .bool (decide (PT u t s.toNat))) (by
  rintro ⟨u, t, s⟩ ⟨a, hs⟩
  exact isPtS_pc u t s a hs)
@[simp] theorem fm_isPtS_id : fm_isPtS.id = 122 := rfl
@[simp] theorem fm_isPtS_fresh : fm_isPtS.fresh = true := rfl
@[simp] theorem fm_isPtS_look (u : List Int) (t : List (List Int)) (s : Int) (a : VA u t) (hs : inS u.length s = true) : fm_isPtS.look [AL u t, I64 s] = some (.bool (decide (PT u t s.toNat))) :=
  lookF_of (X := List Int × List (List Int) × Int) (args := fun (u, t, s) => [AL u t, I64 s]) (pre := fun (u, t, s) => (VA u t) ∧ (inS u.length s = true)) (val := fun (u, t, s) => .bool (decide (PT u t s.toNat))) (by
  rintro ⟨u, t, s⟩ ⟨u', t', s'⟩ h
  simp at h
  try simp only [and_assoc] at h
  obtain ⟨rfl, rfl, rfl⟩ := h
  rfl) (u, t, s) ⟨a, hs⟩
attribute [irreducible] fm_isPtS
set_option maxHeartbeats 4000000 in
theorem isPtI_pc (u : List Int) (t : List (List Int)) (s : Int) (a : VA u t) (hs : inS u.length s = true) : PC Try.prog 120 [AL u t, I64 s] none true (fun r _ => r = .bool (decide (PT u t s.toNat))) := by
  obtain ⟨s, rfl, hs2⟩ := inS_ex hs
  simp only [Int.toNat_natCast]
  have v := a.lat
  have tf := a.tf
  have hp := v.pos
  have h6 := v.six
  have hul : u.length ≤ 1099511627776 := by omega
  have w1 : IntKind.i64.wrap ((u.length : Int) - 1) = ((u.length - 1 : Nat) : Int) := by rw [wrap64 (by omega) (by omega)]; omega
  refine pcT [fm_hasI, fm_implyI, fm_meetI, fm_joinI] fok_120 ?_
  simp [fa_120]
  refine cutW (tabK_mono _) [(18, .bool (!(s.testBit 0 && s.testBit (u.length - 1))))] (by
    cases b0 : s.testBit 0
    · simp [b0]
    · simp [b0, w1, show ((u.length - 1 : Nat) : Int) ≤ 63 by omega]) ?_
  simp
  refine ⟨fun h P => ?_, fun b0 b1 => ?_⟩
  · have h0 := P.bot
    have h1 := P.top
    rw [Nat.testBit_zero, decide_eq_true_eq] at h0
    rcases h with c | c
    · omega
    · rw [c] at h1; cases h1
  have b0 : s.testBit 0 = true := by rw [Nat.testBit_zero, decide_eq_true_eq]; exact b0
  refine loopA (tabK_mono _) u.length (fun i => [(22, I64 i)]) (fun _ => []) (fun x => ∀ y, y < u.length → ptB u t s x y = false) (by simp) (by simp) (fun x g hx hP => ?_)
  simp [lb_120_4, wrap_succ hx hul]
  refine ⟨fun h2 => ?_, fun h2 => ?_⟩
  · refine loopA (tabK_mono _) u.length (fun i => [(28, I64 i)]) (fun _ => []) (fun y => ptB u t s x y = false) (by simp) (by simp) (fun y g2 hy hQ => ?_)
    simp only [lb_120_7]
    simp [wrap_succ hy hul]
    refine ⟨fun h3 => ?_, fun h3 => ?_⟩
    · refine cutW (tabK_mono _) [(40, .bool (!(s.testBit x && s.testBit y)))] (by
        cases c1 : s.testBit x
        · simp [c1, show (x : Int) ≤ 63 by omega]
        · simp [c1, show (x : Int) ≤ 63 by omega, show (y : Int) ≤ 63 by omega]) ?_
      simp
      refine ⟨fun hc => ?_, fun c1 c2 => ?_⟩
      · have hb : ptB u t s x y = false := by
          unfold ptB
          rcases hc with k | k
          · rw [k]; rfl
          · rw [k, Bool.and_false]; rfl
        simp [wrap_succ hy hul]
        exact ⟨h3, hb⟩
      refine cutW (tabK_mono _) [(80, .bool (ptB u t s x y))] (by
        have s1 := a.tn_int h2 h3
        have s2 := a.tn_lt h2 h3
        have hlen := a.len
        have hrow := a.rows x h2
        have l1 := fm_implyI_look u t x y tf (by omega) (by omega) (by omega) (by omega)
        have l2 := fm_meetI_look u x y h6 (by omega) (by omega) (by omega) (by omega)
        have l3 := fm_joinI_look u x y v.sm (by omega) (by omega) (by omega) (by omega)
        simp only [Int.toNat_natCast] at l1 l2 l3
        rw [a.im_int] at l1
        rw [v.mt_int h2 h3] at l2
        rw [v.jo_int h2 h3] at l3
        have r1 := a.im_lt (x := x) (y := y)
        have r2 := v.mt_lt h2 h3
        have r3 := v.jo_lt h2 h3
        unfold ptB
        rw [c1, c2]
        generalize tn t x y = z1 at *
        generalize im u t x y = z2 at *
        generalize mt u x y = z3 at *
        generalize jo u x y = z4 at *
        cases k1 : s.testBit z1
        · simp [k1, h2, h3, s1, hlen, hrow, show (z1 : Int) ≤ 63 by omega]
        · cases k2 : s.testBit z2
          · simp [k1, k2, h2, h3, s1, hlen, hrow, l1, show (z1 : Int) ≤ 63 by omega, show (z2 : Int) ≤ 63 by omega]
          · cases k3 : s.testBit z3
            · simp [k1, k2, k3, h2, h3, s1, hlen, hrow, l1, l2, show (z1 : Int) ≤ 63 by omega, show (z2 : Int) ≤ 63 by omega, show (z3 : Int) ≤ 63 by omega]
            · simp [k1, k2, k3, h2, h3, s1, hlen, hrow, l1, l2, l3, show (z1 : Int) ≤ 63 by omega, show (z2 : Int) ≤ 63 by omega, show (z3 : Int) ≤ 63 by omega, show (z4 : Int) ≤ 63 by omega]) ?_
      cases hb : ptB u t s x y
      · simp [wrap_succ hy hul]
        exact ⟨h3, hb⟩
      · simp
        intro P
        have := P.at h2 h3
        rw [hb] at this
        cases this
    · simp [wrap_succ hx hul]
      exact ⟨h2, fun y hy => hQ y (by omega)⟩
  · exact pt_of hs2 b0 b1 fun x hx => hP x (by omega)
noncomputable def fm_isPtI : Fam Try.prog := mkFam (X := List Int × List (List Int) × Int) 120 true (fun (u, t, s) => [AL u t, I64 s]) (fun (u, t, s) => (VA u t) ∧ (inS u.length s = true)) (fun (u, t, s) => .bool (decide (PT u t s.toNat))) (by
  rintro ⟨u, t, s⟩ ⟨a, hs⟩
  exact isPtI_pc u t s a hs)
@[simp] theorem fm_isPtI_id : fm_isPtI.id = 120 := rfl
@[simp] theorem fm_isPtI_fresh : fm_isPtI.fresh = true := rfl
@[simp] theorem fm_isPtI_look (u : List Int) (t : List (List Int)) (s : Int) (a : VA u t) (hs : inS u.length s = true) : fm_isPtI.look [AL u t, I64 s] = some (.bool (decide (PT u t s.toNat))) :=
  lookF_of (X := List Int × List (List Int) × Int) (args := fun (u, t, s) => [AL u t, I64 s]) (pre := fun (u, t, s) => (VA u t) ∧ (inS u.length s = true)) (val := fun (u, t, s) => .bool (decide (PT u t s.toNat))) (by
  rintro ⟨u, t, s⟩ ⟨u', t', s'⟩ h
  simp at h
  try simp only [and_assoc] at h
  obtain ⟨rfl, rfl, rfl⟩ := h
  rfl) (u, t, s) ⟨a, hs⟩
attribute [irreducible] fm_isPtI
noncomputable def prtR (u : List Int) (t : List (List Int)) : List Int := if VA u t then natL (prtN u t (2 ^ u.length)) else []
theorem PrtS_pc (u : List Int) (t : List (List Int)) (hu : Big u.length) (ht : BigR t) : PC Try.prog 42 [AL u t] none true (fun r _ => r = IO1 (prtR u t)) := by
  refine pcT [fm_validAlgebraS, fm_power, fm_isPtS] fok_42 ?_
  unfold prtR
  by_cases a : VA u t
  · have v := a.lat
    have h6 := v.six
    have h64 := p2le h6
    have hp2 : (2 : Int) ^ u.length = ((2 ^ u.length : Nat) : Int) := p2i
    simp [fa_42, hu, ht, a]
    refine loopX (tabK_mono _) (2 ^ u.length) (fun i γ => [(3, .arr 64 γ), (4, I64 i)]) (fun i γ => [⟨64, γ, .arr 1 (ints (natL (prtN u t i)))⟩]) (fun _ _ => True) 1 (by simp) (by simp [prtN_zero, ints_nil]) trivial (fun i γ g hi _ => ?_)
    have hcond : ((i : Int) < 2 ^ u.length) ↔ i < 2 ^ u.length := by rw [hp2]; omega
    simp [lb_42_5, show (u.length : Int) ≤ 61 by omega, hcond, wrap_succ hi (show 2 ^ u.length ≤ 1099511627776 by omega)]
    refine ⟨fun h => ?_, fun h => ?_⟩
    · have hle := prtN_len (u := u) (t := t) (m := i)
      have hs := prtN_succ (u := u) (t := t) (m := i)
      have hin := inS_nat h
      generalize prtN u t i = l0 at *
      simp [a, hin, wrap_succ hi (show 2 ^ u.length ≤ 1099511627776 by omega)]
      refine ⟨fun F => ?_, fun F => ?_⟩
      · rw [if_pos F] at hs
        simp [hs]
        exact ⟨leBig (by omega), h⟩
      · rw [if_neg F] at hs
        simp [hs]
        exact h
    · obtain rfl : i = 2 ^ u.length := by omega
      simp
  · simp [fa_42, hu, ht, a, ints_nil]
noncomputable def fm_PrtS : Fam Try.prog := mkFam (X := List Int × List (List Int)) 42 true (fun (u, t) => [AL u t]) (fun (u, t) => (Big u.length) ∧ (BigR t)) (fun (u, t) => IO1 (prtR u t)) (by
  rintro ⟨u, t⟩ ⟨hu, ht⟩
  exact PrtS_pc u t hu ht)
@[simp] theorem fm_PrtS_id : fm_PrtS.id = 42 := rfl
@[simp] theorem fm_PrtS_fresh : fm_PrtS.fresh = true := rfl
@[simp] theorem fm_PrtS_look (u : List Int) (t : List (List Int)) (hu : Big u.length) (ht : BigR t) : fm_PrtS.look [AL u t] = some (IO1 (prtR u t)) :=
  lookF_of (X := List Int × List (List Int)) (args := fun (u, t) => [AL u t]) (pre := fun (u, t) => (Big u.length) ∧ (BigR t)) (val := fun (u, t) => IO1 (prtR u t)) (by
  rintro ⟨u, t⟩ ⟨u', t'⟩ h
  simp at h
  try simp only [and_assoc] at h
  obtain ⟨rfl, rfl⟩ := h
  rfl) (u, t) ⟨hu, ht⟩
attribute [irreducible] fm_PrtS
theorem PrtI_pc (u : List Int) (t : List (List Int)) (hu : Big u.length) (ht : BigR t) : PC Try.prog 41 [AL u t] none true (fun r _ => r = IO1 (prtR u t)) := by
  refine pcT [fm_validAlgebraI, fm_isPtI] fok_41 ?_
  unfold prtR
  by_cases a : VA u t
  · have v := a.lat
    have h6 := v.six
    have h64 := p2le h6
    have hw := shl2w h6
    have hp2 : (2 : Int) ^ u.length = ((2 ^ u.length : Nat) : Int) := p2i
    simp [fa_41, hu, ht, a]
    refine loopX (tabK_mono _) (2 ^ u.length) (fun i γ => [(3, .arr 64 γ), (4, I64 i)]) (fun i γ => [⟨64, γ, .arr 1 (ints (natL (prtN u t i)))⟩]) (fun _ _ => True) 1 (by simp) (by simp [prtN_zero, ints_nil]) trivial (fun i γ g hi _ => ?_)
    have hcond : ((i : Int) < 2 ^ u.length) ↔ i < 2 ^ u.length := by rw [hp2]; omega
    simp [lb_41_5, hw, hcond, wrap_succ hi (show 2 ^ u.length ≤ 1099511627776 by omega)]
    refine ⟨fun h => ?_, fun h => ?_⟩
    · have hle := prtN_len (u := u) (t := t) (m := i)
      have hs := prtN_succ (u := u) (t := t) (m := i)
      have hin := inS_nat h
      generalize prtN u t i = l0 at *
      simp [a, hin, wrap_succ hi (show 2 ^ u.length ≤ 1099511627776 by omega)]
      refine ⟨fun F => ?_, fun F => ?_⟩
      · rw [if_pos F] at hs
        simp [hs]
        exact ⟨leBig (by omega), h⟩
      · rw [if_neg F] at hs
        simp [hs]
        exact h
    · obtain rfl : i = 2 ^ u.length := by omega
      simp
  · simp [fa_41, hu, ht, a, ints_nil]
noncomputable def fm_PrtI : Fam Try.prog := mkFam (X := List Int × List (List Int)) 41 true (fun (u, t) => [AL u t]) (fun (u, t) => (Big u.length) ∧ (BigR t)) (fun (u, t) => IO1 (prtR u t)) (by
  rintro ⟨u, t⟩ ⟨hu, ht⟩
  exact PrtI_pc u t hu ht)
@[simp] theorem fm_PrtI_id : fm_PrtI.id = 41 := rfl
@[simp] theorem fm_PrtI_fresh : fm_PrtI.fresh = true := rfl
@[simp] theorem fm_PrtI_look (u : List Int) (t : List (List Int)) (hu : Big u.length) (ht : BigR t) : fm_PrtI.look [AL u t] = some (IO1 (prtR u t)) :=
  lookF_of (X := List Int × List (List Int)) (args := fun (u, t) => [AL u t]) (pre := fun (u, t) => (Big u.length) ∧ (BigR t)) (val := fun (u, t) => IO1 (prtR u t)) (by
  rintro ⟨u, t⟩ ⟨u', t'⟩ h
  simp at h
  try simp only [and_assoc] at h
  obtain ⟨rfl, rfl⟩ := h
  rfl) (u, t) ⟨hu, ht⟩
attribute [irreducible] fm_PrtI
end Go.PS
end

section
-- PRINTED by gen.py: clean texts of functions, and their tie to the program.
set_option maxRecDepth 100000
namespace Go.PS
open Go.Proofs
end Go.PS
end

section
-- PRINTED by gen.py: clean texts of functions, and their tie to the program.
set_option maxRecDepth 100000
namespace Go.PS
open Go.Proofs
/-- laws.isIn -/
def an_37 : Ann := ⟨[], [(0, [0, 1]), (1, [0, 1, 5]), (2, [0, 1, 5, 9]), (4, [0, 1, 5, 17]), (5, [4]), (3, [0, 1, 5]), (6, [4])], [(2, [0, 1, 5], [])], []⟩
def lb_37_2 : AC :=
  (.seq
    (.seq
      (.region false [⟨some 6, (.mv (.t 5)), 3, none, 0⟩, ⟨some 7, (.mv (.t 0)), 23, none, 0⟩, ⟨some 8, (.len 23 (.t 7)), 3, none, 0⟩, ⟨some 9, (.bin .lss 3 (.t 6) (.t 8)), 4, none, 0⟩] (some [0, 1, 5, 9]))
      (.cond (.t 9)
        .skip
        (.exit 0)))
    (.seq
      (.block 1
        (.seq
          (.region false [⟨some 12, (.mv (.t 0)), 23, none, 0⟩, ⟨some 13, (.mv (.t 5)), 3, none, 0⟩, ⟨some 14, (.iaddr 23 (.t 12) (.t 13)), 0, none, 0⟩, ⟨some 15, (.load 3 (.t 14)), 3, none, 0⟩, ⟨some 16, (.mv (.t 1)), 3, none, 0⟩, ⟨some 17, (.bin .eql 3 (.t 15) (.t 16)), 4, none, 0⟩] (some [0, 1, 5, 17]))
          (.cond (.t 17)
            (.seq
              (.region false [⟨some 4, (.mv (.c (.bool true))), 4, none, 0⟩] (some [4]))
              .ret)
            .skip)))
      (.region false [⟨some 10, (.mv (.t 5)), 3, none, 0⟩, ⟨some 11, (.bin .add 3 (.t 10) (.c (.int .i64 1))), 3, none, 0⟩, ⟨some 5, (.mv (.t 11)), 3, none, 0⟩] (some [0, 1, 5]))))
def fa_37 : FnA := ⟨18, [.t 4],
  (.seq
    (.region false [⟨some 4, (.mv (.c (.bool false))), 4, none, 0⟩] (some [0, 1]))
    (.seq
      (.seq
        (.region false [⟨some 5, (.mv (.c (.int .i64 0))), 3, none, 0⟩] (some [0, 1, 5]))
        (.block 0
          (.loop [0, 1, 5] [] lb_37_2)))
      (.seq
        (.region false [⟨some 4, (.mv (.c (.bool false))), 4, none, 0⟩] (some [4]))
        .ret)))⟩
theorem fok_37 : FnOk Try.prog 37 fa_37 an_37 := ⟨Try.f37, _, Try.func37, rfl, by kernel_rfl, rfl, rfl, by decide, by kernel_rfl⟩
/-- laws.equalInts -/
def an_25 : Ann := ⟨[], [(0, [0, 1]), (1, [0, 1, 10]), (2, [4]), (3, [0, 1, 5]), (4, [0, 1, 5, 14]), (6, [0, 1, 5, 25]), (7, [4]), (5, [0, 1, 5]), (8, [4])], [(4, [0, 1, 5], [])], []⟩
def lb_25_4 : AC :=
  (.seq
    (.seq
      (.region false [⟨some 11, (.mv (.t 5)), 3, none, 0⟩, ⟨some 12, (.mv (.t 0)), 23, none, 0⟩, ⟨some 13, (.len 23 (.t 12)), 3, none, 0⟩, ⟨some 14, (.bin .lss 3 (.t 11) (.t 13)), 4, none, 0⟩] (some [0, 1, 5, 14]))
      (.cond (.t 14)
        .skip
        (.exit 0)))
    (.seq
      (.block 1
        (.seq
          (.region true [⟨some 17, (.mv (.t 0)), 23, none, 0⟩, ⟨some 18, (.mv (.t 5)), 3, none, 0⟩, ⟨some 19, (.iaddr 23 (.t 17) (.t 18)), 0, none, 0⟩, ⟨some 20, (.load 3 (.t 19)), 3, none, 0⟩, ⟨some 21, (.mv (.t 1)), 23, none, 0⟩, ⟨some 22, (.mv (.t 5)), 3, none, 0⟩, ⟨some 23, (.iaddr 23 (.t 21) (.t 22)), 0, none, 0⟩, ⟨some 24, (.load 3 (.t 23)), 3, none, 0⟩, ⟨some 25, (.bin .neq 3 (.t 20) (.t 24)), 4, none, 0⟩] (some [0, 1, 5, 25]))
          (.cond (.t 25)
            (.seq
              (.region false [⟨some 4, (.mv (.c (.bool false))), 4, none, 0⟩] (some [4]))
              .ret)
            .skip)))
      (.region false [⟨some 15, (.mv (.t 5)), 3, none, 0⟩, ⟨some 16, (.bin .add 3 (.t 15) (.c (.int .i64 1))), 3, none, 0⟩, ⟨some 5, (.mv (.t 16)), 3, none, 0⟩] (some [0, 1, 5]))))
def fa_25 : FnA := ⟨26, [.t 4],
  (.seq
    (.region false [⟨some 4, (.mv (.c (.bool false))), 4, none, 0⟩] (some [0, 1]))
    (.seq
      (.seq
        (.region false [⟨some 6, (.mv (.t 0)), 23, none, 0⟩, ⟨some 7, (.len 23 (.t 6)), 3, none, 0⟩, ⟨some 8, (.mv (.t 1)), 23, none, 0⟩, ⟨some 9, (.len 23 (.t 8)), 3, none, 0⟩, ⟨some 10, (.bin .neq 3 (.t 7) (.t 9)), 4, none, 0⟩] (some [0, 1, 10]))
        (.cond (.t 10)
          (.seq
            (.region false [⟨some 4, (.mv (.c (.bool false))), 4, none, 0⟩] (some [4]))
            .ret)
          .skip))
      (.seq
        (.seq
          (.region false [⟨some 5, (.mv (.c (.int .i64 0))), 3, none, 0⟩] (some [0, 1, 5]))
          (.block 0
            (.loop [0, 1, 5] [] lb_25_4)))
        (.seq
          (.region false [⟨some 4, (.mv (.c (.bool true))), 4, none, 0⟩] (some [4]))
          .ret))))⟩
theorem fok_25 : FnOk Try.prog 25 fa_25 an_25 := ⟨Try.f25, _, Try.func25, rfl, by kernel_rfl, rfl, rfl, by decide, by kernel_rfl⟩
end Go.PS
end

section
-- Contracts: lists of the laws.
set_option maxRecDepth 100000
set_option linter.unusedVariables false
set_option linter.unusedSimpArgs false
namespace Go.PS
open Go.Proofs

theorem isInL_pc (l : List Int) (n : Int) (hl : Big l.length) : PC Try.prog 37 [IL l, I64 n] none true (fun r _ => r = .bool (decide (n ∈ l))) := by
  have hl := hl.le
  refine pcT [] fok_37 ?_
  simp [fa_37]
  refine loopA (tabK_mono _) l.length (fun i => [(5, I64 i)]) (fun _ => []) (fun j => ¬ gi l j = n) (by simp) (by simp) (fun i g hi hP => ?_)
  simp [lb_37_2, wrap_succ hi hl]
  refine ⟨fun h => ?_, fun h => ?_⟩
  · refine ⟨h, fun e => ?_, fun e => ?_⟩
    · rw [← e]; exact gi_mem h
    · exact ⟨h, e⟩
  · intro hx
    obtain ⟨j, hj, e⟩ := List.mem_iff_getElem.1 hx
    have := hP j (by omega)
    simp [gi, List.getElem?_eq_getElem hj] at this
    exact this e
noncomputable def fm_isInL : Fam Try.prog := mkFam (X := List Int × Int) 37 true (fun (l, n) => [IL l, I64 n]) (fun (l, n) => (Big l.length)) (fun (l, n) => .bool (decide (n ∈ l))) (by
  rintro ⟨l, n⟩ hl
  exact isInL_pc l n hl)
@[simp] theorem fm_isInL_id : fm_isInL.id = 37 := rfl
@[simp] theorem fm_isInL_fresh : fm_isInL.fresh = true := rfl
@[simp] theorem fm_isInL_look (l : List Int) (n : Int) (hl : Big l.length) : fm_isInL.look [IL l, I64 n] = some (.bool (decide (n ∈ l))) :=
  lookF_of (X := List Int × Int) (args := fun (l, n) => [IL l, I64 n]) (pre := fun (l, n) => (Big l.length)) (val := fun (l, n) => .bool (decide (n ∈ l))) (by
  rintro ⟨l, n⟩ ⟨l', n'⟩ h
  simp at h
  try simp only [and_assoc] at h
  obtain ⟨rfl, rfl⟩ := h
  rfl) (l, n) hl
attribute [irreducible] fm_isInL
theorem eqInts_pc (a b : List Int) (ha : Big a.length) : PC Try.prog 25 [IL a, IL b] none true (fun r _ => r = .bool (decide (a = b))) := by
  refine pcT [] fok_25 ?_
  simp [fa_25]
  refine ⟨fun h e => h (by rw [e]), fun hl => ?_⟩
  refine loopA (tabK_mono _) a.length (fun i => [(5, I64 i)]) (fun _ => []) (fun j => gi a j = gi b j) (by simp) (by simp) (fun i g hi hP => ?_)
  simp [lb_25_4, wrap_succ hi ha]
  refine ⟨by grind, fun h => gi_ext (by omega) (fun j hj => hP j (by omega))⟩
noncomputable def fm_eqInts : Fam Try.prog := mkFam (X := List Int × List Int) 25 true (fun (a, b) => [IL a, IL b]) (fun (a, b) => (Big a.length)) (fun (a, b) => .bool (decide (a = b))) (by
  rintro ⟨a, b⟩ ha
  exact eqInts_pc a b ha)
@[simp] theorem fm_eqInts_id : fm_eqInts.id = 25 := rfl
@[simp] theorem fm_eqInts_fresh : fm_eqInts.fresh = true := rfl
@[simp] theorem fm_eqInts_look (a b : List Int) (ha : Big a.length) : fm_eqInts.look [IL a, IL b] = some (.bool (decide (a = b))) :=
  lookF_of (X := List Int × List Int) (args := fun (a, b) => [IL a, IL b]) (pre := fun (a, b) => (Big a.length)) (val := fun (a, b) => .bool (decide (a = b))) (by
  rintro ⟨a, b⟩ ⟨a', b'⟩ h
  simp at h
  try simp only [and_assoc] at h
  obtain ⟨rfl, rfl⟩ := h
  rfl) (a, b) ha
attribute [irreducible] fm_eqInts
end Go.PS
end

section
-- The law of all parts.
set_option maxRecDepth 100000
set_option linter.unusedVariables false
set_option linter.unusedSimpArgs false
namespace Go.PS
open Go.Proofs

theorem or_nat {a b : Nat} (ha : a < 64) (hb : b < 64) : bOr .i64 (a : Int) (b : Int) = ((a ||| b : Nat) : Int) := by
  show IntKind.i64.wrap (((BitVec.ofInt 64 (a : Int) ||| BitVec.ofInt 64 (b : Int)).toNat : Nat) : Int) = _
  rw [BitVec.toNat_or, ofInt_nat (by omega) (by omega), ofInt_nat (by omega) (by omega)]
  have : a ||| b < 2 ^ 6 := Nat.or_lt_two_pow (by omega) (by omega)
  simp only [Int.toNat_natCast]
  exact wrap64 (by omega) (by omega)
end Go.PS
end

section
-- PRINTED by gen.py: clean texts of functions, and their tie to the program.
set_option maxRecDepth 100000
namespace Go.PS
open Go.Proofs
/-- impl.NotOf -/
def an_46 : Ann := ⟨[(1, 3, 3), (3, 2, 3)], [(0, [1, 2]), (1, [1, 2, 9]), (2, [4]), (3, [4])], [], []⟩
def fa_46 : FnA := ⟨13, [.t 4],
  (.seq
    (.region false [⟨some 2, (.box 27 (.t 0)), 0, none, 0⟩, ⟨some 4, (.mv (.c (.int .i64 0))), 3, none, 0⟩] (some [1, 2]))
    (.seq
      (.seq
        (.region false [⟨some 5, (.load 27 (.t 2)), 27, none, 0⟩, ⟨some 6, (.mv (.t 1)), 3, none, 0⟩, ⟨some 7, (.bslice 23 1 [(0, (.t 6))]), 23, none, 0⟩, ⟨some 8, (.call (.f 117) [(.t 5), (.t 7)]), 4, none, 3⟩, ⟨some 9, (.un .not (.t 8)), 4, none, 0⟩] (some [1, 2, 9]))
        (.cond (.t 9)
          (.seq
            (.region false [⟨some 4, (.mv (.c (.int .i64 (-1)))), 3, none, 0⟩] (some [4]))
            .ret)
          .skip))
      (.seq
        (.region false [⟨some 10, (.load 27 (.t 2)), 27, none, 0⟩, ⟨some 11, (.mv (.t 1)), 3, none, 0⟩, ⟨some 12, (.call (.f 127) [(.t 10), (.t 11)]), 3, none, 3⟩, ⟨some 4, (.mv (.t 12)), 3, none, 0⟩] (some [4]))
        .ret)))⟩
theorem fok_46 : FnOk Try.prog 46 fa_46 an_46 := ⟨Try.f46, _, Try.func46, rfl, by kernel_rfl, rfl, rfl, by decide, by kernel_rfl⟩
end Go.PS
end

section
-- Draws of one algebra.
set_option maxRecDepth 100000
set_option linter.unusedVariables false
set_option linter.unusedSimpArgs false
namespace Go.PS
open Go.Proofs


end Go.PS
end

section
-- PRINTED by gen.py: clean texts of functions, and their tie to the program.
set_option maxRecDepth 100000
namespace Go.PS
open Go.Proofs
end Go.PS
end

section
-- Contracts: lists of elements for the names, powers, the least power of the reference.
set_option maxRecDepth 100000
set_option linter.unusedVariables false
set_option linter.unusedSimpArgs false
namespace Go.PS
open Go.Proofs

end Go.PS
end

section
-- Contracts: implications, nearness, powers; orders, meets and joins, of any numbers.
set_option maxRecDepth 100000
set_option linter.unusedVariables false
set_option linter.unusedSimpArgs false
namespace Go.PS
open Go.Proofs

/-- Is a number an element? -/
def inE (n : Nat) (x : Int) : Bool := decide (0 ≤ x ∧ x < n)
theorem inE_iff {n : Nat} {x : Int} : inE n x = true ↔ 0 ≤ x ∧ x.toNat < n := by simp [inE]; omega
theorem allE_one {n : Nat} {x : Int} : decide (allE [x] n) = inE n x := by
  rw [Bool.eq_iff_iff]; simp [allE, inE]

noncomputable def NoM (u : List Int) (t : List (List Int)) (x : Int) : Int := if decide (VA u t) && inE u.length x then implyM u t x.toNat 0 else -1
theorem NotI_pc (u : List Int) (t : List (List Int)) (x : Int) (hu : Big u.length) (ht : BigR t) : PC Try.prog 46 [AL u t, I64 x] none true (fun r _ => r = I64 (NoM u t x)) := by
  have l1 : fm_atI.look [AL u t, .list 1 [.int .i64 x]] = some (.bool (decide (VA u t) && decide (allE [x] u.length))) := fm_atI_look u t [x] hu ht (by unfold Big; simp)
  rw [allE_one] at l1
  refine pcT [fm_atI, fm_notI] fok_46 ?_
  unfold NoM
  cases hb : (decide (VA u t) && inE u.length x)
  · rw [hb] at l1
    simp [fa_46, l1, show List.range 1 = [0] from rfl]
  · have h := hb
    rw [hb] at l1
    simp only [Bool.and_eq_true, decide_eq_true_eq, inE_iff] at h
    simp [fa_46, l1, h.1.tf, h.2, show List.range 1 = [0] from rfl]
noncomputable def fm_NotI : Fam Try.prog := mkFam (X := List Int × List (List Int) × Int) 46 true (fun (u, t, x) => [AL u t, I64 x]) (fun (u, t, x) => (Big u.length) ∧ (BigR t)) (fun (u, t, x) => I64 (NoM u t x)) (by
  rintro ⟨u, t, x⟩ ⟨hu, ht⟩
  exact NotI_pc u t x hu ht)
@[simp] theorem fm_NotI_id : fm_NotI.id = 46 := rfl
@[simp] theorem fm_NotI_fresh : fm_NotI.fresh = true := rfl
@[simp] theorem fm_NotI_look (u : List Int) (t : List (List Int)) (x : Int) (hu : Big u.length) (ht : BigR t) : fm_NotI.look [AL u t, I64 x] = some (I64 (NoM u t x)) :=
  lookF_of (X := List Int × List (List Int) × Int) (args := fun (u, t, x) => [AL u t, I64 x]) (pre := fun (u, t, x) => (Big u.length) ∧ (BigR t)) (val := fun (u, t, x) => I64 (NoM u t x)) (by
  rintro ⟨u, t, x⟩ ⟨u', t', x'⟩ h
  simp at h
  try simp only [and_assoc] at h
  obtain ⟨rfl, rfl, rfl⟩ := h
  rfl) (u, t, x) ⟨hu, ht⟩
attribute [irreducible] fm_NotI
end Go.PS
end

section
-- What the laws of elements have in common; the law of products.
set_option maxRecDepth 100000
set_option linter.unusedVariables false
set_option linter.unusedSimpArgs false
namespace Go.PS
open Go.Proofs

section
variable {u : List Int} {t : List (List Int)} {x y z : Nat}
theorem inE_nat (h : x < u.length) : inE u.length (x : Int) = true := by simp [inE, h]
theorem NoM_nat (a : VA u t) (hx : x < u.length) : NoM u t x = (im u t x 0 : Nat) := by simp [NoM, a, inE_nat hx, ← a.im_int]
end
end Go.PS
end

section
-- PRINTED by gen.py: clean texts of functions, and their tie to the program.
set_option maxRecDepth 100000
namespace Go.PS
open Go.Proofs
/-- impl.holds -/
def an_104 : Ann := ⟨[(4, 5, 3), (4, 9, 3), (4, 10, 3), (6, 8, 3), (6, 15, 3), (8, 3, 3), (8, 4, 3), (12, 5, 3), (12, 6, 3)], [(0, [0, 2, 3, 5]), (1, [0, 2, 3, 5, 9]), (2, [2, 3, 5, 9, 14]), (3, [2, 3, 5, 9, 14, 15]), (4, [8]), (5, [2, 3, 5, 9, 14, 30]), (6, [8]), (7, [2, 5, 9, 14, 49]), (8, [8]), (9, [2, 5, 9, 14, 58]), (10, [8]), (11, [2, 5, 9, 70]), (12, [8]), (13, [8])], [], []⟩
def fa_104 : FnA := ⟨81, [.t 8],
  (.seq
    (.region false [⟨some 5, (.box 27 (.t 1)), 0, none, 0⟩, ⟨some 8, (.mv (.c (.bool false))), 4, none, 0⟩] (some [0, 2, 3, 5]))
    (.seq
      (.region false [⟨some 10, (.faddr 27 (.t 5) 0), 0, none, 0⟩, ⟨some 11, (.load 23 (.t 10)), 23, none, 0⟩, ⟨some 12, (.len 23 (.t 11)), 3, none, 0⟩, ⟨some 13, (.bin .sub 3 (.t 12) (.c (.int .i64 1))), 3, none, 0⟩, ⟨some 9, (.mv (.t 13)), 3, none, 0⟩] (some [0, 2, 3, 5, 9]))
      (.seq
        (.seq
          (.region false [⟨some 14, (.mv (.t 0)), 9, none, 0⟩] (some [2, 3, 5, 9, 14]))
          (.block 0
            (.seq
              (.region false [⟨some 16, (.bin .eql 9 (.t 14) (.c (.str [112, 114, 101, 108, 105, 110, 101, 97, 114]))), 4, none, 0⟩, ⟨some 15, (.mv (.t 16)), 4, none, 0⟩] (some [2, 3, 5, 9, 14, 15]))
              (.cond (.t 15)
                (.seq
                  (.region true [⟨some 17, (.faddr 27 (.t 5) 0), 0, none, 0⟩, ⟨some 18, (.load 23 (.t 17)), 23, none, 0⟩, ⟨some 19, (.load 27 (.t 5)), 27, none, 0⟩, ⟨some 20, (.mv (.t 2)), 3, none, 0⟩, ⟨some 21, (.mv (.t 3)), 3, none, 0⟩, ⟨some 22, (.call (.f 118) [(.t 19), (.t 20), (.t 21)]), 3, none, 3⟩, ⟨some 23, (.load 27 (.t 5)), 27, none, 0⟩, ⟨some 24, (.mv (.t 3)), 3, none, 0⟩, ⟨some 25, (.mv (.t 2)), 3, none, 0⟩, ⟨some 26, (.call (.f 118) [(.t 23), (.t 24), (.t 25)]), 3, none, 3⟩, ⟨some 27, (.call (.f 102) [(.t 18), (.t 22), (.t 26)]), 3, none, 3⟩, ⟨some 28, (.mv (.t 9)), 3, none, 0⟩, ⟨some 29, (.bin .eql 3 (.t 27) (.t 28)), 4, none, 0⟩, ⟨some 8, (.mv (.t 29)), 4, none, 0⟩] (some [8]))
                  .ret)
                (.seq
                  (.region false [⟨some 31, (.bin .eql 9 (.t 14) (.c (.str [100, 105, 118, 105, 115, 105, 98, 108, 101]))), 4, none, 0⟩, ⟨some 30, (.mv (.t 31)), 4, none, 0⟩] (some [2, 3, 5, 9, 14, 30]))
                  (.cond (.t 30)
                    (.seq
                      (.region true [⟨some 32, (.faddr 27 (.t 5) 1), 0, none, 0⟩, ⟨some 33, (.load 25 (.t 32)), 25, none, 0⟩, ⟨some 34, (.mv (.t 2)), 3, none, 0⟩, ⟨some 35, (.iaddr 25 (.t 33) (.t 34)), 0, none, 0⟩, ⟨some 36, (.load 23 (.t 35)), 23, none, 0⟩, ⟨some 37, (.load 27 (.t 5)), 27, none, 0⟩, ⟨some 38, (.mv (.t 2)), 3, none, 0⟩, ⟨some 39, (.mv (.t 3)), 3, none, 0⟩, ⟨some 40, (.call (.f 118) [(.t 37), (.t 38), (.t 39)]), 3, none, 3⟩, ⟨some 41, (.iaddr 23 (.t 36) (.t 40)), 0, none, 0⟩, ⟨some 42, (.load 3 (.t 41)), 3, none, 0⟩, ⟨some 43, (.faddr 27 (.t 5) 0), 0, none, 0⟩, ⟨some 44, (.load 23 (.t 43)), 23, none, 0⟩, ⟨some 45, (.mv (.t 2)), 3, none, 0⟩, ⟨some 46, (.mv (.t 3)), 3, none, 0⟩, ⟨some 47, (.call (.f 95) [(.t 44), (.t 45), (.t 46)]), 3, none, 3⟩, ⟨some 48, (.bin .eql 3 (.t 42) (.t 47)), 4, none, 0⟩, ⟨some 8, (.mv (.t 48)), 4, none, 0⟩] (some [8]))
                      .ret)
                    (.seq
                      (.region false [⟨some 50, (.bin .eql 9 (.t 14) (.c (.str [105, 110, 118, 111, 108, 117, 116, 105, 118, 101]))), 4, none, 0⟩, ⟨some 49, (.mv (.t 50)), 4, none, 0⟩] (some [2, 5, 9, 14, 49]))
                      (.cond (.t 49)
                        (.seq
                          (.region true [⟨some 51, (.load 27 (.t 5)), 27, none, 0⟩, ⟨some 52, (.load 27 (.t 5)), 27, none, 0⟩, ⟨some 53, (.mv (.t 2)), 3, none, 0⟩, ⟨some 54, (.call (.f 127) [(.t 52), (.t 53)]), 3, none, 3⟩, ⟨some 55, (.call (.f 127) [(.t 51), (.t 54)]), 3, none, 3⟩, ⟨some 56, (.mv (.t 2)), 3, none, 0⟩, ⟨some 57, (.bin .eql 3 (.t 55) (.t 56)), 4, none, 0⟩, ⟨some 8, (.mv (.t 57)), 4, none, 0⟩] (some [8]))
                          .ret)
                        (.seq
                          (.region false [⟨some 59, (.bin .eql 9 (.t 14) (.c (.str [105, 100, 101, 109, 112, 111, 116, 101, 110, 116]))), 4, none, 0⟩, ⟨some 58, (.mv (.t 59)), 4, none, 0⟩] (some [2, 5, 9, 14, 58]))
                          (.cond (.t 58)
                            (.seq
                              (.region false [⟨some 60, (.faddr 27 (.t 5) 1), 0, none, 0⟩, ⟨some 61, (.load 25 (.t 60)), 25, none, 0⟩, ⟨some 62, (.mv (.t 2)), 3, none, 0⟩, ⟨some 63, (.iaddr 25 (.t 61) (.t 62)), 0, none, 0⟩, ⟨some 64, (.load 23 (.t 63)), 23, none, 0⟩, ⟨some 65, (.mv (.t 2)), 3, none, 0⟩, ⟨some 66, (.iaddr 23 (.t 64) (.t 65)), 0, none, 0⟩, ⟨some 67, (.load 3 (.t 66)), 3, none, 0⟩, ⟨some 68, (.mv (.t 2)), 3, none, 0⟩, ⟨some 69, (.bin .eql 3 (.t 67) (.t 68)), 4, none, 0⟩, ⟨some 8, (.mv (.t 69)), 4, none, 0⟩] (some [8]))
                              .ret)
                            (.seq
                              (.region false [⟨some 71, (.bin .eql 9 (.t 14) (.c (.str [98, 111, 111, 108, 101, 97, 110]))), 4, none, 0⟩, ⟨some 70, (.mv (.t 71)), 4, none, 0⟩] (some [2, 5, 9, 70]))
                              (.cond (.t 70)
                                (.seq
                                  (.region true [⟨some 72, (.faddr 27 (.t 5) 0), 0, none, 0⟩, ⟨some 73, (.load 23 (.t 72)), 23, none, 0⟩, ⟨some 74, (.mv (.t 2)), 3, none, 0⟩, ⟨some 75, (.load 27 (.t 5)), 27, none, 0⟩, ⟨some 76, (.mv (.t 2)), 3, none, 0⟩, ⟨some 77, (.call (.f 127) [(.t 75), (.t 76)]), 3, none, 3⟩, ⟨some 78, (.call (.f 102) [(.t 73), (.t 74), (.t 77)]), 3, none, 3⟩, ⟨some 79, (.mv (.t 9)), 3, none, 0⟩, ⟨some 80, (.bin .eql 3 (.t 78) (.t 79)), 4, none, 0⟩, ⟨some 8, (.mv (.t 80)), 4, none, 0⟩] (some [8]))
                                  .ret)
                                .skip))))))))))))
        (.seq
          (.region false [⟨some 8, (.mv (.c (.bool false))), 4, none, 0⟩] (some [8]))
          .ret))))⟩
theorem fok_104 : FnOk Try.prog 104 fa_104 an_104 := ⟨Try.f104, _, Try.func104, rfl, by kernel_rfl, rfl, rfl, by decide, by kernel_rfl⟩
/-- slices.Index(()string,string) -/
def an_193 : Ann := ⟨[], [(0, [0, 1]), (1, [0, 1, 7, 8]), (2, [0, 1, 7, 8, 9]), (3, [0, 1, 5, 7, 8]), (4, [0, 1, 5, 7, 8, 16]), (5, [4]), (6, [0, 1, 7, 8]), (7, [4])], [(2, [0, 1, 7, 8], [])], []⟩
def lb_193_2 : AC :=
  (.seq
    (.region false [⟨some 9, (.bin .lss 3 (.t 8) (.t 7)), 0, none, 0⟩] (some [0, 1, 7, 8, 9]))
    (.seq
      (.cond (.t 9)
        .skip
        (.exit 0))
      (.seq
        (.block 1
          (.seq
            (.region false [⟨some 10, (.mv (.t 8)), 3, none, 0⟩, ⟨some 5, (.mv (.t 10)), 3, none, 0⟩] (some [0, 1, 5, 7, 8]))
            (.seq
              (.region false [⟨some 11, (.mv (.t 1)), 9, none, 0⟩, ⟨some 12, (.mv (.t 0)), 105, none, 0⟩, ⟨some 13, (.mv (.t 5)), 3, none, 0⟩, ⟨some 14, (.iaddr 105 (.t 12) (.t 13)), 0, none, 0⟩, ⟨some 15, (.load 9 (.t 14)), 9, none, 0⟩, ⟨some 16, (.bin .eql 9 (.t 11) (.t 15)), 4, none, 0⟩] (some [0, 1, 5, 7, 8, 16]))
              (.cond (.t 16)
                (.seq
                  (.region false [⟨some 17, (.mv (.t 5)), 3, none, 0⟩, ⟨some 4, (.mv (.t 17)), 3, none, 0⟩] (some [4]))
                  .ret)
                .skip))))
        (.region false [⟨some 18, (.bin .add 3 (.t 8) (.c (.int .i64 1))), 3, none, 0⟩, ⟨some 8, (.mv (.t 18)), 3, none, 0⟩] (some [0, 1, 7, 8])))))
def fa_193 : FnA := ⟨19, [.t 4],
  (.seq
    (.region false [⟨some 4, (.mv (.c (.int .i64 0))), 3, none, 0⟩] (some [0, 1]))
    (.seq
      (.seq
        (.region false [⟨some 6, (.mv (.t 0)), 105, none, 0⟩, ⟨some 7, (.len 105 (.t 6)), 3, none, 0⟩, ⟨some 8, (.mv (.c (.int .i64 0))), 3, none, 0⟩] (some [0, 1, 7, 8]))
        (.block 0
          (.loop [0, 1, 7, 8] [] lb_193_2)))
      (.seq
        (.region false [⟨some 4, (.mv (.c (.int .i64 (-1)))), 3, none, 0⟩] (some [4]))
        .ret)))⟩
theorem fok_193 : FnOk Try.prog 193 fa_193 an_193 := ⟨Try.f193, _, Try.func193, rfl, by kernel_rfl, rfl, rfl, by decide, by kernel_rfl⟩
/-- slices.Contains(()string,string) -/
def an_167 : Ann := ⟨[(1, 2, 3)], [(0, [0, 1]), (1, [4])], [], []⟩
def fa_167 : FnA := ⟨9, [.t 4],
  (.seq
    (.region false [⟨some 4, (.mv (.c (.bool false))), 4, none, 0⟩] (some [0, 1]))
    (.seq
      (.region false [⟨some 5, (.mv (.t 0)), 105, none, 0⟩, ⟨some 6, (.mv (.t 1)), 9, none, 0⟩, ⟨some 7, (.call (.f 193) [(.t 5), (.t 6)]), 3, none, 3⟩, ⟨some 8, (.bin .geq 3 (.t 7) (.c (.int .i64 0))), 4, none, 0⟩, ⟨some 4, (.mv (.t 8)), 4, none, 0⟩] (some [4]))
      .ret))⟩
theorem fok_167 : FnOk Try.prog 167 fa_167 an_167 := ⟨Try.f167, _, Try.func167, rfl, by kernel_rfl, rfl, rfl, by decide, by kernel_rfl⟩
/-- impl.isProperty -/
def an_103 : Ann := ⟨[(1, 2, 3)], [(0, [0]), (1, [2])], [], []⟩
def fa_103 : FnA := ⟨6, [.t 2],
  (.seq
    (.region false [⟨some 2, (.mv (.c (.bool false))), 4, none, 0⟩] (some [0]))
    (.seq
      (.region false [⟨some 3, (.bslice 105 5 [(0, (.c (.str [112, 114, 101, 108, 105, 110, 101, 97, 114]))), (1, (.c (.str [100, 105, 118, 105, 115, 105, 98, 108, 101]))), (2, (.c (.str [105, 110, 118, 111, 108, 117, 116, 105, 118, 101]))), (3, (.c (.str [105, 100, 101, 109, 112, 111, 116, 101, 110, 116]))), (4, (.c (.str [98, 111, 111, 108, 101, 97, 110])))]), 105, none, 0⟩, ⟨some 4, (.mv (.t 0)), 9, none, 0⟩, ⟨some 5, (.call (.f 167) [(.t 3), (.t 4)]), 4, none, 3⟩, ⟨some 2, (.mv (.t 5)), 4, none, 0⟩] (some [2]))
      .ret))⟩
theorem fok_103 : FnOk Try.prog 103 fa_103 an_103 := ⟨Try.f103, _, Try.func103, rfl, by kernel_rfl, rfl, rfl, by decide, by kernel_rfl⟩
/-- impl.HasProperty -/
def an_24 : Ann := ⟨[(1, 1, 3), (1, 5, 3), (9, 4, 3)], [(0, [0, 3]), (1, [0, 3, 14]), (2, [4]), (3, [0, 3, 17, 18]), (4, [0, 3, 17, 18, 19]), (5, [0, 3, 5, 17, 18]), (6, [0, 3, 5, 17, 18, 23, 24]), (7, [0, 3, 5, 17, 18, 23, 24, 25]), (8, [0, 3, 5, 6, 17, 18, 23, 24]), (9, [0, 3, 5, 17, 18, 23, 24, 32]), (10, [4]), (11, [0, 3, 5, 17, 18, 23, 24]), (12, [0, 3, 17, 18]), (13, [4])], [(4, [0, 3, 17, 18], []), (7, [0, 3, 5, 17, 18, 23, 24], [])], []⟩
def lb_24_7 : AC :=
  (.seq
    (.region false [⟨some 25, (.bin .lss 3 (.t 24) (.t 23)), 0, none, 0⟩] (some [0, 3, 5, 17, 18, 23, 24, 25]))
    (.seq
      (.cond (.t 25)
        .skip
        (.exit 2))
      (.seq
        (.block 3
          (.seq
            (.region false [⟨some 26, (.mv (.t 24)), 3, none, 0⟩, ⟨some 6, (.mv (.t 26)), 3, none, 0⟩] (some [0, 3, 5, 6, 17, 18, 23, 24]))
            (.seq
              (.region false [⟨some 27, (.mv (.t 0)), 9, none, 0⟩, ⟨some 28, (.load 27 (.t 3)), 27, none, 0⟩, ⟨some 29, (.mv (.t 5)), 3, none, 0⟩, ⟨some 30, (.mv (.t 6)), 3, none, 0⟩, ⟨some 31, (.call (.f 104) [(.t 27), (.t 28), (.t 29), (.t 30)]), 4, none, 3⟩, ⟨some 32, (.un .not (.t 31)), 4, none, 0⟩] (some [0, 3, 5, 17, 18, 23, 24, 32]))
              (.cond (.t 32)
                (.seq
                  (.region false [⟨some 4, (.mv (.c (.bool false))), 4, none, 0⟩] (some [4]))
                  .ret)
                .skip))))
        (.region false [⟨some 33, (.bin .add 3 (.t 24) (.c (.int .i64 1))), 3, none, 0⟩, ⟨some 24, (.mv (.t 33)), 3, none, 0⟩] (some [0, 3, 5, 17, 18, 23, 24])))))
def lb_24_4 : AC :=
  (.seq
    (.region false [⟨some 19, (.bin .lss 3 (.t 18) (.t 17)), 0, none, 0⟩] (some [0, 3, 17, 18, 19]))
    (.seq
      (.cond (.t 19)
        .skip
        (.exit 0))
      (.seq
        (.block 1
          (.seq
            (.region false [⟨some 20, (.mv (.t 18)), 3, none, 0⟩, ⟨some 5, (.mv (.t 20)), 3, none, 0⟩] (some [0, 3, 5, 17, 18]))
            (.seq
              (.region false [⟨some 21, (.faddr 27 (.t 3) 0), 0, none, 0⟩, ⟨some 22, (.load 23 (.t 21)), 23, none, 0⟩, ⟨some 23, (.len 23 (.t 22)), 3, none, 0⟩, ⟨some 24, (.mv (.c (.int .i64 0))), 3, none, 0⟩] (some [0, 3, 5, 17, 18, 23, 24]))
              (.block 2
                (.loop [0, 3, 5, 17, 18, 23, 24] [] lb_24_7)))))
        (.region false [⟨some 34, (.bin .add 3 (.t 18) (.c (.int .i64 1))), 3, none, 0⟩, ⟨some 18, (.mv (.t 34)), 3, none, 0⟩] (some [0, 3, 17, 18])))))
def fa_24 : FnA := ⟨35, [.t 4],
  (.seq
    (.region false [⟨some 3, (.box 27 (.t 1)), 0, none, 0⟩, ⟨some 4, (.mv (.c (.bool false))), 4, none, 0⟩] (some [0, 3]))
    (.seq
      (.seq
        (.region false (gops [⟨some 7, (.mv (.t 0)), 9, none, 0⟩, ⟨some 8, (.call (.f 103) [(.t 7)]), 4, none, 3⟩, ⟨some 9, (.un .not (.t 8)), 4, none, 0⟩, ⟨some 10, (.mv (.t 9)), 4, none, 0⟩, ⟨some 11, (.load 27 (.t 3)), 27, some (10, false), 0⟩, ⟨some 12, (.call (.f 23) [(.t 11)]), 4, some (10, false), 3⟩, ⟨some 13, (.un .not (.t 12)), 4, some (10, false), 0⟩, ⟨some 14, (.pick (.t 10) (.c (.bool true)) (.t 13)), 4, none, 0⟩]) (some [0, 3, 14]))
        (.cond (.t 14)
          (.seq
            (.region false [⟨some 4, (.mv (.c (.bool false))), 4, none, 0⟩] (some [4]))
            .ret)
          .skip))
      (.seq
        (.seq
          (.region false [⟨some 15, (.faddr 27 (.t 3) 0), 0, none, 0⟩, ⟨some 16, (.load 23 (.t 15)), 23, none, 0⟩, ⟨some 17, (.len 23 (.t 16)), 3, none, 0⟩, ⟨some 18, (.mv (.c (.int .i64 0))), 3, none, 0⟩] (some [0, 3, 17, 18]))
          (.block 0
            (.loop [0, 3, 17, 18] [] lb_24_4)))
        (.seq
          (.region false [⟨some 4, (.mv (.c (.bool true))), 4, none, 0⟩] (some [4]))
          .ret))))⟩
theorem fok_24 : FnOk Try.prog 24 fa_24 an_24 := ⟨Try.f24, _, Try.func24, rfl, by kernel_rfl, rfl, rfl, by decide, by kernel_rfl⟩
end Go.PS
end

section
-- Contracts: a property at two elements.
set_option maxRecDepth 100000
set_option linter.unusedVariables false
set_option linter.unusedSimpArgs false
namespace Go.PS
open Go.Proofs

abbrev sPre : List UInt8 := [112, 114, 101, 108, 105, 110, 101, 97, 114]
abbrev sDiv : List UInt8 := [100, 105, 118, 105, 115, 105, 98, 108, 101]
abbrev sInv : List UInt8 := [105, 110, 118, 111, 108, 117, 116, 105, 118, 101]
abbrev sIde : List UInt8 := [105, 100, 101, 109, 112, 111, 116, 101, 110, 116]
abbrev sBoo : List UInt8 := [98, 111, 111, 108, 101, 97, 110]
/-- A property of two elements. -/
def hoM (u : List Int) (t : List (List Int)) (nm : List UInt8) (x y : Nat) : Bool :=
  if nm = sPre then decide (joinM u (implyM u t x y).toNat (implyM u t y x).toNat = (u.length : Int) - 1)
  else if nm = sDiv then decide (tm t x (implyM u t x y).toNat = meetM u x y)
  else if nm = sInv then decide (implyM u t (implyM u t x 0).toNat 0 = x)
  else if nm = sIde then decide (tm t x x = x)
  else if nm = sBoo then decide (joinM u x (implyM u t x 0).toNat = (u.length : Int) - 1)
  else false

set_option maxHeartbeats 2000000 in
theorem holdsI_pc (nm : List UInt8) (u : List Int) (t : List (List Int)) (x y : Int) (f : TF u t) (hx0 : 0 ≤ x) (hx : x.toNat < u.length) (hy0 : 0 ≤ y) (hy : y.toNat < u.length) : PC Try.prog 104 [.str nm, AL u t, I64 x, I64 y] none true (fun r _ => r = .bool (hoM u t nm x.toNat y.toNat)) := by
  obtain ⟨x, rfl⟩ := Int.eq_ofNat_of_zero_le hx0
  obtain ⟨y, rfl⟩ := Int.eq_ofNat_of_zero_le hy0
  simp only [Int.toNat_natCast] at hx hy ⊢
  have v := f.lat
  have h6 := v.six
  have r1 := v.imply_rng (t := t) (x := x) (y := y)
  have r2 := v.imply_rng (t := t) (x := y) (y := x)
  have r3 := v.imply_rng (t := t) (x := x) (y := 0)
  have w1 : IntKind.i64.wrap ((u.length : Int) - 1) = u.length - 1 := wrap64 (by omega) (by omega)
  refine pcT [fm_implyI, fm_joinI, fm_meetI, fm_notI] fok_104 ?_
  by_cases c1 : nm = sPre
  · subst c1
    simp [fa_104, hoM, f, hx, hy, w1, r1, r2, v.sm, show (implyM u t x y).toNat < u.length by omega, show (implyM u t y x).toNat < u.length by omega]
  · by_cases c2 : nm = sDiv
    · subst c2
      simp [fa_104, hoM, f, hx, hy, w1, r1, r2, h6, f.len, f.rows, show (implyM u t x y).toNat < u.length by omega]
    · by_cases c3 : nm = sInv
      · subst c3
        simp [fa_104, hoM, f, hx, hy, w1, r3, show (implyM u t x 0).toNat < u.length by omega]
      · by_cases c4 : nm = sIde
        · subst c4
          simp [fa_104, hoM, f, hx, hy, w1, f.len, f.rows]
        · by_cases c5 : nm = sBoo
          · subst c5
            simp [fa_104, hoM, f, hx, hy, w1, r3, v.sm, show (implyM u t x 0).toNat < u.length by omega]
          · simp [fa_104, hoM, w1, c1, c2, c3, c4, c5]
noncomputable def fm_holdsI : Fam Try.prog := mkFam (X := List UInt8 × List Int × List (List Int) × Int × Int) 104 true (fun (nm, u, t, x, y) => [.str nm, AL u t, I64 x, I64 y]) (fun (nm, u, t, x, y) => (TF u t) ∧ (0 ≤ x) ∧ (x.toNat < u.length) ∧ (0 ≤ y) ∧ (y.toNat < u.length)) (fun (nm, u, t, x, y) => .bool (hoM u t nm x.toNat y.toNat)) (by
  rintro ⟨nm, u, t, x, y⟩ ⟨f, hx0, hx, hy0, hy⟩
  exact holdsI_pc nm u t x y f hx0 hx hy0 hy)
@[simp] theorem fm_holdsI_id : fm_holdsI.id = 104 := rfl
@[simp] theorem fm_holdsI_fresh : fm_holdsI.fresh = true := rfl
@[simp] theorem fm_holdsI_look (nm : List UInt8) (u : List Int) (t : List (List Int)) (x y : Int) (f : TF u t) (hx0 : 0 ≤ x) (hx : x.toNat < u.length) (hy0 : 0 ≤ y) (hy : y.toNat < u.length) : fm_holdsI.look [.str nm, AL u t, I64 x, I64 y] = some (.bool (hoM u t nm x.toNat y.toNat)) :=
  lookF_of (X := List UInt8 × List Int × List (List Int) × Int × Int) (args := fun (nm, u, t, x, y) => [.str nm, AL u t, I64 x, I64 y]) (pre := fun (nm, u, t, x, y) => (TF u t) ∧ (0 ≤ x) ∧ (x.toNat < u.length) ∧ (0 ≤ y) ∧ (y.toNat < u.length)) (val := fun (nm, u, t, x, y) => .bool (hoM u t nm x.toNat y.toNat)) (by
  rintro ⟨nm, u, t, x, y⟩ ⟨nm', u', t', x', y'⟩ h
  simp at h
  try simp only [and_assoc] at h
  obtain ⟨rfl, rfl, rfl, rfl, rfl⟩ := h
  rfl) (nm, u, t, x, y) ⟨f, hx0, hx, hy0, hy⟩
attribute [irreducible] fm_holdsI
end Go.PS
end

section
-- Contracts: properties.
set_option maxRecDepth 100000
set_option linter.unusedVariables false
set_option linter.unusedSimpArgs false
namespace Go.PS
open Go.Proofs

def strsD (ss : List (List UInt8)) : List D := ss.map D.str
abbrev SL (ss : List (List UInt8)) : D := .list 1 (strsD ss)
def gs (ss : List (List UInt8)) (i : Nat) : List UInt8 := ss[i]?.getD []
@[simp] theorem strsD_length {ss : List (List UInt8)} : (strsD ss).length = ss.length := by simp [strsD]
@[simp] theorem idxK_strs {ss : List (List UInt8)} {n : Int} {K : D → Prop} : idxK (strsD ss) n K ↔ 0 ≤ n ∧ n < ss.length ∧ K (.str (gs ss n.toNat)) := by
  have e : gs ss n.toNat = ss.getD n.toNat default := by unfold gs; rw [List.getD_eq_getElem?_getD]; rfl
  rw [e]; exact idxK_map
@[simp] theorem strsD_inj {a b : List (List UInt8)} : strsD a = strsD b ↔ a = b := by
  constructor
  · intro h
    have := congrArg (List.map (fun d : D => match d with | .str s => s | _ => [])) h
    simpa [strsD, Function.comp_def] using this
  · rintro rfl; rfl

theorem idxStr_pc (ss : List (List UInt8)) (s : List UInt8) (hl : Big ss.length) : PC Try.prog 193 [SL ss, .str s] none true (fun r _ => r = I64 (firstI ss.length fun i => decide (s = gs ss i))) := by
  have hl := hl.le
  refine pcT [] fok_193 ?_
  simp [fa_193]
  refine loopA (tabK_mono _) ss.length (fun i => [(8, I64 i)]) (fun _ => []) (fun j => decide (s = gs ss j) = false) (by simp) (by simp) (fun i g hi hP => ?_)
  simp [lb_193_2, wrap_succ hi hl]
  refine ⟨fun h => ?_, fun h => ?_⟩
  · by_cases e : s = gs ss i
    · have er : firstI ss.length (fun i => decide (s = gs ss i)) = i := firstI_some h (by simp [e]) hP
      simp [h, e, er]
      simp [e] at er
      exact er.symm
    · simp [h, e, wrap_succ hi hl]
  · have er : firstI ss.length (fun i => decide (s = gs ss i)) = -1 := firstI_none (fun j hj => hP j (by omega))
    rw [er]
noncomputable def fm_idxStr : Fam Try.prog := mkFam (X := List (List UInt8) × List UInt8) 193 true (fun (ss, s) => [SL ss, .str s]) (fun (ss, s) => (Big ss.length)) (fun (ss, s) => I64 (firstI ss.length fun i => decide (s = gs ss i))) (by
  rintro ⟨ss, s⟩ hl
  exact idxStr_pc ss s hl)
@[simp] theorem fm_idxStr_id : fm_idxStr.id = 193 := rfl
@[simp] theorem fm_idxStr_fresh : fm_idxStr.fresh = true := rfl
@[simp] theorem fm_idxStr_look (ss : List (List UInt8)) (s : List UInt8) (hl : Big ss.length) : fm_idxStr.look [SL ss, .str s] = some (I64 (firstI ss.length fun i => decide (s = gs ss i))) :=
  lookF_of (X := List (List UInt8) × List UInt8) (args := fun (ss, s) => [SL ss, .str s]) (pre := fun (ss, s) => (Big ss.length)) (val := fun (ss, s) => I64 (firstI ss.length fun i => decide (s = gs ss i))) (by
  rintro ⟨ss, s⟩ ⟨ss', s'⟩ h
  simp at h
  try simp only [and_assoc] at h
  obtain ⟨rfl, rfl⟩ := h
  rfl) (ss, s) hl
attribute [irreducible] fm_idxStr
theorem contStr_pc (ss : List (List UInt8)) (s : List UInt8) (hl : Big ss.length) : PC Try.prog 167 [SL ss, .str s] none true (fun r _ => r = .bool (decide (s ∈ ss))) := by
  refine pcT [fm_idxStr] fok_167 ?_
  simp [fa_167, hl]
  constructor
  · intro h
    rcases firstI_range (n := ss.length) (p := fun i => decide (s = gs ss i)) with h1 | ⟨z, hz, hp, h1⟩
    · rw [h1] at h; omega
    · have e : s = gs ss z := of_decide_eq_true hp
      rw [e, gs, List.getElem?_eq_getElem hz]
      exact List.getElem_mem hz
  · intro h
    obtain ⟨i, hi, e⟩ := List.mem_iff_getElem.1 h
    rcases firstI_range (n := ss.length) (p := fun i => decide (s = gs ss i)) with h1 | ⟨z, hz, hp, h1⟩
    · exfalso
      unfold firstI at h1
      split at h1
      · omega
      · rename_i hn
        rw [List.find?_eq_none] at hn
        have := hn i (by simpa using hi)
        simp [gs, List.getElem?_eq_getElem hi, e] at this
    · rw [h1]; omega
noncomputable def fm_contStr : Fam Try.prog := mkFam (X := List (List UInt8) × List UInt8) 167 true (fun (ss, s) => [SL ss, .str s]) (fun (ss, s) => (Big ss.length)) (fun (ss, s) => .bool (decide (s ∈ ss))) (by
  rintro ⟨ss, s⟩ hl
  exact contStr_pc ss s hl)
@[simp] theorem fm_contStr_id : fm_contStr.id = 167 := rfl
@[simp] theorem fm_contStr_fresh : fm_contStr.fresh = true := rfl
@[simp] theorem fm_contStr_look (ss : List (List UInt8)) (s : List UInt8) (hl : Big ss.length) : fm_contStr.look [SL ss, .str s] = some (.bool (decide (s ∈ ss))) :=
  lookF_of (X := List (List UInt8) × List UInt8) (args := fun (ss, s) => [SL ss, .str s]) (pre := fun (ss, s) => (Big ss.length)) (val := fun (ss, s) => .bool (decide (s ∈ ss))) (by
  rintro ⟨ss, s⟩ ⟨ss', s'⟩ h
  simp at h
  try simp only [and_assoc] at h
  obtain ⟨rfl, rfl⟩ := h
  rfl) (ss, s) hl
attribute [irreducible] fm_contStr
def propM (nm : List UInt8) : Bool := decide (nm ∈ [sPre, sDiv, sInv, sIde, sBoo])
theorem isPropI_pc (nm : List UInt8)  : PC Try.prog 103 [.str nm] none true (fun r _ => r = .bool (propM nm)) := by
  have l1 : fm_contStr.look [.list 1 [.str sPre, .str sDiv, .str sInv, .str sIde, .str sBoo], .str nm] = some (.bool (propM nm)) := fm_contStr_look [sPre, sDiv, sInv, sIde, sBoo] nm (by unfold Big; simp)
  refine pcT [fm_contStr] fok_103 ?_
  simp [fa_103, l1, rg5]
noncomputable def fm_isPropI : Fam Try.prog := mkFam (X := List UInt8) 103 true (fun nm => [.str nm]) (fun nm => True) (fun nm => .bool (propM nm)) (by
  rintro nm _
  exact isPropI_pc nm)
@[simp] theorem fm_isPropI_id : fm_isPropI.id = 103 := rfl
@[simp] theorem fm_isPropI_fresh : fm_isPropI.fresh = true := rfl
@[simp] theorem fm_isPropI_look (nm : List UInt8)  : fm_isPropI.look [.str nm] = some (.bool (propM nm)) :=
  lookF_of (X := List UInt8) (args := fun nm => [.str nm]) (pre := fun nm => True) (val := fun nm => .bool (propM nm)) (by
  intro nm nm' h
  simp at h
  subst h
  rfl) nm trivial
attribute [irreducible] fm_isPropI

def hasA (u : List Int) (t : List (List Int)) (nm : List UInt8) : Bool := allR u.length fun x => allR u.length (hoM u t nm x)
noncomputable def hasM (u : List Int) (t : List (List Int)) (nm : List UInt8) : Bool := propM nm && decide (VA u t) && hasA u t nm

theorem HasI_pc (nm : List UInt8) (u : List Int) (t : List (List Int)) (hu : Big u.length) (ht : BigR t) : PC Try.prog 24 [.str nm, AL u t] none true (fun r _ => r = .bool (hasM u t nm)) := by
  have hul := hu.le
  refine pcT [fm_isPropI, fm_validAlgebraI, fm_holdsI] fok_24 ?_
  simp [fa_24]
  refine cutW (tabK_mono _) [(14, .bool (!(propM nm && decide (VA u t))))] (by
    cases hb : propM nm
    · simp [hb]
    · simp [hb, hu, ht]) ?_
  cases hb : (propM nm && decide (VA u t))
  · simp [hasM, hb]
  · have h := hb
    simp only [Bool.and_eq_true, decide_eq_true_eq] at h
    have f := h.2.tf
    have e : hasM u t nm = hasA u t nm := by simp [hasM, hb]
    rw [e]
    simp
    refine loopA (tabK_mono _) u.length (fun i => [(18, I64 i)]) (fun _ => []) (fun x => ∀ y, y < u.length → hoM u t nm x y = true) (by simp) (by simp) (fun x g hx hP => ?_)
    simp [lb_24_4, wrap_succ hx hul]
    refine ⟨fun h2 => ?_, fun h2 => ?_⟩
    · refine loopA (tabK_mono _) u.length (fun i => [(24, I64 i)]) (fun _ => []) (fun y => hoM u t nm x y = true) (by simp) (by simp) (fun y g2 hy hQ => ?_)
      simp [lb_24_7, wrap_succ hy hul]
      refine ⟨fun h3 => ?_, fun h3 => ?_⟩
      · cases hc : hoM u t nm x y
        · simp [f, h2, h3, hc]
          apply Bool.eq_false_iff.2
          intro hA
          unfold hasA at hA
          rw [allR_iff] at hA
          have := hA x h2
          rw [allR_iff] at this
          rw [this y h3] at hc
          cases hc
        · simp [f, h2, h3, hc, wrap_succ hy hul]
      · simp [wrap_succ hx hul, h2]
        exact fun y hy => hQ y (by omega)
    · show hasA u t nm = true
      unfold hasA
      rw [allR_iff]
      intro x hx
      rw [allR_iff]
      exact hP x (by omega)
noncomputable def fm_HasI : Fam Try.prog := mkFam (X := List UInt8 × List Int × List (List Int)) 24 true (fun (nm, u, t) => [.str nm, AL u t]) (fun (nm, u, t) => (Big u.length) ∧ (BigR t)) (fun (nm, u, t) => .bool (hasM u t nm)) (by
  rintro ⟨nm, u, t⟩ ⟨hu, ht⟩
  exact HasI_pc nm u t hu ht)
@[simp] theorem fm_HasI_id : fm_HasI.id = 24 := rfl
@[simp] theorem fm_HasI_fresh : fm_HasI.fresh = true := rfl
@[simp] theorem fm_HasI_look (nm : List UInt8) (u : List Int) (t : List (List Int)) (hu : Big u.length) (ht : BigR t) : fm_HasI.look [.str nm, AL u t] = some (.bool (hasM u t nm)) :=
  lookF_of (X := List UInt8 × List Int × List (List Int)) (args := fun (nm, u, t) => [.str nm, AL u t]) (pre := fun (nm, u, t) => (Big u.length) ∧ (BigR t)) (val := fun (nm, u, t) => .bool (hasM u t nm)) (by
  rintro ⟨nm, u, t⟩ ⟨nm', u', t'⟩ h
  simp at h
  try simp only [and_assoc] at h
  obtain ⟨rfl, rfl, rfl⟩ := h
  rfl) (nm, u, t) ⟨hu, ht⟩
attribute [irreducible] fm_HasI

section
variable {u : List Int} {t : List (List Int)}
theorem hasA_iff {nm : List UInt8} : hasA u t nm = true ↔ ∀ x, x < u.length → ∀ y, y < u.length → hoM u t nm x y = true := by
  unfold hasA; simp only [allR_iff]
end
end Go.PS
end
