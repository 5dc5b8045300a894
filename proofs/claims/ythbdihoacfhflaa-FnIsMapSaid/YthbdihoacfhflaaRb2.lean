/- Part 2 of what the last text proves: Maps keep opposites: the law holds at every input. -/
import Derived.Test.YthbdihoacfhflaaRb1
section
-- Lattices and algebras, asked by a computation; chains; what is drawn, in plain Lean.
set_option linter.unusedVariables false
set_option linter.unusedSimpArgs false
namespace Go.PS

def allR (n : Nat) (p : Nat → Bool) : Bool := (List.range n).all p
theorem allR_iff {n : Nat} {p : Nat → Bool} : allR n p = true ↔ ∀ x, x < n → p x = true := by simp [allR, List.all_eq_true]

def vlB (u : List Int) : Bool :=
  (decide (1 ≤ u.length) && decide (u.length ≤ 6)) && allR u.length fun x =>
    ((decide (0 ≤ gi u x) && decide (gi u x < 2 ^ u.length)) && (tb u x x && tb u 0 x && tb u x (u.length - 1))) && allR u.length fun y =>
      ((decide (x = y) || !tb u x y || !tb u y x) && allR u.length fun z => !tb u x y || !tb u y z || tb u x z) && (decide (0 ≤ meetM u x y) && decide (0 ≤ joinM u x y))
theorem vlB_iff {u : List Int} : vlB u = true ↔ VL u := by
  simp only [vlB, Bool.and_eq_true, decide_eq_true_eq, allR_iff, Bool.or_eq_true, Bool.not_eq_true']
  constructor
  · rintro ⟨⟨h1, h2⟩, h⟩
    refine ⟨⟨h1, h2, fun x hx => ⟨(h x hx).1.1.1, (h x hx).1.1.2⟩, fun x hx => ⟨(h x hx).1.2.1.1, (h x hx).1.2.1.2, (h x hx).1.2.2⟩, fun x hx y hy hne hxy => ?_, fun x hx y hy z hz hxy hyz => ?_⟩, fun x hx y hy => ((h x hx).2 y hy).2⟩
    · have := ((h x hx).2 y hy).1.1
      rcases this with (h3 | h3) | h3
      · exact absurd h3 hne
      · rw [hxy] at h3; cases h3
      · exact h3
    · have := ((h x hx).2 y hy).1.2 z hz
      rcases this with (h3 | h3) | h3
      · rw [hxy] at h3; cases h3
      · rw [hyz] at h3; cases h3
      · exact h3
  · intro v
    refine ⟨⟨v.ord.one, v.ord.six⟩, fun x hx => ⟨⟨v.ord.rng x hx, ⟨(v.ord.row x hx).1, (v.ord.row x hx).2.1⟩, (v.ord.row x hx).2.2⟩, fun y hy => ⟨⟨?_, fun z hz => ?_⟩, v.mj x hx y hy⟩⟩⟩
    · by_cases e : x = y
      · exact .inl (.inl e)
      · cases h : tb u x y
        · exact .inl (.inr rfl)
        · exact .inr (v.ord.anti x hx y hy e h)
    · cases h : tb u x y
      · exact .inl (.inl rfl)
      · cases h2 : tb u y z
        · exact .inl (.inr rfl)
        · exact .inr (v.ord.trans x hx y hy z hz h h2)

def vaB (u : List Int) (t : List (List Int)) : Bool :=
  (vlB u && decide (t.length = u.length)) && (allR u.length fun x =>
    (decide ((gr t x).length = u.length) && allR u.length fun y => decide (0 ≤ tm t x y) && decide (tm t x y < u.length))) && (allR u.length fun x =>
    (decide (tm t x (u.length - 1) = x) && decide (tm t x 0 = 0)) && allR u.length fun y =>
      decide (tm t x y = tm t y x) && allR u.length fun z => decide (tm t (tn t x y) z = tm t x (tn t y z)) && decide (tm t x (joinM u y z).toNat = joinM u (tn t x y) (tn t x z)))
theorem vaB_iff {u : List Int} {t : List (List Int)} : vaB u t = true ↔ VA u t := by
  simp only [vaB, Bool.and_eq_true, decide_eq_true_eq, allR_iff, vlB_iff]
  constructor
  · rintro ⟨⟨⟨h1, h2⟩, h3⟩, h4⟩
    exact ⟨h1, h2, fun x hx => (h3 x hx).1, fun x hx y hy => (h3 x hx).2 y hy, fun x hx => (h4 x hx).1, fun x hx y hy => ((h4 x hx).2 y hy).1, fun x hx y hy z hz => (((h4 x hx).2 y hy).2 z hz).1, fun x hx y hy z hz => (((h4 x hx).2 y hy).2 z hz).2⟩
  · intro v
    exact ⟨⟨⟨v.lat, v.len⟩, fun x hx => ⟨v.rows x hx, v.rng x hx⟩⟩, fun x hx => ⟨v.top x hx, fun y hy => ⟨v.comm x hx y hy, fun z hz => ⟨v.assoc x hx y hy z hz, v.dist x hx y hy z hz⟩⟩⟩⟩
theorem decide_VA {u : List Int} {t : List (List Int)} : decide (VA u t) = vaB u t := by
  rw [Bool.eq_iff_iff, decide_eq_true_eq, vaB_iff]

/-- A list told element by element, and one of rows. -/
def tl (n : Nat) (f : Nat → Int) : List Int := (List.range n).map f
def tr (n : Nat) (f : Nat → List Int) : List (List Int) := (List.range n).map f
@[simp] theorem tl_length {n : Nat} {f : Nat → Int} : (tl n f).length = n := by simp [tl]
theorem tl_zero {f : Nat → Int} : tl 0 f = [] := rfl
theorem tl_succ {n : Nat} {f : Nat → Int} : tl (n + 1) f = tl n f ++ [f n] := by simp [tl, List.range_succ]
theorem gi_tl {n i : Nat} {f : Nat → Int} (h : i < n) : gi (tl n f) i = f i := by simp [gi, tl, h]
@[simp] theorem tr_length {n : Nat} {f : Nat → List Int} : (tr n f).length = n := by simp [tr]
theorem tr_zero {f : Nat → List Int} : tr 0 f = [] := rfl
theorem tr_succ {n : Nat} {f : Nat → List Int} : tr (n + 1) f = tr n f ++ [f n] := by simp [tr, List.range_succ]
theorem gr_tr {n i : Nat} {f : Nat → List Int} (h : i < n) : gr (tr n f) i = f i := by simp [gr, tr, h]
-- chains and what is made of algebras
def chL (n : Nat) : List Int := tl n fun x => 2 ^ n - 2 ^ x
def sumV (n x y : Nat) : Int := max ((x : Int) + y - n + 1) 0
def sumT (n : Nat) : List (List Int) := tr n fun x => tl n (sumV n x)
def mtT (u : List Int) : List (List Int) := tr u.length fun x => tl u.length (meetM u x)
/-- Elements of pairs. -/
def crR (a b : List Int) (p : Nat) (n : Nat) : Int := (List.range n).foldl (fun o q => if tb a (p / b.length) (q / b.length) && tb b (p % b.length) (q % b.length) then o + 2 ^ q else o) 0
def crU (a b : List Int) : List Int := tl (a.length * b.length) fun p => crR a b p (a.length * b.length)
def crV (u : List Int) (t : List (List Int)) (v : List Int) (s : List (List Int)) (p q : Nat) : Int := tm t (p / v.length) (q / v.length) * v.length + tm s (p % v.length) (q % v.length)
def crT (u : List Int) (t : List (List Int)) (v : List Int) (s : List (List Int)) : List (List Int) := tr (u.length * v.length) fun p => tl (u.length * v.length) (crV u t v s p)
def skV (u : List Int) (t : List (List Int)) (s : List (List Int)) (x y : Nat) : Int :=
  if x < u.length - 1 ∧ y < u.length - 1 then tm t x y else if u.length - 1 ≤ x ∧ u.length - 1 ≤ y then (u.length - 1 : Nat) + tm s (x - (u.length - 1)) (y - (u.length - 1)) else min (x : Int) y
def skB (u v : List Int) (x y : Nat) : Bool :=
  decide (x < u.length - 1 ∧ u.length - 1 ≤ y) || (decide (x < u.length - 1 ∧ y < u.length - 1) && tb u x y) || (decide (u.length - 1 ≤ x ∧ u.length - 1 ≤ y) && tb v (x - (u.length - 1)) (y - (u.length - 1)))
def skR (u v : List Int) (x : Nat) (n : Nat) : Int := (List.range n).foldl (fun o y => if skB u v x y then o + 2 ^ y else o) 0
def skU (u v : List Int) : List Int := tl (u.length - 1 + v.length) fun x => skR u v x (u.length - 1 + v.length)
def skT (u : List Int) (t : List (List Int)) (v : List Int) (s : List (List Int)) : List (List Int) := tr (u.length - 1 + v.length) fun x => tl (u.length - 1 + v.length) (skV u t s x)

/-- A table with one product changed. -/
def set2 (t : List (List Int)) (x y : Nat) (z : Int) : List (List Int) := t.set x ((gr t x).set y z)
/-- All tables of a chain from a place on. -/
def filM (n : Nat) : Nat → List (List Int) → Nat → Nat → List (List (List Int))
  | 0, _, _, _ => []
  | k + 1, t, x, y =>
    if x = n - 1 then (if vaB (chL n) t then [t] else [])
    else if y = n - 1 then filM n k t (x + 1) (x + 1)
    else (List.range (min x y + 1)).flatMap fun (z : Nat) => if tm t (x - 1) y ≤ z ∧ tm t x (y - 1) ≤ z then filM n k (set2 (set2 t x y z) y x z) x (y + 1) else []
def tab0 (n : Nat) : List (List Int) := tr n fun x => tl n fun y => if x = n - 1 then (y : Int) else if y = n - 1 then (x : Int) else 0
def chT (n : Nat) : List (List (List Int)) := if 2 < n then filM n 40 (tab0 n) 1 1 else [tab0 n]

-- what is drawn
def pkX (b : List Int) (p : Nat) : Int := gi b (p % b.length) * 131 + gi b ((p * 7 + 3) % b.length) * 1117 + p * 29 + (p / b.length : Nat) * 53
def pkM (b : List Int) (p : Nat) (n : Int) : Int :=
  if n < 1 ∨ b.length = 0 then 0 else if p < b.length then (gi b p).tmod n else (bXor .i64 (pkX b p) ((pkX b p).tdiv 64)).tmod n
structure BB (b : List Int) : Prop where
  len : b.length ≤ 2000
  rng : ∀ x ∈ b, 0 ≤ x ∧ x ≤ 255
theorem BB.gi {b : List Int} (h : BB b) (i : Nat) : 0 ≤ PS.gi b i ∧ PS.gi b i ≤ 255 := by
  unfold PS.gi
  cases e : b[i]? with
  | none => exact ⟨by decide, by decide⟩
  | some v => exact h.rng v (List.mem_of_getElem? e)
theorem bXor_rng {a b : Int} (ha : 0 ≤ a) (ha1 : a < 4611686018427387904) (hb : 0 ≤ b) (hb1 : b < 4611686018427387904) : 0 ≤ bXor .i64 a b ∧ bXor .i64 a b < 4611686018427387904 := by
  have e : bXor .i64 a b = ((a.toNat ^^^ b.toNat : Nat) : Int) := by
    show IntKind.i64.wrap (((BitVec.ofInt 64 a ^^^ BitVec.ofInt 64 b).toNat : Nat) : Int) = _
    rw [BitVec.toNat_xor, ofInt_nat ha (by omega), ofInt_nat hb (by omega)]
    have : a.toNat ^^^ b.toNat < 2 ^ 62 := Nat.xor_lt_two_pow (by omega) (by omega)
    exact wrap64 (by omega) (by omega)
  have : a.toNat ^^^ b.toNat < 2 ^ 62 := Nat.xor_lt_two_pow (by omega) (by omega)
  rw [e]; omega
theorem pkX_rng {b : List Int} (h : BB b) {p : Nat} (hp : p ≤ 1073741824) : 0 ≤ pkX b p ∧ pkX b p < 1099511627776 := by
  have h1 := h.gi (p % b.length)
  have h2 := h.gi ((p * 7 + 3) % b.length)
  have h3 : p / b.length ≤ p := Nat.div_le_self _ _
  have h4 : (0 : Int) ≤ ((p / b.length : Nat) : Int) := Int.natCast_nonneg _
  unfold pkX
  generalize p / b.length = e at *
  omega
theorem pkM_rng {b : List Int} (h : BB b) {p : Nat} (hp : p ≤ 1073741824) {n : Int} (hn : 1 ≤ n) : 0 ≤ pkM b p n ∧ pkM b p n < n := by
  have key : ∀ v : Int, 0 ≤ v → 0 ≤ v.tmod n ∧ v.tmod n < n := fun v hv => ⟨Int.tmod_nonneg _ hv, Int.tmod_lt_of_pos _ (by omega)⟩
  unfold pkM
  split
  · omega
  · split
    · exact key _ (h.gi p).1
    · have hx := pkX_rng h hp
      have hd : 0 ≤ (pkX b p).tdiv 64 ∧ (pkX b p).tdiv 64 ≤ pkX b p := by
        rw [Int.tdiv_eq_ediv_of_nonneg hx.1]
        omega
      exact key _ (bXor_rng hx.1 (by omega) hd.1 (by omega)).1
end Go.PS
end

section
-- PRINTED by gen.py: clean texts of functions, and their tie to the program.
set_option maxRecDepth 100000
namespace Go.PS
open Go.Proofs
/-- spec.newReader -/
def an_90 : Ann := ⟨[(3, 2, 1)], [(0, [0]), (1, [0, 5]), (2, [0]), (3, [2])], [], []⟩
def fa_90 : FnA := ⟨11, [.t 2],
  (.seq
    (.region false [⟨some 2, (.mv (.c .junk)), 72, none, 0⟩] (some [0]))
    (.seq
      (.seq
        (.region false [⟨some 3, (.mv (.t 0)), 22, none, 0⟩, ⟨some 4, (.len 22 (.t 3)), 3, none, 0⟩, ⟨some 5, (.bin .gtr 3 (.t 4) (.c (.int .i64 2000))), 4, none, 0⟩] (some [0, 5]))
        (.cond (.t 5)
          (.region false [⟨some 6, (.mv (.t 0)), 22, none, 0⟩, ⟨some 7, (.slice 22 (.t 6) none (some (.c (.int .i64 2000)))), 22, none, 0⟩, ⟨some 0, (.mv (.t 7)), 22, none, 0⟩] (some [0]))
          .skip))
      (.seq
        (.region false [⟨some 8, (.mv (.t 0)), 22, none, 0⟩, ⟨some 9, (.build 101 [(0, (.t 8))]), 101, none, 0⟩, ⟨some 10, (.box 101 (.t 9)), 72, none, 1⟩, ⟨some 2, (.mv (.t 10)), 72, none, 0⟩] (some [2]))
        .ret)))⟩
theorem fok_90 : FnOk Try.prog 90 fa_90 an_90 := ⟨Try.f90, _, Try.func90, rfl, by kernel_rfl, rfl, rfl, by decide, by kernel_rfl⟩
/-- spec.reader).pick -/
def an_106 : Ann := ⟨[], [(0, [0, 1]), (1, [0, 1]), (2, [0, 1, 24]), (3, [4]), (4, [0, 1, 5]), (5, [0, 1, 5, 36]), (6, [4]), (7, [1, 6]), (8, [1, 6]), (9, [4])], [], []⟩
def fa_106 : FnA := ⟨99, [.t 4],
  (.seq
    (.region false [⟨some 4, (.mv (.c (.int .i64 0))), 3, none, 0⟩] (some [0, 1]))
    (.seq
      (.region false [⟨some 7, (.mv (.t 0)), 72, none, 0⟩, ⟨some 8, (.mv (.t 0)), 72, none, 0⟩, ⟨some 9, (.nilck (.t 8)), 0, none, 0⟩, ⟨some 10, (.faddr 101 (.t 9) 1), 0, none, 0⟩, ⟨some 11, (.load 3 (.t 10)), 3, none, 0⟩, ⟨some 12, (.bin .add 3 (.t 11) (.c (.int .i64 1))), 3, none, 0⟩, ⟨some 13, (.nilck (.t 7)), 0, none, 0⟩, ⟨some 14, (.faddr 101 (.t 13) 1), 0, none, 0⟩, ⟨none, (.store 3 (.t 14) (.t 12)), 0, none, 0⟩] (some [0, 1]))
      (.seq
        (.seq
          (.region false (gops [⟨some 15, (.mv (.t 1)), 3, none, 0⟩, ⟨some 16, (.bin .lss 3 (.t 15) (.c (.int .i64 1))), 4, none, 0⟩, ⟨some 17, (.mv (.t 16)), 4, none, 0⟩, ⟨some 18, (.mv (.t 0)), 72, some (17, false), 0⟩, ⟨some 19, (.nilck (.t 18)), 0, some (17, false), 0⟩, ⟨some 20, (.faddr 101 (.t 19) 0), 0, some (17, false), 0⟩, ⟨some 21, (.load 22 (.t 20)), 22, some (17, false), 0⟩, ⟨some 22, (.len 22 (.t 21)), 3, some (17, false), 0⟩, ⟨some 23, (.bin .eql 3 (.t 22) (.c (.int .i64 0))), 4, some (17, false), 0⟩, ⟨some 24, (.pick (.t 17) (.c (.bool true)) (.t 23)), 4, none, 0⟩]) (some [0, 1, 24]))
          (.cond (.t 24)
            (.seq
              (.region false [⟨some 4, (.mv (.c (.int .i64 0))), 3, none, 0⟩] (some [4]))
              .ret)
            .skip))
        (.seq
          (.region false [⟨some 25, (.mv (.t 0)), 72, none, 0⟩, ⟨some 26, (.nilck (.t 25)), 0, none, 0⟩, ⟨some 27, (.faddr 101 (.t 26) 1), 0, none, 0⟩, ⟨some 28, (.load 3 (.t 27)), 3, none, 0⟩, ⟨some 29, (.bin .sub 3 (.t 28) (.c (.int .i64 1))), 3, none, 0⟩, ⟨some 5, (.mv (.t 29)), 3, none, 0⟩] (some [0, 1, 5]))
          (.seq
            (.seq
              (.region false [⟨some 30, (.mv (.t 5)), 3, none, 0⟩, ⟨some 31, (.mv (.t 0)), 72, none, 0⟩, ⟨some 32, (.nilck (.t 31)), 0, none, 0⟩, ⟨some 33, (.faddr 101 (.t 32) 0), 0, none, 0⟩, ⟨some 34, (.load 22 (.t 33)), 22, none, 0⟩, ⟨some 35, (.len 22 (.t 34)), 3, none, 0⟩, ⟨some 36, (.bin .lss 3 (.t 30) (.t 35)), 4, none, 0⟩] (some [0, 1, 5, 36]))
              (.cond (.t 36)
                (.seq
                  (.region false [⟨some 37, (.mv (.t 0)), 72, none, 0⟩, ⟨some 38, (.nilck (.t 37)), 0, none, 0⟩, ⟨some 39, (.faddr 101 (.t 38) 0), 0, none, 0⟩, ⟨some 40, (.load 22 (.t 39)), 22, none, 0⟩, ⟨some 41, (.mv (.t 5)), 3, none, 0⟩, ⟨some 42, (.iaddr 22 (.t 40) (.t 41)), 0, none, 0⟩, ⟨some 43, (.load 5 (.t 42)), 5, none, 0⟩, ⟨some 44, (.conv 5 3 (.t 43)), 3, none, 0⟩, ⟨some 45, (.mv (.t 1)), 3, none, 0⟩, ⟨some 46, (.bin .rem 3 (.t 44) (.t 45)), 3, none, 0⟩, ⟨some 4, (.mv (.t 46)), 3, none, 0⟩] (some [4]))
                  .ret)
                .skip))
            (.seq
              (.region true (seg [0, 1, 5, 50, 51, 56] [⟨some 47, (.mv (.t 0)), 72, none, 0⟩, ⟨some 48, (.nilck (.t 47)), 0, none, 0⟩, ⟨some 49, (.faddr 101 (.t 48) 0), 0, none, 0⟩, ⟨some 50, (.load 22 (.t 49)), 22, none, 0⟩, ⟨some 51, (.mv (.t 5)), 3, none, 0⟩, ⟨some 52, (.mv (.t 0)), 72, none, 0⟩, ⟨some 53, (.nilck (.t 52)), 0, none, 0⟩, ⟨some 54, (.faddr 101 (.t 53) 0), 0, none, 0⟩, ⟨some 55, (.load 22 (.t 54)), 22, none, 0⟩, ⟨some 56, (.len 22 (.t 55)), 3, none, 0⟩]
              (seg [0, 1, 5, 61, 65, 66] [⟨some 57, (.bin .rem 3 (.t 51) (.t 56)), 3, none, 0⟩, ⟨some 58, (.iaddr 22 (.t 50) (.t 57)), 0, none, 0⟩, ⟨some 59, (.load 5 (.t 58)), 5, none, 0⟩, ⟨some 60, (.conv 5 3 (.t 59)), 3, none, 0⟩, ⟨some 61, (.bin .mul 3 (.t 60) (.c (.int .i64 131))), 3, none, 0⟩, ⟨some 62, (.mv (.t 0)), 72, none, 0⟩, ⟨some 63, (.nilck (.t 62)), 0, none, 0⟩, ⟨some 64, (.faddr 101 (.t 63) 0), 0, none, 0⟩, ⟨some 65, (.load 22 (.t 64)), 22, none, 0⟩, ⟨some 66, (.mv (.t 5)), 3, none, 0⟩]
              (seg [0, 1, 5, 61, 76] [⟨some 67, (.bin .mul 3 (.t 66) (.c (.int .i64 7))), 3, none, 0⟩, ⟨some 68, (.bin .add 3 (.t 67) (.c (.int .i64 3))), 3, none, 0⟩, ⟨some 69, (.mv (.t 0)), 72, none, 0⟩, ⟨some 70, (.nilck (.t 69)), 0, none, 0⟩, ⟨some 71, (.faddr 101 (.t 70) 0), 0, none, 0⟩, ⟨some 72, (.load 22 (.t 71)), 22, none, 0⟩, ⟨some 73, (.len 22 (.t 72)), 3, none, 0⟩, ⟨some 74, (.bin .rem 3 (.t 68) (.t 73)), 3, none, 0⟩, ⟨some 75, (.iaddr 22 (.t 65) (.t 74)), 0, none, 0⟩, ⟨some 76, (.load 5 (.t 75)), 5, none, 0⟩]
              (seg [1, 82, 83, 86] [⟨some 77, (.conv 5 3 (.t 76)), 3, none, 0⟩, ⟨some 78, (.bin .mul 3 (.t 77) (.c (.int .i64 1117))), 3, none, 0⟩, ⟨some 79, (.bin .add 3 (.t 61) (.t 78)), 3, none, 0⟩, ⟨some 80, (.mv (.t 5)), 3, none, 0⟩, ⟨some 81, (.bin .mul 3 (.t 80) (.c (.int .i64 29))), 3, none, 0⟩, ⟨some 82, (.bin .add 3 (.t 79) (.t 81)), 3, none, 0⟩, ⟨some 83, (.mv (.t 5)), 3, none, 0⟩, ⟨some 84, (.mv (.t 0)), 72, none, 0⟩, ⟨some 85, (.nilck (.t 84)), 0, none, 0⟩, ⟨some 86, (.faddr 101 (.t 85) 0), 0, none, 0⟩]
              [⟨some 87, (.load 22 (.t 86)), 22, none, 0⟩, ⟨some 88, (.len 22 (.t 87)), 3, none, 0⟩, ⟨some 89, (.bin .quo 3 (.t 83) (.t 88)), 3, none, 0⟩, ⟨some 90, (.bin .mul 3 (.t 89) (.c (.int .i64 53))), 3, none, 0⟩, ⟨some 91, (.bin .add 3 (.t 82) (.t 90)), 3, none, 0⟩, ⟨some 6, (.mv (.t 91)), 3, none, 0⟩] [1, 6] (by decide)) [1, 6] (by decide)) [1, 6] (by decide)) [1, 6] (by decide)) (some [1, 6]))
              (.seq
                (.region false [⟨some 92, (.mv (.t 6)), 3, none, 0⟩, ⟨some 93, (.mv (.t 6)), 3, none, 0⟩, ⟨some 94, (.bin .quo 3 (.t 93) (.c (.int .i64 64))), 3, none, 0⟩, ⟨some 95, (.bin .xor 3 (.t 92) (.t 94)), 3, none, 0⟩, ⟨some 6, (.mv (.t 95)), 3, none, 0⟩] (some [1, 6]))
                (.seq
                  (.region false [⟨some 96, (.mv (.t 6)), 3, none, 0⟩, ⟨some 97, (.mv (.t 1)), 3, none, 0⟩, ⟨some 98, (.bin .rem 3 (.t 96) (.t 97)), 3, none, 0⟩, ⟨some 4, (.mv (.t 98)), 3, none, 0⟩] (some [4]))
                  .ret))))))))⟩
theorem fok_106 : FnOk Try.prog 106 fa_106 an_106 := ⟨Try.f106, _, Try.func106, rfl, by kernel_rfl, rfl, rfl, by decide, by kernel_rfl⟩
/-- spec.reader).one -/
def an_161 : Ann := ⟨[(1, 4, 16)], [(0, [0, 1]), (1, [4])], [], []⟩
def fa_161 : FnA := ⟨12, [.t 4],
  (.seq
    (.region false [⟨some 4, (.mv (.c (.int .i64 0))), 3, none, 0⟩] (some [0, 1]))
    (.seq
      (.region false [⟨some 5, (.mv (.t 1)), 23, none, 0⟩, ⟨some 6, (.mv (.t 0)), 72, none, 0⟩, ⟨some 7, (.mv (.t 1)), 23, none, 0⟩, ⟨some 8, (.len 23 (.t 7)), 3, none, 0⟩, ⟨some 9, (.call (.f 106) [(.t 6), (.t 8)]), 3, none, 16⟩, ⟨some 10, (.iaddr 23 (.t 5) (.t 9)), 0, none, 0⟩, ⟨some 11, (.load 3 (.t 10)), 3, none, 0⟩, ⟨some 4, (.mv (.t 11)), 3, none, 0⟩] (some [4]))
      .ret))⟩
theorem fok_161 : FnOk Try.prog 161 fa_161 an_161 := ⟨Try.f161, _, Try.func161, rfl, by kernel_rfl, rfl, rfl, by decide, by kernel_rfl⟩
/-- spec.chain -/
def an_189 : Ann := ⟨[(1, 0, 1), (5, 2, 3), (5, 4, 3)], [(0, [0]), (1, [0, 3]), (2, [0, 3, 4]), (3, [0, 3, 4, 8]), (5, [0, 3, 4]), (4, [0, 3, 4]), (6, [2])], [(3, [0, 3, 4], [40, 144])], []⟩
def lb_189_3 : AC :=
  (.seq
    (.seq
      (.region false [⟨some 6, (.mv (.t 4)), 3, none, 0⟩, ⟨some 7, (.mv (.t 0)), 3, none, 0⟩, ⟨some 8, (.bin .lss 3 (.t 6) (.t 7)), 4, none, 0⟩] (some [0, 3, 4, 8]))
      (.cond (.t 8)
        .skip
        (.exit 0)))
    (.seq
      (.block 1
        (.region false [⟨some 11, (.mv (.t 3)), 23, none, 0⟩, ⟨some 12, (.mv (.t 0)), 3, none, 0⟩, ⟨some 13, (.call (.f 121) [(.t 12)]), 3, none, 3⟩, ⟨some 14, (.mv (.t 4)), 3, none, 0⟩, ⟨some 15, (.call (.f 121) [(.t 14)]), 3, none, 3⟩, ⟨some 16, (.bin .sub 3 (.t 13) (.t 15)), 3, none, 0⟩, ⟨some 17, (.bslice 23 1 [(0, (.t 16))]), 23, none, 0⟩, ⟨some 18, (.app 23 23 (.t 11) (.t 17)), 23, none, 0⟩, ⟨some 3, (.mv (.t 18)), 23, none, 0⟩] (some [0, 3, 4])))
      (.region false [⟨some 9, (.mv (.t 4)), 3, none, 0⟩, ⟨some 10, (.bin .add 3 (.t 9) (.c (.int .i64 1))), 3, none, 0⟩, ⟨some 4, (.mv (.t 10)), 3, none, 0⟩] (some [0, 3, 4]))))
def fa_189 : FnA := ⟨20, [.t 2],
  (.seq
    (.region false [⟨some 2, (.mv (.c .nil)), 23, none, 0⟩] (some [0]))
    (.seq
      (.region false [⟨some 5, (.bslice 23 0 []), 23, none, 1⟩, ⟨some 3, (.mv (.t 5)), 23, none, 0⟩] (some [0, 3]))
      (.seq
        (.seq
          (.region false [⟨some 4, (.mv (.c (.int .i64 0))), 3, none, 0⟩] (some [0, 3, 4]))
          (.block 0
            (.loop [0, 3, 4] [40, 144] lb_189_3)))
        (.seq
          (.region false [⟨some 19, (.mv (.t 3)), 23, none, 0⟩, ⟨some 2, (.mv (.t 19)), 23, none, 0⟩] (some [2]))
          .ret))))⟩
theorem fok_189 : FnOk Try.prog 189 fa_189 an_189 := ⟨Try.f189, _, Try.func189, rfl, by kernel_rfl, rfl, rfl, by decide, by kernel_rfl⟩
/-- spec.cross -/
def an_190 : Ann := ⟨[(1, 0, 1), (10, 7, 3), (10, 16, 3), (11, 2, 3)], [(0, [0, 1]), (1, [0, 1, 5]), (2, [0, 1, 5, 6]), (3, [0, 1, 5, 6, 7]), (4, [0, 1, 5, 6, 7, 18]), (6, [0, 1, 5, 6, 7, 8]), (7, [0, 1, 5, 6, 7, 8, 9]), (8, [0, 1, 5, 6, 7, 8, 9, 26]), (10, [0, 1, 5, 6, 7, 8, 9, 46]), (11, [0, 1, 5, 6, 7, 8, 9]), (9, [0, 1, 5, 6, 7, 8, 9]), (12, [0, 1, 5, 6, 7]), (5, [0, 1, 5, 6, 7]), (13, [4])], [(4, [0, 1, 5, 6, 7], [80, 432]), (8, [0, 1, 5, 6, 7, 8, 9], [80, 432])], []⟩
def lb_190_8 : AC :=
  (.seq
    (.seq
      (.region false [⟨some 21, (.mv (.t 9)), 3, none, 0⟩, ⟨some 22, (.mv (.t 0)), 23, none, 0⟩, ⟨some 23, (.len 23 (.t 22)), 3, none, 0⟩, ⟨some 24, (.mv (.t 6)), 3, none, 0⟩, ⟨some 25, (.bin .mul 3 (.t 23) (.t 24)), 3, none, 0⟩, ⟨some 26, (.bin .lss 3 (.t 21) (.t 25)), 4, none, 0⟩] (some [0, 1, 5, 6, 7, 8, 9, 26]))
      (.cond (.t 26)
        .skip
        (.exit 2)))
    (.seq
      (.block 3
        (.seq
          (.region true (gops [⟨some 29, (.mv (.t 0)), 23, none, 0⟩, ⟨some 30, (.mv (.t 7)), 3, none, 0⟩, ⟨some 31, (.mv (.t 6)), 3, none, 0⟩, ⟨some 32, (.bin .quo 3 (.t 30) (.t 31)), 3, none, 0⟩, ⟨some 33, (.mv (.t 9)), 3, none, 0⟩, ⟨some 34, (.mv (.t 6)), 3, none, 0⟩, ⟨some 35, (.bin .quo 3 (.t 33) (.t 34)), 3, none, 0⟩, ⟨some 36, (.call (.f 156) [(.t 29), (.t 32), (.t 35)]), 4, none, 3⟩, ⟨some 37, (.mv (.t 36)), 4, none, 0⟩, ⟨some 38, (.mv (.t 1)), 23, some (37, true), 0⟩, ⟨some 39, (.mv (.t 7)), 3, some (37, true), 0⟩, ⟨some 40, (.mv (.t 6)), 3, some (37, true), 0⟩, ⟨some 41, (.bin .rem 3 (.t 39) (.t 40)), 3, some (37, true), 0⟩, ⟨some 42, (.mv (.t 9)), 3, some (37, true), 0⟩, ⟨some 43, (.mv (.t 6)), 3, some (37, true), 0⟩, ⟨some 44, (.bin .rem 3 (.t 42) (.t 43)), 3, some (37, true), 0⟩, ⟨some 45, (.call (.f 156) [(.t 38), (.t 41), (.t 44)]), 4, some (37, true), 3⟩, ⟨some 46, (.pick (.t 37) (.t 45) (.c (.bool false))), 4, none, 0⟩]) (some [0, 1, 5, 6, 7, 8, 9, 46]))
          (.cond (.t 46)
            (.region false [⟨some 47, (.mv (.t 8)), 3, none, 0⟩, ⟨some 48, (.mv (.t 9)), 3, none, 0⟩, ⟨some 49, (.call (.f 121) [(.t 48)]), 3, none, 3⟩, ⟨some 50, (.bin .add 3 (.t 47) (.t 49)), 3, none, 0⟩, ⟨some 8, (.mv (.t 50)), 3, none, 0⟩] (some [0, 1, 5, 6, 7, 8, 9]))
            .skip)))
      (.region false [⟨some 27, (.mv (.t 9)), 3, none, 0⟩, ⟨some 28, (.bin .add 3 (.t 27) (.c (.int .i64 1))), 3, none, 0⟩, ⟨some 9, (.mv (.t 28)), 3, none, 0⟩] (some [0, 1, 5, 6, 7, 8, 9]))))
def lb_190_4 : AC :=
  (.seq
    (.seq
      (.region false [⟨some 13, (.mv (.t 7)), 3, none, 0⟩, ⟨some 14, (.mv (.t 0)), 23, none, 0⟩, ⟨some 15, (.len 23 (.t 14)), 3, none, 0⟩, ⟨some 16, (.mv (.t 6)), 3, none, 0⟩, ⟨some 17, (.bin .mul 3 (.t 15) (.t 16)), 3, none, 0⟩, ⟨some 18, (.bin .lss 3 (.t 13) (.t 17)), 4, none, 0⟩] (some [0, 1, 5, 6, 7, 18]))
      (.cond (.t 18)
        .skip
        (.exit 0)))
    (.seq
      (.block 1
        (.seq
          (.region false [⟨some 8, (.mv (.c (.int .i64 0))), 3, none, 0⟩] (some [0, 1, 5, 6, 7, 8]))
          (.seq
            (.seq
              (.region false [⟨some 9, (.mv (.c (.int .i64 0))), 3, none, 0⟩] (some [0, 1, 5, 6, 7, 8, 9]))
              (.block 2
                (.loop [0, 1, 5, 6, 7, 8, 9] [80, 432] lb_190_8)))
            (.region false [⟨some 51, (.mv (.t 5)), 23, none, 0⟩, ⟨some 52, (.mv (.t 8)), 3, none, 0⟩, ⟨some 53, (.bslice 23 1 [(0, (.t 52))]), 23, none, 0⟩, ⟨some 54, (.app 23 23 (.t 51) (.t 53)), 23, none, 0⟩, ⟨some 5, (.mv (.t 54)), 23, none, 0⟩] (some [0, 1, 5, 6, 7])))))
      (.region false [⟨some 19, (.mv (.t 7)), 3, none, 0⟩, ⟨some 20, (.bin .add 3 (.t 19) (.c (.int .i64 1))), 3, none, 0⟩, ⟨some 7, (.mv (.t 20)), 3, none, 0⟩] (some [0, 1, 5, 6, 7]))))
def fa_190 : FnA := ⟨56, [.t 4],
  (.seq
    (.region false [⟨some 4, (.mv (.c .nil)), 23, none, 0⟩] (some [0, 1]))
    (.seq
      (.region false [⟨some 10, (.bslice 23 0 []), 23, none, 1⟩, ⟨some 5, (.mv (.t 10)), 23, none, 0⟩] (some [0, 1, 5]))
      (.seq
        (.region false [⟨some 11, (.mv (.t 1)), 23, none, 0⟩, ⟨some 12, (.len 23 (.t 11)), 3, none, 0⟩, ⟨some 6, (.mv (.t 12)), 3, none, 0⟩] (some [0, 1, 5, 6]))
        (.seq
          (.seq
            (.region false [⟨some 7, (.mv (.c (.int .i64 0))), 3, none, 0⟩] (some [0, 1, 5, 6, 7]))
            (.block 0
              (.loop [0, 1, 5, 6, 7] [80, 432] lb_190_4)))
          (.seq
            (.region false [⟨some 55, (.mv (.t 5)), 23, none, 0⟩, ⟨some 4, (.mv (.t 55)), 23, none, 0⟩] (some [4]))
            .ret)))))⟩
theorem fok_190 : FnOk Try.prog 190 fa_190 an_190 := ⟨Try.f190, _, Try.func190, rfl, by kernel_rfl, rfl, rfl, by decide, by kernel_rfl⟩
/-- spec.sumChain -/
def an_198 : Ann := ⟨[(1, 1, 1), (5, 0, 1), (10, 3, 2)], [(0, [0, 2]), (1, [0, 2, 3]), (2, [0, 2, 3, 4]), (3, [0, 2, 3, 4, 12]), (5, [0, 2, 3, 4, 5]), (6, [0, 2, 3, 4, 5, 6]), (7, [0, 2, 3, 4, 5, 6, 18]), (9, [0, 2, 3, 4, 5, 6]), (8, [0, 2, 3, 4, 5, 6]), (10, [0, 2, 3, 4]), (4, [0, 2, 3, 4]), (11, [2])], [(3, [0, 2, 3, 4], [16, 24, 64, 65, 66, 67, 68, 69, 70, 71, 280]), (7, [0, 2, 3, 4, 5, 6], [16, 24, 64, 65, 66, 67, 68, 69, 70, 71, 120, 240, 280])], []⟩
def lb_198_7 : AC :=
  (.seq
    (.seq
      (.region false [⟨some 16, (.mv (.t 6)), 3, none, 0⟩, ⟨some 17, (.mv (.t 0)), 3, none, 0⟩, ⟨some 18, (.bin .lss 3 (.t 16) (.t 17)), 4, none, 0⟩] (some [0, 2, 3, 4, 5, 6, 18]))
      (.cond (.t 18)
        .skip
        (.exit 2)))
    (.seq
      (.block 3
        (.region false [⟨some 21, (.mv (.t 5)), 23, none, 0⟩, ⟨some 22, (.mv (.t 4)), 3, none, 0⟩, ⟨some 23, (.mv (.t 6)), 3, none, 0⟩, ⟨some 24, (.bin .add 3 (.t 22) (.t 23)), 3, none, 0⟩, ⟨some 25, (.mv (.t 0)), 3, none, 0⟩, ⟨some 26, (.bin .sub 3 (.t 24) (.t 25)), 3, none, 0⟩, ⟨some 27, (.bin .add 3 (.t 26) (.c (.int .i64 1))), 3, none, 0⟩, ⟨some 28, (.max (.t 27) (.c (.int .i64 0))), 3, none, 0⟩, ⟨some 29, (.bslice 23 1 [(0, (.t 28))]), 23, none, 0⟩, ⟨some 30, (.app 23 23 (.t 21) (.t 29)), 23, none, 0⟩, ⟨some 5, (.mv (.t 30)), 23, none, 0⟩] (some [0, 2, 3, 4, 5, 6])))
      (.region false [⟨some 19, (.mv (.t 6)), 3, none, 0⟩, ⟨some 20, (.bin .add 3 (.t 19) (.c (.int .i64 1))), 3, none, 0⟩, ⟨some 6, (.mv (.t 20)), 3, none, 0⟩] (some [0, 2, 3, 4, 5, 6]))))
def lb_198_3 : AC :=
  (.seq
    (.seq
      (.region false [⟨some 10, (.mv (.t 4)), 3, none, 0⟩, ⟨some 11, (.mv (.t 0)), 3, none, 0⟩, ⟨some 12, (.bin .lss 3 (.t 10) (.t 11)), 4, none, 0⟩] (some [0, 2, 3, 4, 12]))
      (.cond (.t 12)
        .skip
        (.exit 0)))
    (.seq
      (.block 1
        (.seq
          (.region false [⟨some 15, (.bslice 23 0 []), 23, none, 1⟩, ⟨some 5, (.mv (.t 15)), 23, none, 0⟩] (some [0, 2, 3, 4, 5]))
          (.seq
            (.seq
              (.region false [⟨some 6, (.mv (.c (.int .i64 0))), 3, none, 0⟩] (some [0, 2, 3, 4, 5, 6]))
              (.block 2
                (.loop [0, 2, 3, 4, 5, 6] [16, 24, 64, 65, 66, 67, 68, 69, 70, 71, 120, 240, 280] lb_198_7)))
            (.region false [⟨some 31, (.faddr 27 (.t 3) 1), 0, none, 0⟩, ⟨some 32, (.load 25 (.t 31)), 25, none, 0⟩, ⟨some 33, (.mv (.t 5)), 23, none, 0⟩, ⟨some 34, (.bslice 25 1 [(0, (.t 33))]), 25, none, 2⟩, ⟨some 35, (.app 25 25 (.t 32) (.t 34)), 25, none, 0⟩, ⟨some 36, (.faddr 27 (.t 3) 1), 0, none, 0⟩, ⟨none, (.store 25 (.t 36) (.t 35)), 0, none, 0⟩] (some [0, 2, 3, 4])))))
      (.region false [⟨some 13, (.mv (.t 4)), 3, none, 0⟩, ⟨some 14, (.bin .add 3 (.t 13) (.c (.int .i64 1))), 3, none, 0⟩, ⟨some 4, (.mv (.t 14)), 3, none, 0⟩] (some [0, 2, 3, 4]))))
def fa_198 : FnA := ⟨38, [.c 2 27],
  (.seq
    (.region false [⟨some 2, (.alloc 27), 0, none, 0⟩] (some [0, 2]))
    (.seq
      (.region false [⟨some 7, (.mv (.t 0)), 3, none, 0⟩, ⟨some 8, (.call (.f 189) [(.t 7)]), 23, none, 1⟩, ⟨some 9, (.build 27 [(0, (.t 8))]), 27, none, 0⟩, ⟨some 3, (.alloc 27), 0, none, 0⟩, ⟨none, (.store 27 (.t 3) (.t 9)), 0, none, 0⟩] (some [0, 2, 3]))
      (.seq
        (.seq
          (.region false [⟨some 4, (.mv (.c (.int .i64 0))), 3, none, 0⟩] (some [0, 2, 3, 4]))
          (.block 0
            (.loop [0, 2, 3, 4] [16, 24, 64, 65, 66, 67, 68, 69, 70, 71, 280] lb_198_3)))
        (.seq
          (.region false [⟨some 37, (.load 27 (.t 3)), 27, none, 0⟩, ⟨none, (.store 27 (.t 2) (.t 37)), 0, none, 0⟩] (some [2]))
          .ret))))⟩
theorem fok_198 : FnOk Try.prog 198 fa_198 an_198 := ⟨Try.f198, _, Try.func198, rfl, by kernel_rfl, rfl, rfl, by decide, by kernel_rfl⟩
/-- spec.meetAlgebra -/
def an_98 : Ann := ⟨[(1, 0, 1), (5, 0, 1), (9, 4, 3), (10, 3, 2)], [(0, [0, 2]), (1, [0, 2, 3]), (2, [0, 2, 3, 4]), (3, [0, 2, 3, 4, 14]), (5, [0, 2, 3, 4, 5]), (6, [0, 2, 3, 4, 5, 6]), (7, [0, 2, 3, 4, 5, 6, 21]), (9, [0, 2, 3, 4, 5, 6]), (8, [0, 2, 3, 4, 5, 6]), (10, [0, 2, 3, 4]), (4, [0, 2, 3, 4]), (11, [2])], [(3, [0, 2, 3, 4], [16, 24, 56, 72, 280]), (7, [0, 2, 3, 4, 5, 6], [16, 24, 56, 72, 136, 240, 280])], []⟩
def lb_98_7 : AC :=
  (.seq
    (.seq
      (.region false [⟨some 18, (.mv (.t 6)), 3, none, 0⟩, ⟨some 19, (.mv (.t 0)), 23, none, 0⟩, ⟨some 20, (.len 23 (.t 19)), 3, none, 0⟩, ⟨some 21, (.bin .lss 3 (.t 18) (.t 20)), 4, none, 0⟩] (some [0, 2, 3, 4, 5, 6, 21]))
      (.cond (.t 21)
        .skip
        (.exit 2)))
    (.seq
      (.block 3
        (.region false [⟨some 24, (.mv (.t 5)), 23, none, 0⟩, ⟨some 25, (.mv (.t 0)), 23, none, 0⟩, ⟨some 26, (.mv (.t 4)), 3, none, 0⟩, ⟨some 27, (.mv (.t 6)), 3, none, 0⟩, ⟨some 28, (.call (.f 165) [(.t 25), (.t 26), (.t 27)]), 3, none, 3⟩, ⟨some 29, (.bslice 23 1 [(0, (.t 28))]), 23, none, 0⟩, ⟨some 30, (.app 23 23 (.t 24) (.t 29)), 23, none, 0⟩, ⟨some 5, (.mv (.t 30)), 23, none, 0⟩] (some [0, 2, 3, 4, 5, 6])))
      (.region false [⟨some 22, (.mv (.t 6)), 3, none, 0⟩, ⟨some 23, (.bin .add 3 (.t 22) (.c (.int .i64 1))), 3, none, 0⟩, ⟨some 6, (.mv (.t 23)), 3, none, 0⟩] (some [0, 2, 3, 4, 5, 6]))))
def lb_98_3 : AC :=
  (.seq
    (.seq
      (.region false [⟨some 11, (.mv (.t 4)), 3, none, 0⟩, ⟨some 12, (.mv (.t 0)), 23, none, 0⟩, ⟨some 13, (.len 23 (.t 12)), 3, none, 0⟩, ⟨some 14, (.bin .lss 3 (.t 11) (.t 13)), 4, none, 0⟩] (some [0, 2, 3, 4, 14]))
      (.cond (.t 14)
        .skip
        (.exit 0)))
    (.seq
      (.block 1
        (.seq
          (.region false [⟨some 17, (.bslice 23 0 []), 23, none, 1⟩, ⟨some 5, (.mv (.t 17)), 23, none, 0⟩] (some [0, 2, 3, 4, 5]))
          (.seq
            (.seq
              (.region false [⟨some 6, (.mv (.c (.int .i64 0))), 3, none, 0⟩] (some [0, 2, 3, 4, 5, 6]))
              (.block 2
                (.loop [0, 2, 3, 4, 5, 6] [16, 24, 56, 72, 136, 240, 280] lb_98_7)))
            (.region false [⟨some 31, (.faddr 27 (.t 3) 1), 0, none, 0⟩, ⟨some 32, (.load 25 (.t 31)), 25, none, 0⟩, ⟨some 33, (.mv (.t 5)), 23, none, 0⟩, ⟨some 34, (.bslice 25 1 [(0, (.t 33))]), 25, none, 2⟩, ⟨some 35, (.app 25 25 (.t 32) (.t 34)), 25, none, 0⟩, ⟨some 36, (.faddr 27 (.t 3) 1), 0, none, 0⟩, ⟨none, (.store 25 (.t 36) (.t 35)), 0, none, 0⟩] (some [0, 2, 3, 4])))))
      (.region false [⟨some 15, (.mv (.t 4)), 3, none, 0⟩, ⟨some 16, (.bin .add 3 (.t 15) (.c (.int .i64 1))), 3, none, 0⟩, ⟨some 4, (.mv (.t 16)), 3, none, 0⟩] (some [0, 2, 3, 4]))))
def fa_98 : FnA := ⟨38, [.c 2 27],
  (.seq
    (.region false [⟨some 2, (.alloc 27), 0, none, 0⟩] (some [0, 2]))
    (.seq
      (.region false [⟨some 7, (.bslice 23 0 []), 23, none, 1⟩, ⟨some 8, (.mv (.t 0)), 23, none, 0⟩, ⟨some 9, (.app 23 23 (.t 7) (.t 8)), 23, none, 0⟩, ⟨some 10, (.build 27 [(0, (.t 9))]), 27, none, 0⟩, ⟨some 3, (.alloc 27), 0, none, 0⟩, ⟨none, (.store 27 (.t 3) (.t 10)), 0, none, 0⟩] (some [0, 2, 3]))
      (.seq
        (.seq
          (.region false [⟨some 4, (.mv (.c (.int .i64 0))), 3, none, 0⟩] (some [0, 2, 3, 4]))
          (.block 0
            (.loop [0, 2, 3, 4] [16, 24, 56, 72, 280] lb_98_3)))
        (.seq
          (.region false [⟨some 37, (.load 27 (.t 3)), 27, none, 0⟩, ⟨none, (.store 27 (.t 2) (.t 37)), 0, none, 0⟩] (some [2]))
          .ret))))⟩
theorem fok_98 : FnOk Try.prog 98 fa_98 an_98 := ⟨Try.f98, _, Try.func98, rfl, by kernel_rfl, rfl, rfl, by decide, by kernel_rfl⟩
/-- spec.stack -/
def an_199 : Ann := ⟨[(7, 0, 1), (18, 22, 3), (18, 43, 3), (19, 2, 3), (20, 3, 2)], [(0, [2, 3, 4]), (1, [2, 3, 4, 5]), (2, [2, 3, 4, 5, 6]), (3, [2, 3, 4, 5, 6, 7]), (4, [2, 3, 4, 5, 6, 7, 8]), (5, [2, 3, 4, 5, 6, 7, 8, 25]), (7, [2, 3, 4, 5, 6, 7, 8, 9]), (8, [2, 3, 4, 5, 6, 7, 8, 9, 10]), (9, [2, 3, 4, 5, 6, 7, 8, 9, 10, 11]), (10, [2, 3, 4, 5, 6, 7, 8, 9, 10, 11, 31]), (12, [2, 3, 4, 5, 6, 7, 8, 9, 10, 11, 12]), (13, [2, 3, 4, 5, 6, 7, 8, 9, 10, 11, 12, 44]), (14, [2, 3, 4, 5, 6, 7, 8, 9, 10, 11, 12]), (15, [2, 3, 4, 5, 6, 7, 8, 9, 10, 11, 12, 60]), (16, [2, 3, 4, 5, 6, 7, 8, 9, 10, 11, 12]), (17, [2, 3, 4, 5, 6, 7, 8, 9, 10, 11]), (18, [2, 3, 4, 5, 6, 7, 8, 9, 10, 11, 124]), (19, [2, 3, 4, 5, 6, 7, 8, 9, 10, 11]), (11, [2, 3, 4, 5, 6, 7, 8, 9, 10, 11]), (20, [2, 3, 4, 5, 6, 7, 8, 10]), (21, [2, 3, 4, 5, 6, 7, 8]), (6, [2, 3, 4, 5, 6, 7, 8]), (22, [4])], [(5, [2, 3, 4, 5, 6, 7, 8], [32, 56, 1064, 1112]), (10, [2, 3, 4, 5, 6, 7, 8, 9, 10, 11], [32, 56, 224, 624, 1064, 1112])], []⟩
def lb_199_10 : AC :=
  (.seq
    (.seq
      (.region false [⟨some 29, (.mv (.t 11)), 3, none, 0⟩, ⟨some 30, (.mv (.t 6)), 3, none, 0⟩, ⟨some 31, (.bin .lss 3 (.t 29) (.t 30)), 4, none, 0⟩] (some [2, 3, 4, 5, 6, 7, 8, 9, 10, 11, 31]))
      (.cond (.t 31)
        .skip
        (.exit 2)))
    (.seq
      (.block 3
        (.seq
          (.region false [⟨some 34, (.mv (.t 8)), 3, none, 0⟩, ⟨some 35, (.mv (.t 11)), 3, none, 0⟩, ⟨some 36, (.min (.t 34) (.t 35)), 3, none, 0⟩, ⟨some 12, (.mv (.t 36)), 3, none, 0⟩] (some [2, 3, 4, 5, 6, 7, 8, 9, 10, 11, 12]))
          (.seq
            (.seq
              (.region false (gops [⟨some 37, (.mv (.t 8)), 3, none, 0⟩, ⟨some 38, (.mv (.t 5)), 3, none, 0⟩, ⟨some 39, (.bin .lss 3 (.t 37) (.t 38)), 4, none, 0⟩, ⟨some 40, (.mv (.t 39)), 4, none, 0⟩, ⟨some 41, (.mv (.t 11)), 3, some (40, true), 0⟩, ⟨some 42, (.mv (.t 5)), 3, some (40, true), 0⟩, ⟨some 43, (.bin .lss 3 (.t 41) (.t 42)), 4, some (40, true), 0⟩, ⟨some 44, (.pick (.t 40) (.t 43) (.c (.bool false))), 4, none, 0⟩]) (some [2, 3, 4, 5, 6, 7, 8, 9, 10, 11, 12, 44]))
              (.cond (.t 44)
                (.region false [⟨some 45, (.faddr 27 (.t 2) 1), 0, none, 0⟩, ⟨some 46, (.load 25 (.t 45)), 25, none, 0⟩, ⟨some 47, (.mv (.t 8)), 3, none, 0⟩, ⟨some 48, (.iaddr 25 (.t 46) (.t 47)), 0, none, 0⟩, ⟨some 49, (.load 23 (.t 48)), 23, none, 0⟩, ⟨some 50, (.mv (.t 11)), 3, none, 0⟩, ⟨some 51, (.iaddr 23 (.t 49) (.t 50)), 0, none, 0⟩, ⟨some 52, (.load 3 (.t 51)), 3, none, 0⟩, ⟨some 12, (.mv (.t 52)), 3, none, 0⟩] (some [2, 3, 4, 5, 6, 7, 8, 9, 10, 11, 12]))
                (.seq
                  (.region false (gops [⟨some 53, (.mv (.t 8)), 3, none, 0⟩, ⟨some 54, (.mv (.t 5)), 3, none, 0⟩, ⟨some 55, (.bin .geq 3 (.t 53) (.t 54)), 4, none, 0⟩, ⟨some 56, (.mv (.t 55)), 4, none, 0⟩, ⟨some 57, (.mv (.t 11)), 3, some (56, true), 0⟩, ⟨some 58, (.mv (.t 5)), 3, some (56, true), 0⟩, ⟨some 59, (.bin .geq 3 (.t 57) (.t 58)), 4, some (56, true), 0⟩, ⟨some 60, (.pick (.t 56) (.t 59) (.c (.bool false))), 4, none, 0⟩]) (some [2, 3, 4, 5, 6, 7, 8, 9, 10, 11, 12, 60]))
                  (.cond (.t 60)
                    (.region false [⟨some 61, (.mv (.t 5)), 3, none, 0⟩, ⟨some 62, (.faddr 27 (.t 3) 1), 0, none, 0⟩, ⟨some 63, (.load 25 (.t 62)), 25, none, 0⟩, ⟨some 64, (.mv (.t 8)), 3, none, 0⟩, ⟨some 65, (.mv (.t 5)), 3, none, 0⟩, ⟨some 66, (.bin .sub 3 (.t 64) (.t 65)), 3, none, 0⟩, ⟨some 67, (.iaddr 25 (.t 63) (.t 66)), 0, none, 0⟩, ⟨some 68, (.load 23 (.t 67)), 23, none, 0⟩, ⟨some 69, (.mv (.t 11)), 3, none, 0⟩, ⟨some 70, (.mv (.t 5)), 3, none, 0⟩, ⟨some 71, (.bin .sub 3 (.t 69) (.t 70)), 3, none, 0⟩, ⟨some 72, (.iaddr 23 (.t 68) (.t 71)), 0, none, 0⟩, ⟨some 73, (.load 3 (.t 72)), 3, none, 0⟩, ⟨some 74, (.bin .add 3 (.t 61) (.t 73)), 3, none, 0⟩, ⟨some 12, (.mv (.t 74)), 3, none, 0⟩] (some [2, 3, 4, 5, 6, 7, 8, 9, 10, 11, 12]))
                    .skip))))
            (.seq
              (.region false [⟨some 75, (.mv (.t 9)), 23, none, 0⟩, ⟨some 76, (.mv (.t 12)), 3, none, 0⟩, ⟨some 77, (.bslice 23 1 [(0, (.t 76))]), 23, none, 0⟩, ⟨some 78, (.app 23 23 (.t 75) (.t 77)), 23, none, 0⟩, ⟨some 9, (.mv (.t 78)), 23, none, 0⟩] (some [2, 3, 4, 5, 6, 7, 8, 9, 10, 11]))
              (.seq
                (.region false (gops (seg [2, 3, 4, 5, 6, 7, 8, 9, 10, 11, 87, 88] [⟨some 79, (.mv (.t 8)), 3, none, 0⟩, ⟨some 80, (.mv (.t 5)), 3, none, 0⟩, ⟨some 81, (.bin .lss 3 (.t 79) (.t 80)), 4, none, 0⟩, ⟨some 82, (.mv (.t 81)), 4, none, 0⟩, ⟨some 83, (.mv (.t 11)), 3, some (82, true), 0⟩, ⟨some 84, (.mv (.t 5)), 3, some (82, true), 0⟩, ⟨some 85, (.bin .geq 3 (.t 83) (.t 84)), 4, some (82, true), 0⟩, ⟨some 86, (.pick (.t 82) (.t 85) (.c (.bool false))), 4, none, 0⟩, ⟨some 87, (.mv (.t 86)), 4, none, 0⟩, ⟨some 88, (.mv (.t 8)), 3, some (87, false), 0⟩]
                (seg [2, 3, 4, 5, 6, 7, 8, 9, 10, 11, 87, 96, 98] [⟨some 89, (.mv (.t 5)), 3, some (87, false), 0⟩, ⟨some 90, (.bin .lss 3 (.t 88) (.t 89)), 4, some (87, false), 0⟩, ⟨some 91, (.mv (.t 90)), 4, some (87, false), 0⟩, ⟨some 92, (.mv (.t 11)), 3, some (91, true), 0⟩, ⟨some 93, (.mv (.t 5)), 3, some (91, true), 0⟩, ⟨some 94, (.bin .lss 3 (.t 92) (.t 93)), 4, some (91, true), 0⟩, ⟨some 95, (.pick (.t 91) (.t 94) (.c (.bool false))), 4, some (87, false), 0⟩, ⟨some 96, (.mv (.t 95)), 4, some (87, false), 0⟩, ⟨some 97, (.faddr 27 (.t 2) 0), 0, some (96, true), 0⟩, ⟨some 98, (.load 23 (.t 97)), 23, some (96, true), 0⟩]
                (seg [2, 3, 4, 5, 6, 7, 8, 9, 10, 11, 104, 108] [⟨some 99, (.mv (.t 8)), 3, some (96, true), 0⟩, ⟨some 100, (.mv (.t 11)), 3, some (96, true), 0⟩, ⟨some 101, (.call (.f 156) [(.t 98), (.t 99), (.t 100)]), 4, some (96, true), 3⟩, ⟨some 102, (.pick (.t 96) (.t 101) (.c (.bool false))), 4, some (87, false), 0⟩, ⟨some 103, (.pick (.t 87) (.c (.bool true)) (.t 102)), 4, none, 0⟩, ⟨some 104, (.mv (.t 103)), 4, none, 0⟩, ⟨some 105, (.mv (.t 8)), 3, some (104, false), 0⟩, ⟨some 106, (.mv (.t 5)), 3, some (104, false), 0⟩, ⟨some 107, (.bin .geq 3 (.t 105) (.t 106)), 4, some (104, false), 0⟩, ⟨some 108, (.mv (.t 107)), 4, some (104, false), 0⟩]
                (seg [2, 3, 4, 5, 6, 7, 8, 9, 10, 11, 104, 113, 115, 118] [⟨some 109, (.mv (.t 11)), 3, some (108, true), 0⟩, ⟨some 110, (.mv (.t 5)), 3, some (108, true), 0⟩, ⟨some 111, (.bin .geq 3 (.t 109) (.t 110)), 4, some (108, true), 0⟩, ⟨some 112, (.pick (.t 108) (.t 111) (.c (.bool false))), 4, some (104, false), 0⟩, ⟨some 113, (.mv (.t 112)), 4, some (104, false), 0⟩, ⟨some 114, (.faddr 27 (.t 3) 0), 0, some (113, true), 0⟩, ⟨some 115, (.load 23 (.t 114)), 23, some (113, true), 0⟩, ⟨some 116, (.mv (.t 8)), 3, some (113, true), 0⟩, ⟨some 117, (.mv (.t 5)), 3, some (113, true), 0⟩, ⟨some 118, (.bin .sub 3 (.t 116) (.t 117)), 3, some (113, true), 0⟩]
                [⟨some 119, (.mv (.t 11)), 3, some (113, true), 0⟩, ⟨some 120, (.mv (.t 5)), 3, some (113, true), 0⟩, ⟨some 121, (.bin .sub 3 (.t 119) (.t 120)), 3, some (113, true), 0⟩, ⟨some 122, (.call (.f 156) [(.t 115), (.t 118), (.t 121)]), 4, some (113, true), 3⟩, ⟨some 123, (.pick (.t 113) (.t 122) (.c (.bool false))), 4, some (104, false), 0⟩, ⟨some 124, (.pick (.t 104) (.c (.bool true)) (.t 123)), 4, none, 0⟩] [2, 3, 4, 5, 6, 7, 8, 9, 10, 11, 124] (by decide)) [2, 3, 4, 5, 6, 7, 8, 9, 10, 11, 124] (by decide)) [2, 3, 4, 5, 6, 7, 8, 9, 10, 11, 124] (by decide)) [2, 3, 4, 5, 6, 7, 8, 9, 10, 11, 124] (by decide))) (some [2, 3, 4, 5, 6, 7, 8, 9, 10, 11, 124]))
                (.cond (.t 124)
                  (.region false [⟨some 125, (.mv (.t 10)), 3, none, 0⟩, ⟨some 126, (.mv (.t 11)), 3, none, 0⟩, ⟨some 127, (.call (.f 121) [(.t 126)]), 3, none, 3⟩, ⟨some 128, (.bin .add 3 (.t 125) (.t 127)), 3, none, 0⟩, ⟨some 10, (.mv (.t 128)), 3, none, 0⟩] (some [2, 3, 4, 5, 6, 7, 8, 9, 10, 11]))
                  .skip))))))
      (.region false [⟨some 32, (.mv (.t 11)), 3, none, 0⟩, ⟨some 33, (.bin .add 3 (.t 32) (.c (.int .i64 1))), 3, none, 0⟩, ⟨some 11, (.mv (.t 33)), 3, none, 0⟩] (some [2, 3, 4, 5, 6, 7, 8, 9, 10, 11]))))
def lb_199_5 : AC :=
  (.seq
    (.seq
      (.region false [⟨some 23, (.mv (.t 8)), 3, none, 0⟩, ⟨some 24, (.mv (.t 6)), 3, none, 0⟩, ⟨some 25, (.bin .lss 3 (.t 23) (.t 24)), 4, none, 0⟩] (some [2, 3, 4, 5, 6, 7, 8, 25]))
      (.cond (.t 25)
        .skip
        (.exit 0)))
    (.seq
      (.block 1
        (.seq
          (.region false [⟨some 28, (.bslice 23 0 []), 23, none, 1⟩, ⟨some 9, (.mv (.t 28)), 23, none, 0⟩] (some [2, 3, 4, 5, 6, 7, 8, 9]))
          (.seq
            (.region false [⟨some 10, (.mv (.c (.int .i64 0))), 3, none, 0⟩] (some [2, 3, 4, 5, 6, 7, 8, 9, 10]))
            (.seq
              (.seq
                (.region false [⟨some 11, (.mv (.c (.int .i64 0))), 3, none, 0⟩] (some [2, 3, 4, 5, 6, 7, 8, 9, 10, 11]))
                (.block 2
                  (.loop [2, 3, 4, 5, 6, 7, 8, 9, 10, 11] [32, 56, 224, 624, 1064, 1112] lb_199_10)))
              (.seq
                (.region false [⟨some 129, (.faddr 27 (.t 7) 1), 0, none, 0⟩, ⟨some 130, (.load 25 (.t 129)), 25, none, 0⟩, ⟨some 131, (.mv (.t 9)), 23, none, 0⟩, ⟨some 132, (.bslice 25 1 [(0, (.t 131))]), 25, none, 2⟩, ⟨some 133, (.app 25 25 (.t 130) (.t 132)), 25, none, 0⟩, ⟨some 134, (.faddr 27 (.t 7) 1), 0, none, 0⟩, ⟨none, (.store 25 (.t 134) (.t 133)), 0, none, 0⟩] (some [2, 3, 4, 5, 6, 7, 8, 10]))
                (.region false [⟨some 135, (.faddr 27 (.t 7) 0), 0, none, 0⟩, ⟨some 136, (.load 23 (.t 135)), 23, none, 0⟩, ⟨some 137, (.mv (.t 10)), 3, none, 0⟩, ⟨some 138, (.bslice 23 1 [(0, (.t 137))]), 23, none, 0⟩, ⟨some 139, (.app 23 23 (.t 136) (.t 138)), 23, none, 0⟩, ⟨some 140, (.faddr 27 (.t 7) 0), 0, none, 0⟩, ⟨none, (.store 23 (.t 140) (.t 139)), 0, none, 0⟩] (some [2, 3, 4, 5, 6, 7, 8])))))))
      (.region false [⟨some 26, (.mv (.t 8)), 3, none, 0⟩, ⟨some 27, (.bin .add 3 (.t 26) (.c (.int .i64 1))), 3, none, 0⟩, ⟨some 8, (.mv (.t 27)), 3, none, 0⟩] (some [2, 3, 4, 5, 6, 7, 8]))))
def fa_199 : FnA := ⟨142, [.c 4 27],
  (.seq
    (.region false [⟨some 2, (.box 27 (.t 0)), 0, none, 0⟩, ⟨some 3, (.box 27 (.t 1)), 0, none, 0⟩, ⟨some 4, (.alloc 27), 0, none, 0⟩] (some [2, 3, 4]))
    (.seq
      (.region false [⟨some 13, (.faddr 27 (.t 2) 0), 0, none, 0⟩, ⟨some 14, (.load 23 (.t 13)), 23, none, 0⟩, ⟨some 15, (.len 23 (.t 14)), 3, none, 0⟩, ⟨some 16, (.bin .sub 3 (.t 15) (.c (.int .i64 1))), 3, none, 0⟩, ⟨some 5, (.mv (.t 16)), 3, none, 0⟩] (some [2, 3, 4, 5]))
      (.seq
        (.region false [⟨some 17, (.mv (.t 5)), 3, none, 0⟩, ⟨some 18, (.faddr 27 (.t 3) 0), 0, none, 0⟩, ⟨some 19, (.load 23 (.t 18)), 23, none, 0⟩, ⟨some 20, (.len 23 (.t 19)), 3, none, 0⟩, ⟨some 21, (.bin .add 3 (.t 17) (.t 20)), 3, none, 0⟩, ⟨some 6, (.mv (.t 21)), 3, none, 0⟩] (some [2, 3, 4, 5, 6]))
        (.seq
          (.region false [⟨some 22, (.build 27 []), 27, none, 0⟩, ⟨some 7, (.alloc 27), 0, none, 0⟩, ⟨none, (.store 27 (.t 7) (.t 22)), 0, none, 0⟩] (some [2, 3, 4, 5, 6, 7]))
          (.seq
            (.seq
              (.region false [⟨some 8, (.mv (.c (.int .i64 0))), 3, none, 0⟩] (some [2, 3, 4, 5, 6, 7, 8]))
              (.block 0
                (.loop [2, 3, 4, 5, 6, 7, 8] [32, 56, 1064, 1112] lb_199_5)))
            (.seq
              (.region false [⟨some 141, (.load 27 (.t 7)), 27, none, 0⟩, ⟨none, (.store 27 (.t 4) (.t 141)), 0, none, 0⟩] (some [4]))
              .ret))))))⟩
theorem fok_199 : FnOk Try.prog 199 fa_199 an_199 := ⟨Try.f199, _, Try.func199, rfl, by kernel_rfl, rfl, rfl, by decide, by kernel_rfl⟩
/-- spec.CrossAlgebras -/
def an_195 : Ann := ⟨[(1, 1, 3), (1, 5, 3), (3, 4, 1), (8, 0, 1), (13, 3, 2)], [(0, [2, 3, 4]), (1, [2, 3, 4, 28]), (2, [4, 5]), (3, [2, 3, 4, 6]), (4, [2, 3, 4, 6, 7]), (5, [2, 3, 4, 6, 7, 8]), (6, [2, 3, 4, 6, 7, 8, 43]), (8, [2, 3, 4, 6, 7, 8, 9]), (9, [2, 3, 4, 6, 7, 8, 9, 10]), (10, [2, 3, 4, 6, 7, 8, 9, 10, 51]), (12, [2, 3, 4, 6, 7, 8, 9, 10]), (11, [2, 3, 4, 6, 7, 8, 9, 10]), (13, [2, 3, 4, 6, 7, 8]), (7, [2, 3, 4, 6, 7, 8]), (14, [4, 5])], [(6, [2, 3, 4, 6, 7, 8], [32, 48, 272, 273, 274, 275, 276, 277, 278, 279, 704]), (10, [2, 3, 4, 6, 7, 8, 9, 10], [32, 48, 272, 273, 274, 275, 276, 277, 278, 279, 368, 664, 704])], []⟩
def lb_195_10 : AC :=
  (.seq
    (.seq
      (.region false [⟨some 47, (.mv (.t 10)), 3, none, 0⟩, ⟨some 48, (.faddr 27 (.t 6) 0), 0, none, 0⟩, ⟨some 49, (.load 23 (.t 48)), 23, none, 0⟩, ⟨some 50, (.len 23 (.t 49)), 3, none, 0⟩, ⟨some 51, (.bin .lss 3 (.t 47) (.t 50)), 4, none, 0⟩] (some [2, 3, 4, 6, 7, 8, 9, 10, 51]))
      (.cond (.t 51)
        .skip
        (.exit 2)))
    (.seq
      (.block 3
        (.region true (seg [2, 3, 4, 6, 7, 8, 10, 54, 61, 62, 63] [⟨some 54, (.mv (.t 9)), 23, none, 0⟩, ⟨some 55, (.faddr 27 (.t 2) 1), 0, none, 0⟩, ⟨some 56, (.load 25 (.t 55)), 25, none, 0⟩, ⟨some 57, (.mv (.t 8)), 3, none, 0⟩, ⟨some 58, (.mv (.t 7)), 3, none, 0⟩, ⟨some 59, (.bin .quo 3 (.t 57) (.t 58)), 3, none, 0⟩, ⟨some 60, (.iaddr 25 (.t 56) (.t 59)), 0, none, 0⟩, ⟨some 61, (.load 23 (.t 60)), 23, none, 0⟩, ⟨some 62, (.mv (.t 10)), 3, none, 0⟩, ⟨some 63, (.mv (.t 7)), 3, none, 0⟩]
        (seg [2, 3, 4, 6, 7, 8, 10, 54, 68, 70, 73] [⟨some 64, (.bin .quo 3 (.t 62) (.t 63)), 3, none, 0⟩, ⟨some 65, (.iaddr 23 (.t 61) (.t 64)), 0, none, 0⟩, ⟨some 66, (.load 3 (.t 65)), 3, none, 0⟩, ⟨some 67, (.mv (.t 7)), 3, none, 0⟩, ⟨some 68, (.bin .mul 3 (.t 66) (.t 67)), 3, none, 0⟩, ⟨some 69, (.faddr 27 (.t 3) 1), 0, none, 0⟩, ⟨some 70, (.load 25 (.t 69)), 25, none, 0⟩, ⟨some 71, (.mv (.t 8)), 3, none, 0⟩, ⟨some 72, (.mv (.t 7)), 3, none, 0⟩, ⟨some 73, (.bin .rem 3 (.t 71) (.t 72)), 3, none, 0⟩]
        [⟨some 74, (.iaddr 25 (.t 70) (.t 73)), 0, none, 0⟩, ⟨some 75, (.load 23 (.t 74)), 23, none, 0⟩, ⟨some 76, (.mv (.t 10)), 3, none, 0⟩, ⟨some 77, (.mv (.t 7)), 3, none, 0⟩, ⟨some 78, (.bin .rem 3 (.t 76) (.t 77)), 3, none, 0⟩, ⟨some 79, (.iaddr 23 (.t 75) (.t 78)), 0, none, 0⟩, ⟨some 80, (.load 3 (.t 79)), 3, none, 0⟩, ⟨some 81, (.bin .add 3 (.t 68) (.t 80)), 3, none, 0⟩, ⟨some 82, (.bslice 23 1 [(0, (.t 81))]), 23, none, 0⟩, ⟨some 83, (.app 23 23 (.t 54) (.t 82)), 23, none, 0⟩, ⟨some 9, (.mv (.t 83)), 23, none, 0⟩] [2, 3, 4, 6, 7, 8, 9, 10] (by decide)) [2, 3, 4, 6, 7, 8, 9, 10] (by decide)) (some [2, 3, 4, 6, 7, 8, 9, 10])))
      (.region false [⟨some 52, (.mv (.t 10)), 3, none, 0⟩, ⟨some 53, (.bin .add 3 (.t 52) (.c (.int .i64 1))), 3, none, 0⟩, ⟨some 10, (.mv (.t 53)), 3, none, 0⟩] (some [2, 3, 4, 6, 7, 8, 9, 10]))))
def lb_195_6 : AC :=
  (.seq
    (.seq
      (.region false [⟨some 39, (.mv (.t 8)), 3, none, 0⟩, ⟨some 40, (.faddr 27 (.t 6) 0), 0, none, 0⟩, ⟨some 41, (.load 23 (.t 40)), 23, none, 0⟩, ⟨some 42, (.len 23 (.t 41)), 3, none, 0⟩, ⟨some 43, (.bin .lss 3 (.t 39) (.t 42)), 4, none, 0⟩] (some [2, 3, 4, 6, 7, 8, 43]))
      (.cond (.t 43)
        .skip
        (.exit 0)))
    (.seq
      (.block 1
        (.seq
          (.region false [⟨some 46, (.bslice 23 0 []), 23, none, 1⟩, ⟨some 9, (.mv (.t 46)), 23, none, 0⟩] (some [2, 3, 4, 6, 7, 8, 9]))
          (.seq
            (.seq
              (.region false [⟨some 10, (.mv (.c (.int .i64 0))), 3, none, 0⟩] (some [2, 3, 4, 6, 7, 8, 9, 10]))
              (.block 2
                (.loop [2, 3, 4, 6, 7, 8, 9, 10] [32, 48, 272, 273, 274, 275, 276, 277, 278, 279, 368, 664, 704] lb_195_10)))
            (.region false [⟨some 84, (.faddr 27 (.t 6) 1), 0, none, 0⟩, ⟨some 85, (.load 25 (.t 84)), 25, none, 0⟩, ⟨some 86, (.mv (.t 9)), 23, none, 0⟩, ⟨some 87, (.bslice 25 1 [(0, (.t 86))]), 25, none, 2⟩, ⟨some 88, (.app 25 25 (.t 85) (.t 87)), 25, none, 0⟩, ⟨some 89, (.faddr 27 (.t 6) 1), 0, none, 0⟩, ⟨none, (.store 25 (.t 89) (.t 88)), 0, none, 0⟩] (some [2, 3, 4, 6, 7, 8])))))
      (.region false [⟨some 44, (.mv (.t 8)), 3, none, 0⟩, ⟨some 45, (.bin .add 3 (.t 44) (.c (.int .i64 1))), 3, none, 0⟩, ⟨some 8, (.mv (.t 45)), 3, none, 0⟩] (some [2, 3, 4, 6, 7, 8]))))
def fa_195 : FnA := ⟨91, [.c 4 27, .t 5],
  (.seq
    (.region false [⟨some 2, (.box 27 (.t 0)), 0, none, 0⟩, ⟨some 3, (.box 27 (.t 1)), 0, none, 0⟩, ⟨some 4, (.alloc 27), 0, none, 0⟩, ⟨some 5, (.mv (.c (.bool false))), 4, none, 0⟩] (some [2, 3, 4]))
    (.seq
      (.seq
        (.region false (gops [⟨some 11, (.load 27 (.t 2)), 27, none, 0⟩, ⟨some 12, (.call (.f 111) [(.t 11)]), 4, none, 3⟩, ⟨some 13, (.un .not (.t 12)), 4, none, 0⟩, ⟨some 14, (.mv (.t 13)), 4, none, 0⟩, ⟨some 15, (.load 27 (.t 3)), 27, some (14, false), 0⟩, ⟨some 16, (.call (.f 111) [(.t 15)]), 4, some (14, false), 3⟩, ⟨some 17, (.un .not (.t 16)), 4, some (14, false), 0⟩, ⟨some 18, (.pick (.t 14) (.c (.bool true)) (.t 17)), 4, none, 0⟩, ⟨some 19, (.mv (.t 18)), 4, none, 0⟩, ⟨some 20, (.faddr 27 (.t 2) 0), 0, some (19, false), 0⟩, ⟨some 21, (.load 23 (.t 20)), 23, some (19, false), 0⟩, ⟨some 22, (.len 23 (.t 21)), 3, some (19, false), 0⟩, ⟨some 23, (.faddr 27 (.t 3) 0), 0, some (19, false), 0⟩, ⟨some 24, (.load 23 (.t 23)), 23, some (19, false), 0⟩, ⟨some 25, (.len 23 (.t 24)), 3, some (19, false), 0⟩, ⟨some 26, (.bin .mul 3 (.t 22) (.t 25)), 3, some (19, false), 0⟩, ⟨some 27, (.bin .gtr 3 (.t 26) (.c (.int .i64 6))), 4, some (19, false), 0⟩, ⟨some 28, (.pick (.t 19) (.c (.bool true)) (.t 27)), 4, none, 0⟩]) (some [2, 3, 4, 28]))
        (.cond (.t 28)
          (.seq
            (.region false [⟨some 29, (.build 27 []), 27, none, 0⟩, ⟨none, (.store 27 (.t 4) (.t 29)), 0, none, 0⟩, ⟨some 5, (.mv (.c (.bool false))), 4, none, 0⟩] (some [4, 5]))
            .ret)
          .skip))
      (.seq
        (.region false [⟨some 30, (.faddr 27 (.t 2) 0), 0, none, 0⟩, ⟨some 31, (.load 23 (.t 30)), 23, none, 0⟩, ⟨some 32, (.faddr 27 (.t 3) 0), 0, none, 0⟩, ⟨some 33, (.load 23 (.t 32)), 23, none, 0⟩, ⟨some 34, (.call (.f 190) [(.t 31), (.t 33)]), 23, none, 1⟩, ⟨some 35, (.build 27 [(0, (.t 34))]), 27, none, 0⟩, ⟨some 6, (.alloc 27), 0, none, 0⟩, ⟨none, (.store 27 (.t 6) (.t 35)), 0, none, 0⟩] (some [2, 3, 4, 6]))
        (.seq
          (.region false [⟨some 36, (.faddr 27 (.t 3) 0), 0, none, 0⟩, ⟨some 37, (.load 23 (.t 36)), 23, none, 0⟩, ⟨some 38, (.len 23 (.t 37)), 3, none, 0⟩, ⟨some 7, (.mv (.t 38)), 3, none, 0⟩] (some [2, 3, 4, 6, 7]))
          (.seq
            (.seq
              (.region false [⟨some 8, (.mv (.c (.int .i64 0))), 3, none, 0⟩] (some [2, 3, 4, 6, 7, 8]))
              (.block 0
                (.loop [2, 3, 4, 6, 7, 8] [32, 48, 272, 273, 274, 275, 276, 277, 278, 279, 704] lb_195_6)))
            (.seq
              (.region false [⟨some 90, (.load 27 (.t 6)), 27, none, 0⟩, ⟨none, (.store 27 (.t 4) (.t 90)), 0, none, 0⟩, ⟨some 5, (.mv (.c (.bool true))), 4, none, 0⟩] (some [4, 5]))
              .ret))))))⟩
theorem fok_195 : FnOk Try.prog 195 fa_195 an_195 := ⟨Try.f195, _, Try.func195, rfl, by kernel_rfl, rfl, rfl, by decide, by kernel_rfl⟩
/-- spec.StackAlgebras -/
def an_196 : Ann := ⟨[(1, 1, 3), (1, 5, 3), (3, 2, 1)], [(0, [2, 3, 4]), (1, [2, 3, 4, 24]), (2, [4, 5]), (3, [4, 5])], [], []⟩
def fa_196 : FnA := ⟨29, [.c 4 27, .t 5],
  (.seq
    (.region false [⟨some 2, (.box 27 (.t 0)), 0, none, 0⟩, ⟨some 3, (.box 27 (.t 1)), 0, none, 0⟩, ⟨some 4, (.alloc 27), 0, none, 0⟩, ⟨some 5, (.mv (.c (.bool false))), 4, none, 0⟩] (some [2, 3, 4]))
    (.seq
      (.seq
        (.region false (gops (seg [2, 3, 4, 14, 15] [⟨some 6, (.load 27 (.t 2)), 27, none, 0⟩, ⟨some 7, (.call (.f 111) [(.t 6)]), 4, none, 3⟩, ⟨some 8, (.un .not (.t 7)), 4, none, 0⟩, ⟨some 9, (.mv (.t 8)), 4, none, 0⟩, ⟨some 10, (.load 27 (.t 3)), 27, some (9, false), 0⟩, ⟨some 11, (.call (.f 111) [(.t 10)]), 4, some (9, false), 3⟩, ⟨some 12, (.un .not (.t 11)), 4, some (9, false), 0⟩, ⟨some 13, (.pick (.t 9) (.c (.bool true)) (.t 12)), 4, none, 0⟩, ⟨some 14, (.mv (.t 13)), 4, none, 0⟩, ⟨some 15, (.faddr 27 (.t 2) 0), 0, some (14, false), 0⟩]
        [⟨some 16, (.load 23 (.t 15)), 23, some (14, false), 0⟩, ⟨some 17, (.len 23 (.t 16)), 3, some (14, false), 0⟩, ⟨some 18, (.faddr 27 (.t 3) 0), 0, some (14, false), 0⟩, ⟨some 19, (.load 23 (.t 18)), 23, some (14, false), 0⟩, ⟨some 20, (.len 23 (.t 19)), 3, some (14, false), 0⟩, ⟨some 21, (.bin .add 3 (.t 17) (.t 20)), 3, some (14, false), 0⟩, ⟨some 22, (.bin .sub 3 (.t 21) (.c (.int .i64 1))), 3, some (14, false), 0⟩, ⟨some 23, (.bin .gtr 3 (.t 22) (.c (.int .i64 6))), 4, some (14, false), 0⟩, ⟨some 24, (.pick (.t 14) (.c (.bool true)) (.t 23)), 4, none, 0⟩] [2, 3, 4, 24] (by decide))) (some [2, 3, 4, 24]))
        (.cond (.t 24)
          (.seq
            (.region false [⟨some 25, (.build 27 []), 27, none, 0⟩, ⟨none, (.store 27 (.t 4) (.t 25)), 0, none, 0⟩, ⟨some 5, (.mv (.c (.bool false))), 4, none, 0⟩] (some [4, 5]))
            .ret)
          .skip))
      (.seq
        (.region false [⟨some 26, (.load 27 (.t 2)), 27, none, 0⟩, ⟨some 27, (.load 27 (.t 3)), 27, none, 0⟩, ⟨some 28, (.call (.f 199) [(.t 26), (.t 27)]), 27, none, 1⟩, ⟨none, (.store 27 (.t 4) (.t 28)), 0, none, 0⟩, ⟨some 5, (.mv (.c (.bool true))), 4, none, 0⟩] (some [4, 5]))
        .ret)))⟩
theorem fok_196 : FnOk Try.prog 196 fa_196 an_196 := ⟨Try.f196, _, Try.func196, rfl, by kernel_rfl, rfl, rfl, by decide, by kernel_rfl⟩
/-- spec.copyTable -/
def an_194 : Ann := ⟨[(1, 0, 1), (5, 1, 1), (5, 7, 2)], [(0, [0]), (1, [0, 3]), (2, [0, 3, 4]), (3, [0, 3, 4, 9]), (5, [0, 3, 4]), (4, [0, 3, 4]), (6, [2])], [(3, [0, 3, 4], [40, 160])], []⟩
def lb_194_3 : AC :=
  (.seq
    (.seq
      (.region false [⟨some 6, (.mv (.t 4)), 3, none, 0⟩, ⟨some 7, (.mv (.t 0)), 25, none, 0⟩, ⟨some 8, (.len 25 (.t 7)), 3, none, 0⟩, ⟨some 9, (.bin .lss 3 (.t 6) (.t 8)), 4, none, 0⟩] (some [0, 3, 4, 9]))
      (.cond (.t 9)
        .skip
        (.exit 0)))
    (.seq
      (.block 1
        (.region false [⟨some 12, (.mv (.t 3)), 25, none, 0⟩, ⟨some 13, (.bslice 23 0 []), 23, none, 1⟩, ⟨some 14, (.mv (.t 0)), 25, none, 0⟩, ⟨some 15, (.mv (.t 4)), 3, none, 0⟩, ⟨some 16, (.iaddr 25 (.t 14) (.t 15)), 0, none, 0⟩, ⟨some 17, (.load 23 (.t 16)), 23, none, 0⟩, ⟨some 18, (.app 23 23 (.t 13) (.t 17)), 23, none, 0⟩, ⟨some 19, (.bslice 25 1 [(0, (.t 18))]), 25, none, 2⟩, ⟨some 20, (.app 25 25 (.t 12) (.t 19)), 25, none, 0⟩, ⟨some 3, (.mv (.t 20)), 25, none, 0⟩] (some [0, 3, 4])))
      (.region false [⟨some 10, (.mv (.t 4)), 3, none, 0⟩, ⟨some 11, (.bin .add 3 (.t 10) (.c (.int .i64 1))), 3, none, 0⟩, ⟨some 4, (.mv (.t 11)), 3, none, 0⟩] (some [0, 3, 4]))))
def fa_194 : FnA := ⟨22, [.t 2],
  (.seq
    (.region false [⟨some 2, (.mv (.c .nil)), 25, none, 0⟩] (some [0]))
    (.seq
      (.region false [⟨some 5, (.bslice 25 0 []), 25, none, 1⟩, ⟨some 3, (.mv (.t 5)), 25, none, 0⟩] (some [0, 3]))
      (.seq
        (.seq
          (.region false [⟨some 4, (.mv (.c (.int .i64 0))), 3, none, 0⟩] (some [0, 3, 4]))
          (.block 0
            (.loop [0, 3, 4] [40, 160] lb_194_3)))
        (.seq
          (.region false [⟨some 21, (.mv (.t 3)), 25, none, 0⟩, ⟨some 2, (.mv (.t 21)), 25, none, 0⟩] (some [2]))
          .ret))))⟩
theorem fok_194 : FnOk Try.prog 194 fa_194 an_194 := ⟨Try.f194, _, Try.func194, rfl, by kernel_rfl, rfl, rfl, by decide, by kernel_rfl⟩
/-- spec.fill -/
def an_203 : Ann := ⟨[(2, 1, 3), (2, 3, 3), (3, 1, 3), (7, 6, 3), (8, 0, 1), (13, 1, 1), (14, 3, 1), (15, 3, 1), (16, 2, 2), (16, 6, 3), (17, 0, 2)], [(0, [0, 1, 2, 3]), (1, [0, 1, 2, 3, 16]), (2, [9]), (3, [9, 23]), (4, [8]), (5, [8]), (6, [0, 1, 2, 3, 31]), (7, [8]), (8, [0, 1, 2, 3, 10]), (9, [0, 1, 2, 3, 10, 11]), (10, [0, 1, 2, 3, 10, 11, 44]), (12, [0, 1, 2, 3, 10, 11, 68]), (13, [0, 1, 2, 3, 10, 11, 12]), (14, [0, 1, 2, 3, 10, 11, 12]), (15, [0, 1, 2, 3, 10, 11, 12]), (16, [0, 1, 2, 3, 10, 11]), (11, [0, 1, 2, 3, 10, 11]), (17, [8])], [(10, [0, 1, 2, 3, 10, 11], [312, 736])], []⟩
def lb_203_10 : AC :=
  (.seq
    (.seq
      (.region false [⟨some 40, (.mv (.t 11)), 3, none, 0⟩, ⟨some 41, (.mv (.t 2)), 3, none, 0⟩, ⟨some 42, (.mv (.t 3)), 3, none, 0⟩, ⟨some 43, (.min (.t 41) (.t 42)), 3, none, 0⟩, ⟨some 44, (.bin .leq 3 (.t 40) (.t 43)), 4, none, 0⟩] (some [0, 1, 2, 3, 10, 11, 44]))
      (.cond (.t 44)
        .skip
        (.exit 0)))
    (.seq
      (.block 1
        (.seq
          (.region false (gops (seg [0, 1, 2, 3, 10, 11, 56] [⟨some 47, (.mv (.t 11)), 3, none, 0⟩, ⟨some 48, (.mv (.t 1)), 25, none, 0⟩, ⟨some 49, (.mv (.t 2)), 3, none, 0⟩, ⟨some 50, (.bin .sub 3 (.t 49) (.c (.int .i64 1))), 3, none, 0⟩, ⟨some 51, (.iaddr 25 (.t 48) (.t 50)), 0, none, 0⟩, ⟨some 52, (.load 23 (.t 51)), 23, none, 0⟩, ⟨some 53, (.mv (.t 3)), 3, none, 0⟩, ⟨some 54, (.iaddr 23 (.t 52) (.t 53)), 0, none, 0⟩, ⟨some 55, (.load 3 (.t 54)), 3, none, 0⟩, ⟨some 56, (.bin .geq 3 (.t 47) (.t 55)), 4, none, 0⟩]
          [⟨some 57, (.mv (.t 56)), 4, none, 0⟩, ⟨some 58, (.mv (.t 11)), 3, some (57, true), 0⟩, ⟨some 59, (.mv (.t 1)), 25, some (57, true), 0⟩, ⟨some 60, (.mv (.t 2)), 3, some (57, true), 0⟩, ⟨some 61, (.iaddr 25 (.t 59) (.t 60)), 0, some (57, true), 0⟩, ⟨some 62, (.load 23 (.t 61)), 23, some (57, true), 0⟩, ⟨some 63, (.mv (.t 3)), 3, some (57, true), 0⟩, ⟨some 64, (.bin .sub 3 (.t 63) (.c (.int .i64 1))), 3, some (57, true), 0⟩, ⟨some 65, (.iaddr 23 (.t 62) (.t 64)), 0, some (57, true), 0⟩, ⟨some 66, (.load 3 (.t 65)), 3, some (57, true), 0⟩, ⟨some 67, (.bin .geq 3 (.t 58) (.t 66)), 4, some (57, true), 0⟩, ⟨some 68, (.pick (.t 57) (.t 67) (.c (.bool false))), 4, none, 0⟩] [0, 1, 2, 3, 10, 11, 68] (by decide))) (some [0, 1, 2, 3, 10, 11, 68]))
          (.cond (.t 68)
            (.seq
              (.region false [⟨some 69, (.mv (.t 1)), 25, none, 0⟩, ⟨some 70, (.call (.f 194) [(.t 69)]), 25, none, 1⟩, ⟨some 12, (.mv (.t 70)), 25, none, 0⟩] (some [0, 1, 2, 3, 10, 11, 12]))
              (.seq
                (.region false [⟨some 71, (.mv (.t 12)), 25, none, 0⟩, ⟨some 72, (.mv (.t 2)), 3, none, 0⟩, ⟨some 73, (.iaddr 25 (.t 71) (.t 72)), 0, none, 0⟩, ⟨some 74, (.load 23 (.t 73)), 23, none, 1⟩, ⟨some 75, (.mv (.t 3)), 3, none, 0⟩, ⟨some 76, (.mv (.t 11)), 3, none, 0⟩, ⟨some 77, (.iaddr 23 (.t 74) (.t 75)), 0, none, 0⟩, ⟨none, (.store 3 (.t 77) (.t 76)), 0, none, 0⟩] (some [0, 1, 2, 3, 10, 11, 12]))
                (.seq
                  (.region false [⟨some 78, (.mv (.t 12)), 25, none, 0⟩, ⟨some 79, (.mv (.t 3)), 3, none, 0⟩, ⟨some 80, (.iaddr 25 (.t 78) (.t 79)), 0, none, 0⟩, ⟨some 81, (.load 23 (.t 80)), 23, none, 1⟩, ⟨some 82, (.mv (.t 2)), 3, none, 0⟩, ⟨some 83, (.mv (.t 11)), 3, none, 0⟩, ⟨some 84, (.iaddr 23 (.t 81) (.t 82)), 0, none, 0⟩, ⟨none, (.store 3 (.t 84) (.t 83)), 0, none, 0⟩] (some [0, 1, 2, 3, 10, 11, 12]))
                  (.region false [⟨some 85, (.mv (.t 10)), 134, none, 0⟩, ⟨some 86, (.mv (.t 0)), 3, none, 0⟩, ⟨some 87, (.mv (.t 12)), 25, none, 2⟩, ⟨some 88, (.mv (.t 2)), 3, none, 0⟩, ⟨some 89, (.mv (.t 3)), 3, none, 0⟩, ⟨some 90, (.bin .add 3 (.t 89) (.c (.int .i64 1))), 3, none, 0⟩, ⟨some 91, (.call (.f 203) [(.t 86), (.t 87), (.t 88), (.t 90)]), 134, none, 3⟩, ⟨some 92, (.app 134 134 (.t 85) (.t 91)), 134, none, 0⟩, ⟨some 10, (.mv (.t 92)), 134, none, 0⟩] (some [0, 1, 2, 3, 10, 11])))))
            .skip)))
      (.region false [⟨some 45, (.mv (.t 11)), 3, none, 0⟩, ⟨some 46, (.bin .add 3 (.t 45) (.c (.int .i64 1))), 3, none, 0⟩, ⟨some 11, (.mv (.t 46)), 3, none, 0⟩] (some [0, 1, 2, 3, 10, 11]))))
def fa_203 : FnA := ⟨94, [.t 8],
  (.seq
    (.region false [⟨some 8, (.mv (.c .nil)), 134, none, 0⟩] (some [0, 1, 2, 3]))
    (.seq
      (.seq
        (.region false [⟨some 13, (.mv (.t 2)), 3, none, 0⟩, ⟨some 14, (.mv (.t 0)), 3, none, 0⟩, ⟨some 15, (.bin .sub 3 (.t 14) (.c (.int .i64 1))), 3, none, 0⟩, ⟨some 16, (.bin .eql 3 (.t 13) (.t 15)), 4, none, 0⟩] (some [0, 1, 2, 3, 16]))
        (.cond (.t 16)
          (.seq
            (.region false [⟨some 17, (.mv (.t 0)), 3, none, 0⟩, ⟨some 18, (.call (.f 189) [(.t 17)]), 23, none, 3⟩, ⟨some 19, (.mv (.t 1)), 25, none, 0⟩, ⟨some 20, (.call (.f 194) [(.t 19)]), 25, none, 3⟩, ⟨some 21, (.build 27 [(0, (.t 18)), (1, (.t 20))]), 27, none, 0⟩, ⟨some 9, (.alloc 27), 0, none, 0⟩, ⟨none, (.store 27 (.t 9) (.t 21)), 0, none, 0⟩] (some [9]))
            (.seq
              (.seq
                (.region false [⟨some 22, (.load 27 (.t 9)), 27, none, 0⟩, ⟨some 23, (.call (.f 111) [(.t 22)]), 4, none, 3⟩] (some [9, 23]))
                (.cond (.t 23)
                  (.seq
                    (.region false [⟨some 24, (.faddr 27 (.t 9) 1), 0, none, 0⟩, ⟨some 25, (.load 25 (.t 24)), 25, none, 0⟩, ⟨some 26, (.bslice 134 1 [(0, (.t 25))]), 134, none, 0⟩, ⟨some 8, (.mv (.t 26)), 134, none, 0⟩] (some [8]))
                    .ret)
                  .skip))
              (.seq
                (.region false [⟨some 27, (.bslice 134 0 []), 134, none, 0⟩, ⟨some 8, (.mv (.t 27)), 134, none, 0⟩] (some [8]))
                .ret)))
          .skip))
      (.seq
        (.seq
          (.region false [⟨some 28, (.mv (.t 3)), 3, none, 0⟩, ⟨some 29, (.mv (.t 0)), 3, none, 0⟩, ⟨some 30, (.bin .sub 3 (.t 29) (.c (.int .i64 1))), 3, none, 0⟩, ⟨some 31, (.bin .eql 3 (.t 28) (.t 30)), 4, none, 0⟩] (some [0, 1, 2, 3, 31]))
          (.cond (.t 31)
            (.seq
              (.region false [⟨some 32, (.mv (.t 0)), 3, none, 0⟩, ⟨some 33, (.mv (.t 1)), 25, none, 0⟩, ⟨some 34, (.mv (.t 2)), 3, none, 0⟩, ⟨some 35, (.bin .add 3 (.t 34) (.c (.int .i64 1))), 3, none, 0⟩, ⟨some 36, (.mv (.t 2)), 3, none, 0⟩, ⟨some 37, (.bin .add 3 (.t 36) (.c (.int .i64 1))), 3, none, 0⟩, ⟨some 38, (.call (.f 203) [(.t 32), (.t 33), (.t 35), (.t 37)]), 134, none, 3⟩, ⟨some 8, (.mv (.t 38)), 134, none, 0⟩] (some [8]))
              .ret)
            .skip))
        (.seq
          (.region false [⟨some 39, (.bslice 134 0 []), 134, none, 1⟩, ⟨some 10, (.mv (.t 39)), 134, none, 0⟩] (some [0, 1, 2, 3, 10]))
          (.seq
            (.seq
              (.region false [⟨some 11, (.mv (.c (.int .i64 0))), 3, none, 0⟩] (some [0, 1, 2, 3, 10, 11]))
              (.block 0
                (.loop [0, 1, 2, 3, 10, 11] [312, 736] lb_203_10)))
            (.seq
              (.region false [⟨some 93, (.mv (.t 10)), 134, none, 2⟩, ⟨some 8, (.mv (.t 93)), 134, none, 0⟩] (some [8]))
              .ret))))))⟩
theorem fok_203 : FnOk Try.prog 203 fa_203 an_203 := ⟨Try.f203, _, Try.func203, rfl, by kernel_rfl, rfl, rfl, by decide, by kernel_rfl⟩
/-- spec.chains -/
def an_200 : Ann := ⟨[(1, 0, 1), (12, 2, 2), (13, 0, 2), (15, 2, 3), (16, 0, 1), (20, 2, 3), (21, 0, 2)], [(0, [0]), (1, [0, 3]), (2, [0, 3, 4]), (3, [0, 3, 4, 13]), (5, [0, 3, 4, 5]), (6, [0, 3, 4, 5]), (7, [0, 3, 4, 5, 26]), (8, [0, 3, 4, 5, 6]), (9, [0, 3, 4, 5, 6, 29]), (11, [0, 3, 4, 5, 6]), (10, [0, 3, 4, 5, 6]), (12, [0, 3, 4]), (4, [0, 3, 4]), (13, [0, 3, 7]), (14, [0, 3, 7, 43]), (15, [0, 7]), (16, [0, 7, 8]), (17, [0, 7, 8, 9]), (18, [0, 7, 8, 9, 51]), (20, [0, 7, 8, 9]), (19, [0, 7, 8, 9]), (21, [2])], [(3, [0, 3, 4], [80, 312]), (9, [0, 3, 4, 5, 6], [80, 136, 312]), (18, [0, 7, 8, 9], [80, 312, 376, 504])], []⟩
def lb_200_9 : AC :=
  (.seq
    (.seq
      (.region false [⟨some 27, (.mv (.t 6)), 3, none, 0⟩, ⟨some 28, (.mv (.t 0)), 3, none, 0⟩, ⟨some 29, (.bin .lss 3 (.t 27) (.t 28)), 4, none, 0⟩] (some [0, 3, 4, 5, 6, 29]))
      (.cond (.t 29)
        .skip
        (.exit 2)))
    (.seq
      (.block 3
        (.region false [⟨some 32, (.mv (.t 5)), 23, none, 0⟩, ⟨some 33, (.mv (.t 6)), 3, none, 0⟩, ⟨some 34, (.mv (.t 6)), 3, none, 0⟩, ⟨some 35, (.iaddr 23 (.t 32) (.t 33)), 0, none, 0⟩, ⟨none, (.store 3 (.t 35) (.t 34)), 0, none, 0⟩] (some [0, 3, 4, 5, 6])))
      (.region false [⟨some 30, (.mv (.t 6)), 3, none, 0⟩, ⟨some 31, (.bin .add 3 (.t 30) (.c (.int .i64 1))), 3, none, 0⟩, ⟨some 6, (.mv (.t 31)), 3, none, 0⟩] (some [0, 3, 4, 5, 6]))))
def lb_200_3 : AC :=
  (.seq
    (.seq
      (.region false [⟨some 11, (.mv (.t 4)), 3, none, 0⟩, ⟨some 12, (.mv (.t 0)), 3, none, 0⟩, ⟨some 13, (.bin .lss 3 (.t 11) (.t 12)), 4, none, 0⟩] (some [0, 3, 4, 13]))
      (.cond (.t 13)
        .skip
        (.exit 0)))
    (.seq
      (.block 1
        (.seq
          (.region false [⟨some 16, (.mv (.t 0)), 3, none, 0⟩, ⟨some 17, (.make 23 (.t 16) (.t 16)), 23, none, 0⟩, ⟨some 5, (.mv (.t 17)), 23, none, 0⟩] (some [0, 3, 4, 5]))
          (.seq
            (.region false [⟨some 18, (.mv (.t 5)), 23, none, 0⟩, ⟨some 19, (.mv (.t 0)), 3, none, 0⟩, ⟨some 20, (.bin .sub 3 (.t 19) (.c (.int .i64 1))), 3, none, 0⟩, ⟨some 21, (.mv (.t 4)), 3, none, 0⟩, ⟨some 22, (.iaddr 23 (.t 18) (.t 20)), 0, none, 0⟩, ⟨none, (.store 3 (.t 22) (.t 21)), 0, none, 0⟩] (some [0, 3, 4, 5]))
            (.seq
              (.seq
                (.region false [⟨some 23, (.mv (.t 4)), 3, none, 0⟩, ⟨some 24, (.mv (.t 0)), 3, none, 0⟩, ⟨some 25, (.bin .sub 3 (.t 24) (.c (.int .i64 1))), 3, none, 0⟩, ⟨some 26, (.bin .eql 3 (.t 23) (.t 25)), 4, none, 0⟩] (some [0, 3, 4, 5, 26]))
                (.cond (.t 26)
                  (.seq
                    (.region false [⟨some 6, (.mv (.c (.int .i64 0))), 3, none, 0⟩] (some [0, 3, 4, 5, 6]))
                    (.block 2
                      (.loop [0, 3, 4, 5, 6] [80, 136, 312] lb_200_9)))
                  .skip))
              (.region false [⟨some 36, (.mv (.t 3)), 25, none, 0⟩, ⟨some 37, (.mv (.t 5)), 23, none, 0⟩, ⟨some 38, (.bslice 25 1 [(0, (.t 37))]), 25, none, 2⟩, ⟨some 39, (.app 25 25 (.t 36) (.t 38)), 25, none, 0⟩, ⟨some 3, (.mv (.t 39)), 25, none, 0⟩] (some [0, 3, 4]))))))
      (.region false [⟨some 14, (.mv (.t 4)), 3, none, 0⟩, ⟨some 15, (.bin .add 3 (.t 14) (.c (.int .i64 1))), 3, none, 0⟩, ⟨some 4, (.mv (.t 15)), 3, none, 0⟩] (some [0, 3, 4]))))
def lb_200_18 : AC :=
  (.seq
    (.seq
      (.region false [⟨some 48, (.mv (.t 9)), 3, none, 0⟩, ⟨some 49, (.mv (.t 7)), 134, none, 0⟩, ⟨some 50, (.len 134 (.t 49)), 3, none, 0⟩, ⟨some 51, (.bin .lss 3 (.t 48) (.t 50)), 4, none, 0⟩] (some [0, 7, 8, 9, 51]))
      (.cond (.t 51)
        .skip
        (.exit 4)))
    (.seq
      (.block 5
        (.region true [⟨some 54, (.mv (.t 8)), 128, none, 0⟩, ⟨some 55, (.mv (.t 0)), 3, none, 0⟩, ⟨some 56, (.call (.f 189) [(.t 55)]), 23, none, 3⟩, ⟨some 57, (.mv (.t 7)), 134, none, 0⟩, ⟨some 58, (.mv (.t 9)), 3, none, 0⟩, ⟨some 59, (.iaddr 134 (.t 57) (.t 58)), 0, none, 0⟩, ⟨some 60, (.load 25 (.t 59)), 25, none, 0⟩, ⟨some 61, (.build 27 [(0, (.t 56)), (1, (.t 60))]), 27, none, 0⟩, ⟨some 62, (.bslice 128 1 [(0, (.t 61))]), 128, none, 0⟩, ⟨some 63, (.app 128 128 (.t 54) (.t 62)), 128, none, 0⟩, ⟨some 8, (.mv (.t 63)), 128, none, 0⟩] (some [0, 7, 8, 9])))
      (.region false [⟨some 52, (.mv (.t 9)), 3, none, 0⟩, ⟨some 53, (.bin .add 3 (.t 52) (.c (.int .i64 1))), 3, none, 0⟩, ⟨some 9, (.mv (.t 53)), 3, none, 0⟩] (some [0, 7, 8, 9]))))
def fa_200 : FnA := ⟨65, [.t 2],
  (.seq
    (.region false [⟨some 2, (.mv (.c .nil)), 128, none, 0⟩] (some [0]))
    (.seq
      (.region false [⟨some 10, (.bslice 25 0 []), 25, none, 1⟩, ⟨some 3, (.mv (.t 10)), 25, none, 0⟩] (some [0, 3]))
      (.seq
        (.seq
          (.region false [⟨some 4, (.mv (.c (.int .i64 0))), 3, none, 0⟩] (some [0, 3, 4]))
          (.block 0
            (.loop [0, 3, 4] [80, 312] lb_200_3)))
        (.seq
          (.region false [⟨some 40, (.mv (.t 3)), 25, none, 2⟩, ⟨some 41, (.bslice 134 1 [(0, (.t 40))]), 134, none, 0⟩, ⟨some 7, (.mv (.t 41)), 134, none, 0⟩] (some [0, 3, 7]))
          (.seq
            (.seq
              (.region false [⟨some 42, (.mv (.t 0)), 3, none, 0⟩, ⟨some 43, (.bin .gtr 3 (.t 42) (.c (.int .i64 2))), 4, none, 0⟩] (some [0, 3, 7, 43]))
              (.cond (.t 43)
                (.region false [⟨some 44, (.mv (.t 0)), 3, none, 0⟩, ⟨some 45, (.mv (.t 3)), 25, none, 0⟩, ⟨some 46, (.call (.f 203) [(.t 44), (.t 45), (.c (.int .i64 1)), (.c (.int .i64 1))]), 134, none, 3⟩, ⟨some 7, (.mv (.t 46)), 134, none, 0⟩] (some [0, 7]))
                .skip))
            (.seq
              (.region false [⟨some 47, (.bslice 128 0 []), 128, none, 1⟩, ⟨some 8, (.mv (.t 47)), 128, none, 0⟩] (some [0, 7, 8]))
              (.seq
                (.seq
                  (.region false [⟨some 9, (.mv (.c (.int .i64 0))), 3, none, 0⟩] (some [0, 7, 8, 9]))
                  (.block 4
                    (.loop [0, 7, 8, 9] [80, 312, 376, 504] lb_200_18)))
                (.seq
                  (.region false [⟨some 64, (.mv (.t 8)), 128, none, 2⟩, ⟨some 2, (.mv (.t 64)), 128, none, 0⟩] (some [2]))
                  .ret))))))))⟩
theorem fok_200 : FnOk Try.prog 200 fa_200 an_200 := ⟨Try.f200, _, Try.func200, rfl, by kernel_rfl, rfl, rfl, by decide, by kernel_rfl⟩
/-- spec.chains -/
def an_200b : Ann := ⟨[(1, 0, 1), (12, 2, 2), (13, 1, 2), (15, 1, 2), (15, 2, 3), (16, 0, 1), (20, 2, 3), (21, 0, 2)], [(0, [0]), (1, [0, 3]), (2, [0, 3, 4]), (3, [0, 3, 4, 13]), (5, [0, 3, 4, 5]), (6, [0, 3, 4, 5]), (7, [0, 3, 4, 5, 26]), (8, [0, 3, 4, 5, 6]), (9, [0, 3, 4, 5, 6, 29]), (11, [0, 3, 4, 5, 6]), (10, [0, 3, 4, 5, 6]), (12, [0, 3, 4]), (4, [0, 3, 4]), (13, [0, 3, 7]), (14, [0, 3, 7, 43]), (15, [0, 7]), (16, [0, 7, 8]), (17, [0, 7, 8, 9]), (18, [0, 7, 8, 9, 51]), (20, [0, 7, 8, 9]), (19, [0, 7, 8, 9]), (21, [2])], [(3, [0, 3, 4], [80, 312]), (9, [0, 3, 4, 5, 6], [80, 136, 312]), (18, [0, 7, 8, 9], [80, 312, 376, 504])], []⟩
def lb_200b_9 : AC :=
  (.seq
    (.seq
      (.region false [⟨some 27, (.mv (.t 6)), 3, none, 0⟩, ⟨some 28, (.mv (.t 0)), 3, none, 0⟩, ⟨some 29, (.bin .lss 3 (.t 27) (.t 28)), 4, none, 0⟩] (some [0, 3, 4, 5, 6, 29]))
      (.cond (.t 29)
        .skip
        (.exit 2)))
    (.seq
      (.block 3
        (.region false [⟨some 32, (.mv (.t 5)), 23, none, 0⟩, ⟨some 33, (.mv (.t 6)), 3, none, 0⟩, ⟨some 34, (.mv (.t 6)), 3, none, 0⟩, ⟨some 35, (.iaddr 23 (.t 32) (.t 33)), 0, none, 0⟩, ⟨none, (.store 3 (.t 35) (.t 34)), 0, none, 0⟩] (some [0, 3, 4, 5, 6])))
      (.region false [⟨some 30, (.mv (.t 6)), 3, none, 0⟩, ⟨some 31, (.bin .add 3 (.t 30) (.c (.int .i64 1))), 3, none, 0⟩, ⟨some 6, (.mv (.t 31)), 3, none, 0⟩] (some [0, 3, 4, 5, 6]))))
def lb_200b_3 : AC :=
  (.seq
    (.seq
      (.region false [⟨some 11, (.mv (.t 4)), 3, none, 0⟩, ⟨some 12, (.mv (.t 0)), 3, none, 0⟩, ⟨some 13, (.bin .lss 3 (.t 11) (.t 12)), 4, none, 0⟩] (some [0, 3, 4, 13]))
      (.cond (.t 13)
        .skip
        (.exit 0)))
    (.seq
      (.block 1
        (.seq
          (.region false [⟨some 16, (.mv (.t 0)), 3, none, 0⟩, ⟨some 17, (.make 23 (.t 16) (.t 16)), 23, none, 0⟩, ⟨some 5, (.mv (.t 17)), 23, none, 0⟩] (some [0, 3, 4, 5]))
          (.seq
            (.region false [⟨some 18, (.mv (.t 5)), 23, none, 0⟩, ⟨some 19, (.mv (.t 0)), 3, none, 0⟩, ⟨some 20, (.bin .sub 3 (.t 19) (.c (.int .i64 1))), 3, none, 0⟩, ⟨some 21, (.mv (.t 4)), 3, none, 0⟩, ⟨some 22, (.iaddr 23 (.t 18) (.t 20)), 0, none, 0⟩, ⟨none, (.store 3 (.t 22) (.t 21)), 0, none, 0⟩] (some [0, 3, 4, 5]))
            (.seq
              (.seq
                (.region false [⟨some 23, (.mv (.t 4)), 3, none, 0⟩, ⟨some 24, (.mv (.t 0)), 3, none, 0⟩, ⟨some 25, (.bin .sub 3 (.t 24) (.c (.int .i64 1))), 3, none, 0⟩, ⟨some 26, (.bin .eql 3 (.t 23) (.t 25)), 4, none, 0⟩] (some [0, 3, 4, 5, 26]))
                (.cond (.t 26)
                  (.seq
                    (.region false [⟨some 6, (.mv (.c (.int .i64 0))), 3, none, 0⟩] (some [0, 3, 4, 5, 6]))
                    (.block 2
                      (.loop [0, 3, 4, 5, 6] [80, 136, 312] lb_200b_9)))
                  .skip))
              (.region false [⟨some 36, (.mv (.t 3)), 25, none, 0⟩, ⟨some 37, (.mv (.t 5)), 23, none, 0⟩, ⟨some 38, (.bslice 25 1 [(0, (.t 37))]), 25, none, 2⟩, ⟨some 39, (.app 25 25 (.t 36) (.t 38)), 25, none, 0⟩, ⟨some 3, (.mv (.t 39)), 25, none, 0⟩] (some [0, 3, 4]))))))
      (.region false [⟨some 14, (.mv (.t 4)), 3, none, 0⟩, ⟨some 15, (.bin .add 3 (.t 14) (.c (.int .i64 1))), 3, none, 0⟩, ⟨some 4, (.mv (.t 15)), 3, none, 0⟩] (some [0, 3, 4]))))
def lb_200b_18 : AC :=
  (.seq
    (.seq
      (.region false [⟨some 48, (.mv (.t 9)), 3, none, 0⟩, ⟨some 49, (.mv (.t 7)), 134, none, 0⟩, ⟨some 50, (.len 134 (.t 49)), 3, none, 0⟩, ⟨some 51, (.bin .lss 3 (.t 48) (.t 50)), 4, none, 0⟩] (some [0, 7, 8, 9, 51]))
      (.cond (.t 51)
        .skip
        (.exit 4)))
    (.seq
      (.block 5
        (.region true [⟨some 54, (.mv (.t 8)), 128, none, 0⟩, ⟨some 55, (.mv (.t 0)), 3, none, 0⟩, ⟨some 56, (.call (.f 189) [(.t 55)]), 23, none, 3⟩, ⟨some 57, (.mv (.t 7)), 134, none, 0⟩, ⟨some 58, (.mv (.t 9)), 3, none, 0⟩, ⟨some 59, (.iaddr 134 (.t 57) (.t 58)), 0, none, 0⟩, ⟨some 60, (.load 25 (.t 59)), 25, none, 0⟩, ⟨some 61, (.build 27 [(0, (.t 56)), (1, (.t 60))]), 27, none, 0⟩, ⟨some 62, (.bslice 128 1 [(0, (.t 61))]), 128, none, 0⟩, ⟨some 63, (.app 128 128 (.t 54) (.t 62)), 128, none, 0⟩, ⟨some 8, (.mv (.t 63)), 128, none, 0⟩] (some [0, 7, 8, 9])))
      (.region false [⟨some 52, (.mv (.t 9)), 3, none, 0⟩, ⟨some 53, (.bin .add 3 (.t 52) (.c (.int .i64 1))), 3, none, 0⟩, ⟨some 9, (.mv (.t 53)), 3, none, 0⟩] (some [0, 7, 8, 9]))))
def fa_200b : FnA := ⟨65, [.t 2],
  (.seq
    (.region false [⟨some 2, (.mv (.c .nil)), 128, none, 0⟩] (some [0]))
    (.seq
      (.region false [⟨some 10, (.bslice 25 0 []), 25, none, 1⟩, ⟨some 3, (.mv (.t 10)), 25, none, 0⟩] (some [0, 3]))
      (.seq
        (.seq
          (.region false [⟨some 4, (.mv (.c (.int .i64 0))), 3, none, 0⟩] (some [0, 3, 4]))
          (.block 0
            (.loop [0, 3, 4] [80, 312] lb_200b_3)))
        (.seq
          (.region false [⟨some 40, (.mv (.t 3)), 25, none, 0⟩, ⟨some 41, (.bslice 134 1 [(0, (.t 40))]), 134, none, 2⟩, ⟨some 7, (.mv (.t 41)), 134, none, 0⟩] (some [0, 3, 7]))
          (.seq
            (.seq
              (.region false [⟨some 42, (.mv (.t 0)), 3, none, 0⟩, ⟨some 43, (.bin .gtr 3 (.t 42) (.c (.int .i64 2))), 4, none, 0⟩] (some [0, 3, 7, 43]))
              (.cond (.t 43)
                (.region false [⟨some 44, (.mv (.t 0)), 3, none, 0⟩, ⟨some 45, (.mv (.t 3)), 25, none, 2⟩, ⟨some 46, (.call (.f 203) [(.t 44), (.t 45), (.c (.int .i64 1)), (.c (.int .i64 1))]), 134, none, 3⟩, ⟨some 7, (.mv (.t 46)), 134, none, 0⟩] (some [0, 7]))
                .skip))
            (.seq
              (.region false [⟨some 47, (.bslice 128 0 []), 128, none, 1⟩, ⟨some 8, (.mv (.t 47)), 128, none, 0⟩] (some [0, 7, 8]))
              (.seq
                (.seq
                  (.region false [⟨some 9, (.mv (.c (.int .i64 0))), 3, none, 0⟩] (some [0, 7, 8, 9]))
                  (.block 4
                    (.loop [0, 7, 8, 9] [80, 312, 376, 504] lb_200b_18)))
                (.seq
                  (.region false [⟨some 64, (.mv (.t 8)), 128, none, 2⟩, ⟨some 2, (.mv (.t 64)), 128, none, 0⟩] (some [2]))
                  .ret))))))))⟩
theorem fok_200b : FnOk Try.prog 200 fa_200b an_200b := ⟨Try.f200, _, Try.func200, rfl, by kernel_rfl, rfl, rfl, by decide, by kernel_rfl⟩
/-- spec.algebraOf -/
def an_181 : Ann := ⟨[(1, 2, 16), (2, 1, 16), (4, 1, 3), (6, 1, 3), (6, 2, 3), (9, 3, 16), (10, 1, 3), (10, 6, 3), (10, 7, 3), (13, 0, 3), (13, 6, 16), (13, 8, 3), (13, 9, 3), (13, 10, 3), (14, 2, 3), (15, 4, 16)], [(0, [0, 1, 4]), (1, [0, 1, 4, 5]), (2, [0, 1, 4, 5, 13]), (3, [0, 1, 4, 5, 13, 14]), (4, [4]), (5, [0, 1, 4, 5, 13, 18]), (6, [4]), (7, [0, 1, 4, 5, 13, 23]), (8, [0, 4, 5, 26]), (9, [4, 5, 6]), (10, [4]), (11, [0, 1, 4, 5, 40]), (12, [0, 1, 4, 5, 43]), (13, [4]), (14, [0, 4, 7]), (15, [4])], [], []⟩
def fa_181 : FnA := ⟨65, [.c 4 27],
  (.seq
    (.region false [⟨some 4, (.alloc 27), 0, none, 0⟩] (some [0, 1, 4]))
    (.seq
      (.region false [⟨some 8, (.mv (.t 0)), 72, none, 0⟩, ⟨some 9, (.mv (.t 1)), 3, none, 0⟩, ⟨some 10, (.call (.f 106) [(.t 8), (.t 9)]), 3, none, 16⟩, ⟨some 11, (.bin .add 3 (.c (.int .i64 1)) (.t 10)), 3, none, 0⟩, ⟨some 5, (.mv (.t 11)), 3, none, 0⟩] (some [0, 1, 4, 5]))
      (.seq
        (.seq
          (.region false [⟨some 12, (.mv (.t 0)), 72, none, 0⟩, ⟨some 13, (.call (.f 106) [(.t 12), (.c (.int .i64 6))]), 3, none, 16⟩] (some [0, 1, 4, 5, 13]))
          (.block 0
            (.seq
              (.region false [⟨some 15, (.bin .eql 3 (.t 13) (.c (.int .i64 0))), 4, none, 0⟩, ⟨some 14, (.mv (.t 15)), 4, none, 0⟩] (some [0, 1, 4, 5, 13, 14]))
              (.cond (.t 14)
                (.seq
                  (.region false [⟨some 16, (.mv (.t 5)), 3, none, 0⟩, ⟨some 17, (.call (.f 198) [(.t 16)]), 27, none, 3⟩, ⟨none, (.store 27 (.t 4) (.t 17)), 0, none, 0⟩] (some [4]))
                  .ret)
                (.seq
                  (.region false [⟨some 19, (.bin .eql 3 (.t 13) (.c (.int .i64 1))), 4, none, 0⟩, ⟨some 18, (.mv (.t 19)), 4, none, 0⟩] (some [0, 1, 4, 5, 13, 18]))
                  (.cond (.t 18)
                    (.seq
                      (.region false [⟨some 20, (.mv (.t 5)), 3, none, 0⟩, ⟨some 21, (.call (.f 189) [(.t 20)]), 23, none, 3⟩, ⟨some 22, (.call (.f 98) [(.t 21)]), 27, none, 3⟩, ⟨none, (.store 27 (.t 4) (.t 22)), 0, none, 0⟩] (some [4]))
                      .ret)
                    (.seq
                      (.region false [⟨some 24, (.bin .eql 3 (.t 13) (.c (.int .i64 2))), 4, none, 0⟩, ⟨some 23, (.mv (.t 24)), 4, none, 0⟩] (some [0, 1, 4, 5, 13, 23]))
                      (.cond (.t 23)
                        (.seq
                          (.region false [⟨some 25, (.mv (.t 5)), 3, none, 0⟩, ⟨some 26, (.bin .gtr 3 (.t 25) (.c (.int .i64 2))), 4, none, 0⟩] (some [0, 4, 5, 26]))
                          (.cond (.t 26)
                            (.seq
                              (.region false [⟨some 27, (.mv (.t 0)), 72, none, 0⟩, ⟨some 28, (.mv (.t 5)), 3, none, 0⟩, ⟨some 29, (.bin .sub 3 (.t 28) (.c (.int .i64 2))), 3, none, 0⟩, ⟨some 30, (.call (.f 106) [(.t 27), (.t 29)]), 3, none, 16⟩, ⟨some 31, (.bin .add 3 (.c (.int .i64 2)) (.t 30)), 3, none, 0⟩, ⟨some 6, (.mv (.t 31)), 3, none, 0⟩] (some [4, 5, 6]))
                              (.seq
                                (.region false [⟨some 32, (.mv (.t 6)), 3, none, 0⟩, ⟨some 33, (.call (.f 198) [(.t 32)]), 27, none, 3⟩, ⟨some 34, (.mv (.t 5)), 3, none, 0⟩, ⟨some 35, (.mv (.t 6)), 3, none, 0⟩, ⟨some 36, (.bin .sub 3 (.t 34) (.t 35)), 3, none, 0⟩, ⟨some 37, (.bin .add 3 (.t 36) (.c (.int .i64 1))), 3, none, 0⟩, ⟨some 38, (.call (.f 198) [(.t 37)]), 27, none, 3⟩, ⟨some 39, (.call (.f 199) [(.t 33), (.t 38)]), 27, none, 3⟩, ⟨none, (.store 27 (.t 4) (.t 39)), 0, none, 0⟩] (some [4]))
                                .ret))
                            .skip))
                        (.seq
                          (.region false [⟨some 41, (.bin .eql 3 (.t 13) (.c (.int .i64 3))), 4, none, 0⟩, ⟨some 40, (.mv (.t 41)), 4, none, 0⟩] (some [0, 1, 4, 5, 40]))
                          (.cond (.t 40)
                            (.seq
                              (.region false [⟨some 42, (.mv (.t 1)), 3, none, 0⟩, ⟨some 43, (.bin .geq 3 (.t 42) (.c (.int .i64 4))), 4, none, 0⟩] (some [0, 1, 4, 5, 43]))
                              (.cond (.t 43)
                                (.seq
                                  (.region false [⟨some 44, (.call (.f 189) [(.c (.int .i64 2))]), 23, none, 3⟩, ⟨some 45, (.mv (.t 0)), 72, none, 0⟩, ⟨some 46, (.mv (.t 1)), 3, none, 0⟩, ⟨some 47, (.bin .quo 3 (.t 46) (.c (.int .i64 2))), 3, none, 0⟩, ⟨some 48, (.bin .sub 3 (.t 47) (.c (.int .i64 1))), 3, none, 0⟩, ⟨some 49, (.min (.t 48) (.c (.int .i64 2))), 3, none, 0⟩, ⟨some 50, (.call (.f 106) [(.t 45), (.t 49)]), 3, none, 16⟩, ⟨some 51, (.bin .add 3 (.c (.int .i64 2)) (.t 50)), 3, none, 0⟩, ⟨some 52, (.call (.f 189) [(.t 51)]), 23, none, 3⟩, ⟨some 53, (.call (.f 190) [(.t 44), (.t 52)]), 23, none, 3⟩, ⟨some 54, (.call (.f 98) [(.t 53)]), 27, none, 3⟩, ⟨none, (.store 27 (.t 4) (.t 54)), 0, none, 0⟩] (some [4]))
                                  .ret)
                                .skip))
                            .skip))))))))))
        (.seq
          (.region false [⟨some 55, (.mv (.t 5)), 3, none, 0⟩, ⟨some 56, (.min (.t 55) (.c (.int .i64 5))), 3, none, 0⟩, ⟨some 57, (.call (.f 200) [(.t 56)]), 128, none, 3⟩, ⟨some 7, (.mv (.t 57)), 128, none, 0⟩] (some [0, 4, 7]))
          (.seq
            (.region false [⟨some 58, (.mv (.t 7)), 128, none, 0⟩, ⟨some 59, (.mv (.t 0)), 72, none, 0⟩, ⟨some 60, (.mv (.t 7)), 128, none, 0⟩, ⟨some 61, (.len 128 (.t 60)), 3, none, 0⟩, ⟨some 62, (.call (.f 106) [(.t 59), (.t 61)]), 3, none, 16⟩, ⟨some 63, (.iaddr 128 (.t 58) (.t 62)), 0, none, 0⟩, ⟨some 64, (.load 27 (.t 63)), 27, none, 0⟩, ⟨none, (.store 27 (.t 4) (.t 64)), 0, none, 0⟩] (some [4]))
            .ret)))))⟩
theorem fok_181 : FnOk Try.prog 181 fa_181 an_181 := ⟨Try.f181, _, Try.func181, rfl, by kernel_rfl, rfl, rfl, by decide, by kernel_rfl⟩
/-- spec.goodAlgebra -/
def an_169 : Ann := ⟨[(1, 1, 16), (3, 1, 16), (4, 1, 16), (5, 2, 3), (9, 0, 3), (9, 1, 3), (9, 2, 3), (9, 3, 3), (9, 5, 16), (9, 6, 3), (12, 1, 16)], [(0, [0, 2]), (1, [0, 2, 10]), (2, [0, 2, 10, 11]), (3, [0, 2, 3]), (4, [0, 2, 3, 4]), (5, [0, 2, 5, 6]), (6, [0, 2, 5, 23]), (7, [2]), (8, [0, 2, 25]), (9, [0, 2, 7, 8]), (10, [0, 2, 7, 37]), (11, [2]), (12, [2])], [], []⟩
def fa_169 : FnA := ⟨41, [.c 2 27],
  (.seq
    (.region false [⟨some 2, (.alloc 27), 0, none, 0⟩] (some [0, 2]))
    (.seq
      (.seq
        (.region false [⟨some 9, (.mv (.t 0)), 72, none, 0⟩, ⟨some 10, (.call (.f 106) [(.t 9), (.c (.int .i64 5))]), 3, none, 16⟩] (some [0, 2, 10]))
        (.block 0
          (.seq
            (.region false [⟨some 12, (.bin .eql 3 (.t 10) (.c (.int .i64 0))), 4, none, 0⟩, ⟨some 11, (.mv (.t 12)), 4, none, 0⟩] (some [0, 2, 10, 11]))
            (.cond (.t 11)
              (.seq
                (.region false [⟨some 13, (.mv (.t 0)), 72, none, 0⟩, ⟨some 14, (.call (.f 181) [(.t 13), (.c (.int .i64 2))]), 27, none, 16⟩, ⟨some 3, (.alloc 27), 0, none, 0⟩, ⟨none, (.store 27 (.t 3) (.t 14)), 0, none, 0⟩] (some [0, 2, 3]))
                (.seq
                  (.region false [⟨some 15, (.mv (.t 0)), 72, none, 0⟩, ⟨some 16, (.call (.f 181) [(.t 15), (.c (.int .i64 3))]), 27, none, 16⟩, ⟨some 4, (.alloc 27), 0, none, 0⟩, ⟨none, (.store 27 (.t 4) (.t 16)), 0, none, 0⟩] (some [0, 2, 3, 4]))
                  (.seq
                    (.region false [⟨some 18, (.load 27 (.t 4)), 27, none, 0⟩, ⟨some 19, (.load 27 (.t 3)), 27, none, 0⟩, ⟨some 20, (.call (.f 195) [(.t 18), (.t 19)]), 28, none, 3⟩, ⟨some 17, (.mv (.t 20)), 28, none, 0⟩, ⟨some 21, (.ext (.t 17) 0), 27, none, 0⟩, ⟨some 22, (.ext (.t 17) 1), 4, none, 0⟩, ⟨some 5, (.alloc 27), 0, none, 0⟩, ⟨none, (.store 27 (.t 5) (.t 21)), 0, none, 0⟩, ⟨some 6, (.mv (.t 22)), 4, none, 0⟩] (some [0, 2, 5, 6]))
                    (.seq
                      (.region false [⟨some 23, (.mv (.t 6)), 4, none, 0⟩] (some [0, 2, 5, 23]))
                      (.cond (.t 23)
                        (.seq
                          (.region false [⟨some 24, (.load 27 (.t 5)), 27, none, 0⟩, ⟨none, (.store 27 (.t 2) (.t 24)), 0, none, 0⟩] (some [2]))
                          .ret)
                        .skip)))))
              (.seq
                (.region false [⟨some 26, (.bin .eql 3 (.t 10) (.c (.int .i64 1))), 4, none, 0⟩, ⟨some 25, (.mv (.t 26)), 4, none, 0⟩] (some [0, 2, 25]))
                (.cond (.t 25)
                  (.seq
                    (.region false [⟨some 28, (.call (.f 189) [(.c (.int .i64 2))]), 23, none, 3⟩, ⟨some 29, (.call (.f 189) [(.c (.int .i64 2))]), 23, none, 3⟩, ⟨some 30, (.call (.f 190) [(.t 28), (.t 29)]), 23, none, 3⟩, ⟨some 31, (.call (.f 98) [(.t 30)]), 27, none, 3⟩, ⟨some 32, (.mv (.t 0)), 72, none, 0⟩, ⟨some 33, (.call (.f 181) [(.t 32), (.c (.int .i64 3))]), 27, none, 16⟩, ⟨some 34, (.call (.f 196) [(.t 31), (.t 33)]), 28, none, 3⟩, ⟨some 27, (.mv (.t 34)), 28, none, 0⟩, ⟨some 35, (.ext (.t 27) 0), 27, none, 0⟩, ⟨some 36, (.ext (.t 27) 1), 4, none, 0⟩, ⟨some 7, (.alloc 27), 0, none, 0⟩, ⟨none, (.store 27 (.t 7) (.t 35)), 0, none, 0⟩, ⟨some 8, (.mv (.t 36)), 4, none, 0⟩] (some [0, 2, 7, 8]))
                    (.seq
                      (.region false [⟨some 37, (.mv (.t 8)), 4, none, 0⟩] (some [0, 2, 7, 37]))
                      (.cond (.t 37)
                        (.seq
                          (.region false [⟨some 38, (.load 27 (.t 7)), 27, none, 0⟩, ⟨none, (.store 27 (.t 2) (.t 38)), 0, none, 0⟩] (some [2]))
                          .ret)
                        .skip)))
                  .skip))))))
      (.seq
        (.region false [⟨some 39, (.mv (.t 0)), 72, none, 0⟩, ⟨some 40, (.call (.f 181) [(.t 39), (.c (.int .i64 6))]), 27, none, 16⟩, ⟨none, (.store 27 (.t 2) (.t 40)), 0, none, 0⟩] (some [2]))
        .ret)))⟩
theorem fok_169 : FnOk Try.prog 169 fa_169 an_169 := ⟨Try.f169, _, Try.func169, rfl, by kernel_rfl, rfl, rfl, by decide, by kernel_rfl⟩
/-- spec.bent -/
def ex_168_8_32767 : Ex := .fin
def ex_168_8_16383 : Ex := (.alt 14 ex_168_8_32767 .stop)
def ex_168_8_8191 : Ex := (.alt 13 ex_168_8_16383 .stop)
def ex_168_8_8175 : Ex := (.alt 4 ex_168_8_8191 .stop)
def ex_168_8_8167 : Ex := (.alt 3 ex_168_8_8175 .stop)
def ex_168_8_8165 : Ex := (.alt 1 ex_168_8_8167 .stop)
def ex_168_8_8164 : Ex := (.alt 0 ex_168_8_8165 .stop)
def ex_168_8_4095 : Ex := (.alt 12 ex_168_8_8191 .stop)
def ex_168_8_4079 : Ex := (.alt 4 ex_168_8_4095 (.alt 12 ex_168_8_8175 .stop))
def ex_168_8_4071 : Ex := (.alt 3 ex_168_8_4079 (.alt 12 ex_168_8_8167 .stop))
def ex_168_8_4069 : Ex := (.alt 1 ex_168_8_4071 (.alt 12 ex_168_8_8165 .stop))
def ex_168_8_4068 : Ex := (.alt 0 ex_168_8_4069 (.alt 12 ex_168_8_8164 .stop))
def ex_168_8_3583 : Ex := (.alt 9 ex_168_8_4095 .stop)
def ex_168_8_3567 : Ex := (.alt 4 ex_168_8_3583 (.alt 9 ex_168_8_4079 .stop))
def ex_168_8_3559 : Ex := (.alt 3 ex_168_8_3567 (.alt 9 ex_168_8_4071 .stop))
def ex_168_8_3557 : Ex := (.alt 1 ex_168_8_3559 (.alt 9 ex_168_8_4069 .stop))
def ex_168_8_3556 : Ex := (.alt 0 ex_168_8_3557 (.alt 9 ex_168_8_4068 .stop))
def ex_168_8_3327 : Ex := (.alt 8 ex_168_8_3583 .stop)
def ex_168_8_3311 : Ex := (.alt 4 ex_168_8_3327 (.alt 8 ex_168_8_3567 .stop))
def ex_168_8_3303 : Ex := (.alt 3 ex_168_8_3311 (.alt 8 ex_168_8_3559 .stop))
def ex_168_8_3301 : Ex := (.alt 1 ex_168_8_3303 (.alt 8 ex_168_8_3557 .stop))
def ex_168_8_3300 : Ex := (.alt 0 ex_168_8_3301 (.alt 8 ex_168_8_3556 .stop))
def ex_168_8_3199 : Ex := (.alt 7 ex_168_8_3327 .stop)
def ex_168_8_3183 : Ex := (.alt 4 ex_168_8_3199 (.alt 7 ex_168_8_3311 .stop))
def ex_168_8_3175 : Ex := (.alt 3 ex_168_8_3183 (.alt 7 ex_168_8_3303 .stop))
def ex_168_8_3173 : Ex := (.alt 1 ex_168_8_3175 (.alt 7 ex_168_8_3301 .stop))
def ex_168_8_3172 : Ex := (.alt 0 ex_168_8_3173 (.alt 7 ex_168_8_3300 .stop))
def ex_168_8_3135 : Ex := (.alt 6 ex_168_8_3199 .stop)
def ex_168_8_3119 : Ex := (.alt 4 ex_168_8_3135 (.alt 6 ex_168_8_3183 .stop))
def ex_168_8_3111 : Ex := (.alt 3 ex_168_8_3119 (.alt 6 ex_168_8_3175 .stop))
def ex_168_8_3109 : Ex := (.alt 1 ex_168_8_3111 (.alt 6 ex_168_8_3173 .stop))
def ex_168_8_3108 : Ex := (.alt 0 ex_168_8_3109 (.alt 6 ex_168_8_3172 .stop))
def ex_168_8_1060 : Ex := .one 11 ex_168_8_3108
def ex_168_8_36 : Ex := .one 10 ex_168_8_1060
def ex_168_8_4 : Ex := .one 5 ex_168_8_36
def ex_168_8_0 : Ex := .one 2 ex_168_8_4
def ro_168_8 : List AOper := [⟨some 33, (.faddr 27 (.t 5) 1), 0, none, 0⟩, ⟨some 34, (.load 25 (.t 33)), 25, none, 0⟩, ⟨some 35, (.mv (.t 6)), 3, none, 0⟩, ⟨some 36, (.iaddr 25 (.t 34) (.t 35)), 0, none, 0⟩, ⟨some 37, (.load 23 (.t 36)), 23, none, 1⟩, ⟨some 38, (.mv (.t 0)), 72, none, 0⟩, ⟨some 39, (.faddr 27 (.t 5) 0), 0, none, 0⟩, ⟨some 40, (.load 23 (.t 39)), 23, none, 0⟩, ⟨some 41, (.len 23 (.t 40)), 3, none, 0⟩, ⟨some 42, (.call (.f 106) [(.t 38), (.t 41)]), 3, none, 16⟩, ⟨some 43, (.mv (.t 0)), 72, none, 0⟩, ⟨some 44, (.bslice 23 4 [(0, (.c (.int .i64 0))), (1, (.c (.int .i64 1))), (2, (.c (.int .i64 (-1)))), (3, (.c (.int .i64 6)))]), 23, none, 0⟩, ⟨some 45, (.call (.f 161) [(.t 43), (.t 44)]), 3, none, 16⟩, ⟨some 46, (.iaddr 23 (.t 37) (.t 42)), 0, none, 0⟩, ⟨none, (.store 3 (.t 46) (.t 45)), 0, none, 0⟩]
theorem ro_168_8_0 : ro_168_8[0]? = some ⟨some 33, (.faddr 27 (.t 5) 1), 0, none, 0⟩ := (rfl)
theorem ro_168_8_1 : ro_168_8[1]? = some ⟨some 34, (.load 25 (.t 33)), 25, none, 0⟩ := (rfl)
theorem ro_168_8_2 : ro_168_8[2]? = some ⟨some 35, (.mv (.t 6)), 3, none, 0⟩ := (rfl)
theorem ro_168_8_3 : ro_168_8[3]? = some ⟨some 36, (.iaddr 25 (.t 34) (.t 35)), 0, none, 0⟩ := (rfl)
theorem ro_168_8_4 : ro_168_8[4]? = some ⟨some 37, (.load 23 (.t 36)), 23, none, 1⟩ := (rfl)
theorem ro_168_8_5 : ro_168_8[5]? = some ⟨some 38, (.mv (.t 0)), 72, none, 0⟩ := (rfl)
theorem ro_168_8_6 : ro_168_8[6]? = some ⟨some 39, (.faddr 27 (.t 5) 0), 0, none, 0⟩ := (rfl)
theorem ro_168_8_7 : ro_168_8[7]? = some ⟨some 40, (.load 23 (.t 39)), 23, none, 0⟩ := (rfl)
theorem ro_168_8_8 : ro_168_8[8]? = some ⟨some 41, (.len 23 (.t 40)), 3, none, 0⟩ := (rfl)
theorem ro_168_8_9 : ro_168_8[9]? = some ⟨some 42, (.call (.f 106) [(.t 38), (.t 41)]), 3, none, 16⟩ := (rfl)
theorem ro_168_8_10 : ro_168_8[10]? = some ⟨some 43, (.mv (.t 0)), 72, none, 0⟩ := (rfl)
theorem ro_168_8_11 : ro_168_8[11]? = some ⟨some 44, (.bslice 23 4 [(0, (.c (.int .i64 0))), (1, (.c (.int .i64 1))), (2, (.c (.int .i64 (-1)))), (3, (.c (.int .i64 6)))]), 23, none, 0⟩ := (rfl)
theorem ro_168_8_12 : ro_168_8[12]? = some ⟨some 45, (.call (.f 161) [(.t 43), (.t 44)]), 3, none, 16⟩ := (rfl)
theorem ro_168_8_13 : ro_168_8[13]? = some ⟨some 46, (.iaddr 23 (.t 37) (.t 42)), 0, none, 0⟩ := (rfl)
theorem ro_168_8_14 : ro_168_8[14]? = some ⟨none, (.store 3 (.t 46) (.t 45)), 0, none, 0⟩ := (rfl)
def ex_168_10_255 : Ex := .fin
def ex_168_10_127 : Ex := (.alt 7 ex_168_10_255 .stop)
def ex_168_10_63 : Ex := (.alt 6 ex_168_10_127 .stop)
def ex_168_10_61 : Ex := (.alt 1 ex_168_10_63 .stop)
def ex_168_10_60 : Ex := (.alt 0 ex_168_10_61 .stop)
def ex_168_10_31 : Ex := (.alt 5 ex_168_10_63 .stop)
def ex_168_10_29 : Ex := (.alt 1 ex_168_10_31 (.alt 5 ex_168_10_61 .stop))
def ex_168_10_28 : Ex := (.alt 0 ex_168_10_29 (.alt 5 ex_168_10_60 .stop))
def ex_168_10_12 : Ex := .one 4 ex_168_10_28
def ex_168_10_4 : Ex := .one 3 ex_168_10_12
def ex_168_10_0 : Ex := .one 2 ex_168_10_4
def ro_168_10 : List AOper := [⟨some 49, (.faddr 27 (.t 5) 0), 0, none, 0⟩, ⟨some 50, (.load 23 (.t 49)), 23, none, 0⟩, ⟨some 51, (.mv (.t 6)), 3, none, 0⟩, ⟨some 52, (.mv (.t 0)), 72, none, 0⟩, ⟨some 53, (.bslice 23 3 [(0, (.c (.int .i64 0))), (1, (.c (.int .i64 3))), (2, (.c (.int .i64 (-1))))]), 23, none, 0⟩, ⟨some 54, (.call (.f 161) [(.t 52), (.t 53)]), 3, none, 16⟩, ⟨some 55, (.iaddr 23 (.t 50) (.t 51)), 0, none, 0⟩, ⟨none, (.store 3 (.t 55) (.t 54)), 0, none, 0⟩]
theorem ro_168_10_0 : ro_168_10[0]? = some ⟨some 49, (.faddr 27 (.t 5) 0), 0, none, 0⟩ := (rfl)
theorem ro_168_10_1 : ro_168_10[1]? = some ⟨some 50, (.load 23 (.t 49)), 23, none, 0⟩ := (rfl)
theorem ro_168_10_2 : ro_168_10[2]? = some ⟨some 51, (.mv (.t 6)), 3, none, 0⟩ := (rfl)
theorem ro_168_10_3 : ro_168_10[3]? = some ⟨some 52, (.mv (.t 0)), 72, none, 0⟩ := (rfl)
theorem ro_168_10_4 : ro_168_10[4]? = some ⟨some 53, (.bslice 23 3 [(0, (.c (.int .i64 0))), (1, (.c (.int .i64 3))), (2, (.c (.int .i64 (-1))))]), 23, none, 0⟩ := (rfl)
theorem ro_168_10_5 : ro_168_10[5]? = some ⟨some 54, (.call (.f 161) [(.t 52), (.t 53)]), 3, none, 16⟩ := (rfl)
theorem ro_168_10_6 : ro_168_10[6]? = some ⟨some 55, (.iaddr 23 (.t 50) (.t 51)), 0, none, 0⟩ := (rfl)
theorem ro_168_10_7 : ro_168_10[7]? = some ⟨none, (.store 3 (.t 55) (.t 54)), 0, none, 0⟩ := (rfl)
def ex_168_14_2047 : Ex := .fin
def ex_168_14_1023 : Ex := (.alt 10 ex_168_14_2047 .stop)
def ex_168_14_511 : Ex := (.alt 9 ex_168_14_1023 .stop)
def ex_168_14_509 : Ex := (.alt 1 ex_168_14_511 .stop)
def ex_168_14_508 : Ex := (.alt 0 ex_168_14_509 .stop)
def ex_168_14_252 : Ex := .one 8 ex_168_14_508
def ex_168_14_253 : Ex := .one 8 ex_168_14_509
def ex_168_14_255 : Ex := .one 8 ex_168_14_511
def ex_168_14_127 : Ex := (.alt 7 ex_168_14_255 .stop)
def ex_168_14_125 : Ex := (.alt 1 ex_168_14_127 (.alt 7 ex_168_14_253 .stop))
def ex_168_14_124 : Ex := (.alt 0 ex_168_14_125 (.alt 7 ex_168_14_252 .stop))
def ex_168_14_63 : Ex := (.alt 6 ex_168_14_127 .stop)
def ex_168_14_61 : Ex := (.alt 1 ex_168_14_63 (.alt 6 ex_168_14_125 .stop))
def ex_168_14_60 : Ex := (.alt 0 ex_168_14_61 (.alt 6 ex_168_14_124 .stop))
def ex_168_14_47 : Ex := (.alt 4 ex_168_14_63 .stop)
def ex_168_14_45 : Ex := (.alt 1 ex_168_14_47 (.alt 4 ex_168_14_61 .stop))
def ex_168_14_44 : Ex := (.alt 0 ex_168_14_45 (.alt 4 ex_168_14_60 .stop))
def ex_168_14_39 : Ex := (.alt 3 ex_168_14_47 .stop)
def ex_168_14_37 : Ex := (.alt 1 ex_168_14_39 (.alt 3 ex_168_14_45 .stop))
def ex_168_14_36 : Ex := (.alt 0 ex_168_14_37 (.alt 3 ex_168_14_44 .stop))
def ex_168_14_4 : Ex := .one 5 ex_168_14_36
def ex_168_14_0 : Ex := .one 2 ex_168_14_4
def ro_168_14 : List AOper := [⟨some 64, (.faddr 27 (.t 5) 1), 0, none, 0⟩, ⟨some 65, (.load 25 (.t 64)), 25, none, 0⟩, ⟨some 66, (.mv (.t 6)), 3, none, 0⟩, ⟨some 67, (.faddr 27 (.t 5) 1), 0, none, 0⟩, ⟨some 68, (.load 25 (.t 67)), 25, none, 0⟩, ⟨some 69, (.mv (.t 6)), 3, none, 0⟩, ⟨some 70, (.iaddr 25 (.t 68) (.t 69)), 0, none, 0⟩, ⟨some 71, (.load 23 (.t 70)), 23, none, 2⟩, ⟨some 72, (.slice 23 (.t 71) (some (.c (.int .i64 1))) none), 23, none, 0⟩, ⟨some 73, (.iaddr 25 (.t 65) (.t 66)), 0, none, 0⟩, ⟨none, (.store 23 (.t 73) (.t 72)), 0, none, 0⟩]
theorem ro_168_14_0 : ro_168_14[0]? = some ⟨some 64, (.faddr 27 (.t 5) 1), 0, none, 0⟩ := (rfl)
theorem ro_168_14_1 : ro_168_14[1]? = some ⟨some 65, (.load 25 (.t 64)), 25, none, 0⟩ := (rfl)
theorem ro_168_14_2 : ro_168_14[2]? = some ⟨some 66, (.mv (.t 6)), 3, none, 0⟩ := (rfl)
theorem ro_168_14_3 : ro_168_14[3]? = some ⟨some 67, (.faddr 27 (.t 5) 1), 0, none, 0⟩ := (rfl)
theorem ro_168_14_4 : ro_168_14[4]? = some ⟨some 68, (.load 25 (.t 67)), 25, none, 0⟩ := (rfl)
theorem ro_168_14_5 : ro_168_14[5]? = some ⟨some 69, (.mv (.t 6)), 3, none, 0⟩ := (rfl)
theorem ro_168_14_6 : ro_168_14[6]? = some ⟨some 70, (.iaddr 25 (.t 68) (.t 69)), 0, none, 0⟩ := (rfl)
theorem ro_168_14_7 : ro_168_14[7]? = some ⟨some 71, (.load 23 (.t 70)), 23, none, 2⟩ := (rfl)
theorem ro_168_14_8 : ro_168_14[8]? = some ⟨some 72, (.slice 23 (.t 71) (some (.c (.int .i64 1))) none), 23, none, 0⟩ := (rfl)
theorem ro_168_14_9 : ro_168_14[9]? = some ⟨some 73, (.iaddr 25 (.t 65) (.t 66)), 0, none, 0⟩ := (rfl)
theorem ro_168_14_10 : ro_168_14[10]? = some ⟨none, (.store 23 (.t 73) (.t 72)), 0, none, 0⟩ := (rfl)
def an_168 : Ann := ⟨[(1, 1, 16), (3, 0, 1), (3, 6, 1), (4, 4, 16), (5, 1, 16), (8, 4, 1), (8, 9, 16), (8, 12, 16), (10, 5, 16), (12, 2, 2), (14, 7, 2)], [(0, [0, 3, 4]), (1, [0, 3, 4, 9]), (2, [4]), (3, [0, 4, 5]), (4, [0, 4, 5, 6]), (5, [0, 4, 5, 6, 25]), (7, [0, 4, 5, 6, 25, 31]), (8, [4, 5]), (9, [0, 4, 5, 6, 25, 47]), (10, [4, 5]), (11, [4, 5, 6, 25, 56]), (12, [4, 5]), (13, [4, 5, 6, 62]), (14, [4, 5]), (6, [4, 5]), (15, [4])], [], [(3, (.imm 1 (.imm 2 (.imm 4 (.imm 5 (.alt 0 (.alt 3 (.alt 6 (.one 7 (.alt 8 (.alt 9 .fin .stop) .stop)) (.alt 8 (.alt 6 (.one 7 (.alt 9 .fin .stop)) .stop) .stop)) (.alt 8 (.alt 3 (.alt 6 (.one 7 (.alt 9 .fin .stop)) .stop) .stop) .stop)) (.alt 8 (.alt 0 (.alt 3 (.alt 6 (.one 7 (.alt 9 .fin .stop)) .stop) .stop) .stop) .stop)))))), [0, 32, 40, 88, 112, 136, 137, 138, 139, 140, 141, 142, 143, 184, 232, 360, 432]), (8, ex_168_8_0, [0, 32, 40, 88, 112, 136, 137, 138, 139, 140, 141, 142, 143, 184, 232, 360, 432]), (10, ex_168_10_0, [0, 32, 40, 88, 112, 136, 137, 138, 139, 140, 141, 142, 143, 184, 232, 360, 432]), (14, ex_168_14_0, [0, 32, 40, 88, 112, 136, 137, 138, 139, 140, 141, 142, 143, 184, 232, 360, 432])]⟩
def fa_168 : FnA := ⟨75, [.c 4 27],
  (.seq
    (.region false [⟨some 3, (.box 27 (.t 1)), 0, none, 0⟩, ⟨some 4, (.alloc 27), 0, none, 0⟩] (some [0, 3, 4]))
    (.seq
      (.seq
        (.region false [⟨some 7, (.mv (.t 0)), 72, none, 0⟩, ⟨some 8, (.call (.f 106) [(.t 7), (.c (.int .i64 16))]), 3, none, 16⟩, ⟨some 9, (.bin .gtr 3 (.t 8) (.c (.int .i64 0))), 4, none, 0⟩] (some [0, 3, 4, 9]))
        (.cond (.t 9)
          (.seq
            (.region false [⟨some 10, (.load 27 (.t 3)), 27, none, 0⟩, ⟨none, (.store 27 (.t 4) (.t 10)), 0, none, 0⟩] (some [4]))
            .ret)
          .skip))
      (.seq
        (.expl [⟨some 11, (.bslice 23 0 []), 23, none, 1⟩, ⟨some 12, (.faddr 27 (.t 3) 0), 0, none, 0⟩, ⟨some 13, (.load 23 (.t 12)), 23, none, 0⟩, ⟨some 14, (.app 23 23 (.t 11) (.t 13)), 23, none, 0⟩, ⟨some 15, (.faddr 27 (.t 3) 1), 0, none, 0⟩, ⟨some 16, (.load 25 (.t 15)), 25, none, 0⟩, ⟨some 17, (.call (.f 194) [(.t 16)]), 25, none, 1⟩, ⟨some 18, (.build 27 [(0, (.t 14)), (1, (.t 17))]), 27, none, 0⟩, ⟨some 5, (.alloc 27), 0, none, 0⟩, ⟨none, (.store 27 (.t 5) (.t 18)), 0, none, 0⟩] (.imm 1 (.imm 2 (.imm 4 (.imm 5 (.alt 0 (.alt 3 (.alt 6 (.one 7 (.alt 8 (.alt 9 .fin .stop) .stop)) (.alt 8 (.alt 6 (.one 7 (.alt 9 .fin .stop)) .stop) .stop)) (.alt 8 (.alt 3 (.alt 6 (.one 7 (.alt 9 .fin .stop)) .stop) .stop) .stop)) (.alt 8 (.alt 0 (.alt 3 (.alt 6 (.one 7 (.alt 9 .fin .stop)) .stop) .stop) .stop) .stop)))))) [0, 4, 5] [0, 32, 40, 88, 112, 136, 137, 138, 139, 140, 141, 142, 143, 184, 232, 360, 432])
        (.seq
          (.region false [⟨some 19, (.mv (.t 0)), 72, none, 0⟩, ⟨some 20, (.faddr 27 (.t 5) 0), 0, none, 0⟩, ⟨some 21, (.load 23 (.t 20)), 23, none, 0⟩, ⟨some 22, (.len 23 (.t 21)), 3, none, 0⟩, ⟨some 23, (.call (.f 106) [(.t 19), (.t 22)]), 3, none, 16⟩, ⟨some 6, (.mv (.t 23)), 3, none, 0⟩] (some [0, 4, 5, 6]))
          (.seq
            (.seq
              (.region false [⟨some 24, (.mv (.t 0)), 72, none, 0⟩, ⟨some 25, (.call (.f 106) [(.t 24), (.c (.int .i64 5))]), 3, none, 16⟩] (some [0, 4, 5, 6, 25]))
              (.block 0
                (.seq
                  (.region false [⟨some 32, (.bin .eql 3 (.t 25) (.c (.int .i64 0))), 4, none, 0⟩, ⟨some 31, (.mv (.t 32)), 4, none, 0⟩] (some [0, 4, 5, 6, 25, 31]))
                  (.cond (.t 31)
                    (.expl ro_168_8 ex_168_8_0 [4, 5] [0, 32, 40, 88, 112, 136, 137, 138, 139, 140, 141, 142, 143, 184, 232, 360, 432])
                    (.seq
                      (.region false [⟨some 48, (.bin .eql 3 (.t 25) (.c (.int .i64 1))), 4, none, 0⟩, ⟨some 47, (.mv (.t 48)), 4, none, 0⟩] (some [0, 4, 5, 6, 25, 47]))
                      (.cond (.t 47)
                        (.expl ro_168_10 ex_168_10_0 [4, 5] [0, 32, 40, 88, 112, 136, 137, 138, 139, 140, 141, 142, 143, 184, 232, 360, 432])
                        (.seq
                          (.region false [⟨some 57, (.bin .eql 3 (.t 25) (.c (.int .i64 2))), 4, none, 0⟩, ⟨some 56, (.mv (.t 57)), 4, none, 0⟩] (some [4, 5, 6, 25, 56]))
                          (.cond (.t 56)
                            (.region false [⟨some 58, (.faddr 27 (.t 5) 1), 0, none, 0⟩, ⟨some 59, (.load 25 (.t 58)), 25, none, 0⟩, ⟨some 60, (.slice 25 (.t 59) (some (.c (.int .i64 1))) none), 25, none, 2⟩, ⟨some 61, (.faddr 27 (.t 5) 1), 0, none, 0⟩, ⟨none, (.store 25 (.t 61) (.t 60)), 0, none, 0⟩] (some [4, 5]))
                            (.seq
                              (.region false [⟨some 63, (.bin .eql 3 (.t 25) (.c (.int .i64 3))), 4, none, 0⟩, ⟨some 62, (.mv (.t 63)), 4, none, 0⟩] (some [4, 5, 6, 62]))
                              (.cond (.t 62)
                                (.expl ro_168_14 ex_168_14_0 [4, 5] [0, 32, 40, 88, 112, 136, 137, 138, 139, 140, 141, 142, 143, 184, 232, 360, 432])
                                (.region false [⟨some 26, (.faddr 27 (.t 5) 0), 0, none, 0⟩, ⟨some 27, (.load 23 (.t 26)), 23, none, 0⟩, ⟨some 28, (.bslice 23 1 [(0, (.c (.int .i64 64)))]), 23, none, 0⟩, ⟨some 29, (.app 23 23 (.t 27) (.t 28)), 23, none, 0⟩, ⟨some 30, (.faddr 27 (.t 5) 0), 0, none, 0⟩, ⟨none, (.store 23 (.t 30) (.t 29)), 0, none, 0⟩] (some [4, 5]))))))))))))
            (.seq
              (.region false [⟨some 74, (.load 27 (.t 5)), 27, none, 0⟩, ⟨none, (.store 27 (.t 4) (.t 74)), 0, none, 0⟩] (some [4]))
              .ret))))))⟩
theorem fok_168 : FnOk Try.prog 168 fa_168 an_168 := ⟨Try.f168, _, Try.func168, rfl, by kernel_rfl, rfl, rfl, by decide, by kernel_rfl⟩
end Go.PS
end

section
-- PRINTED by gen.py: clean texts of functions, and their tie to the program.
set_option maxRecDepth 100000
namespace Go.PS
open Go.Proofs
/-- spec.isFilter -/
def an_112 : Ann := ⟨[(2, 2, 3), (2, 4, 3), (2, 10, 3), (10, 2, 3), (10, 9, 3), (10, 13, 3), (10, 19, 3), (10, 31, 3)], [(0, [1, 2]), (1, [1, 2, 5]), (2, [1, 2, 5, 23]), (3, [4]), (4, [1, 2, 5, 6]), (5, [1, 2, 5, 6, 26]), (7, [1, 2, 5, 6, 7]), (8, [1, 2, 5, 6, 7, 31]), (10, [1, 2, 5, 6, 7, 69]), (11, [4]), (9, [1, 2, 5, 6, 7]), (6, [1, 2, 5, 6]), (12, [4])], [(5, [1, 2, 5, 6], []), (8, [1, 2, 5, 6, 7], [])], []⟩
def lb_112_8 : AC :=
  (.seq
    (.seq
      (.region false [⟨some 29, (.mv (.t 7)), 3, none, 0⟩, ⟨some 30, (.mv (.t 5)), 3, none, 0⟩, ⟨some 31, (.bin .lss 3 (.t 29) (.t 30)), 4, none, 0⟩] (some [1, 2, 5, 6, 7, 31]))
      (.cond (.t 31)
        .skip
        (.exit 2)))
    (.seq
      (.block 3
        (.seq
          (.region false (gops (seg [1, 2, 5, 6, 7, 38, 43] [⟨some 34, (.mv (.t 1)), 3, none, 0⟩, ⟨some 35, (.mv (.t 6)), 3, none, 0⟩, ⟨some 36, (.call (.f 171) [(.t 34), (.t 35)]), 3, none, 3⟩, ⟨some 37, (.bin .eql 3 (.t 36) (.c (.int .i64 1))), 4, none, 0⟩, ⟨some 38, (.mv (.t 37)), 4, none, 0⟩, ⟨some 39, (.faddr 27 (.t 2) 0), 0, some (38, true), 0⟩, ⟨some 40, (.load 23 (.t 39)), 23, some (38, true), 0⟩, ⟨some 41, (.mv (.t 6)), 3, some (38, true), 0⟩, ⟨some 42, (.mv (.t 7)), 3, some (38, true), 0⟩, ⟨some 43, (.call (.f 156) [(.t 40), (.t 41), (.t 42)]), 4, some (38, true), 3⟩]
          (seg [1, 2, 5, 6, 7, 38, 50, 53] [⟨some 44, (.mv (.t 43)), 4, some (38, true), 0⟩, ⟨some 45, (.mv (.t 1)), 3, some (44, true), 0⟩, ⟨some 46, (.mv (.t 7)), 3, some (44, true), 0⟩, ⟨some 47, (.call (.f 171) [(.t 45), (.t 46)]), 3, some (44, true), 3⟩, ⟨some 48, (.bin .eql 3 (.t 47) (.c (.int .i64 0))), 4, some (44, true), 0⟩, ⟨some 49, (.pick (.t 44) (.t 48) (.c (.bool false))), 4, some (38, true), 0⟩, ⟨some 50, (.mv (.t 49)), 4, some (38, true), 0⟩, ⟨some 51, (.mv (.t 1)), 3, some (50, false), 0⟩, ⟨some 52, (.mv (.t 7)), 3, some (50, false), 0⟩, ⟨some 53, (.call (.f 171) [(.t 51), (.t 52)]), 3, some (50, false), 3⟩]
          (seg [1, 2, 5, 6, 7, 38, 50, 55, 56, 63] [⟨some 54, (.bin .eql 3 (.t 53) (.c (.int .i64 1))), 4, some (50, false), 0⟩, ⟨some 55, (.mv (.t 54)), 4, some (50, false), 0⟩, ⟨some 56, (.mv (.t 1)), 3, some (55, true), 0⟩, ⟨some 57, (.faddr 27 (.t 2) 1), 0, some (55, true), 0⟩, ⟨some 58, (.load 25 (.t 57)), 25, some (55, true), 0⟩, ⟨some 59, (.mv (.t 6)), 3, some (55, true), 0⟩, ⟨some 60, (.iaddr 25 (.t 58) (.t 59)), 0, some (55, true), 0⟩, ⟨some 61, (.load 23 (.t 60)), 23, some (55, true), 0⟩, ⟨some 62, (.mv (.t 7)), 3, some (55, true), 0⟩, ⟨some 63, (.iaddr 23 (.t 61) (.t 62)), 0, some (55, true), 0⟩]
          [⟨some 64, (.load 3 (.t 63)), 3, some (55, true), 0⟩, ⟨some 65, (.call (.f 171) [(.t 56), (.t 64)]), 3, some (55, true), 3⟩, ⟨some 66, (.bin .eql 3 (.t 65) (.c (.int .i64 0))), 4, some (55, true), 0⟩, ⟨some 67, (.pick (.t 55) (.t 66) (.c (.bool false))), 4, some (50, false), 0⟩, ⟨some 68, (.pick (.t 50) (.c (.bool true)) (.t 67)), 4, some (38, true), 0⟩, ⟨some 69, (.pick (.t 38) (.t 68) (.c (.bool false))), 4, none, 0⟩] [1, 2, 5, 6, 7, 69] (by decide)) [1, 2, 5, 6, 7, 69] (by decide)) [1, 2, 5, 6, 7, 69] (by decide))) (some [1, 2, 5, 6, 7, 69]))
          (.cond (.t 69)
            (.seq
              (.region false [⟨some 4, (.mv (.c (.bool false))), 4, none, 0⟩] (some [4]))
              .ret)
            .skip)))
      (.region false [⟨some 32, (.mv (.t 7)), 3, none, 0⟩, ⟨some 33, (.bin .add 3 (.t 32) (.c (.int .i64 1))), 3, none, 0⟩, ⟨some 7, (.mv (.t 33)), 3, none, 0⟩] (some [1, 2, 5, 6, 7]))))
def lb_112_5 : AC :=
  (.seq
    (.seq
      (.region false [⟨some 24, (.mv (.t 6)), 3, none, 0⟩, ⟨some 25, (.mv (.t 5)), 3, none, 0⟩, ⟨some 26, (.bin .lss 3 (.t 24) (.t 25)), 4, none, 0⟩] (some [1, 2, 5, 6, 26]))
      (.cond (.t 26)
        .skip
        (.exit 0)))
    (.seq
      (.block 1
        (.seq
          (.region false [⟨some 7, (.mv (.c (.int .i64 0))), 3, none, 0⟩] (some [1, 2, 5, 6, 7]))
          (.block 2
            (.loop [1, 2, 5, 6, 7] [] lb_112_8))))
      (.region false [⟨some 27, (.mv (.t 6)), 3, none, 0⟩, ⟨some 28, (.bin .add 3 (.t 27) (.c (.int .i64 1))), 3, none, 0⟩, ⟨some 6, (.mv (.t 28)), 3, none, 0⟩] (some [1, 2, 5, 6]))))
def fa_112 : FnA := ⟨70, [.t 4],
  (.seq
    (.region false [⟨some 2, (.box 27 (.t 0)), 0, none, 0⟩, ⟨some 4, (.mv (.c (.bool false))), 4, none, 0⟩] (some [1, 2]))
    (.seq
      (.region false [⟨some 8, (.faddr 27 (.t 2) 0), 0, none, 0⟩, ⟨some 9, (.load 23 (.t 8)), 23, none, 0⟩, ⟨some 10, (.len 23 (.t 9)), 3, none, 0⟩, ⟨some 5, (.mv (.t 10)), 3, none, 0⟩] (some [1, 2, 5]))
      (.seq
        (.seq
          (.region false (gops [⟨some 11, (.mv (.t 1)), 3, none, 0⟩, ⟨some 12, (.mv (.t 5)), 3, none, 0⟩, ⟨some 13, (.call (.f 121) [(.t 12)]), 3, none, 3⟩, ⟨some 14, (.bin .sub 3 (.t 13) (.c (.int .i64 1))), 3, none, 0⟩, ⟨some 15, (.call (.f 128) [(.t 11), (.c (.int .i64 0)), (.t 14)]), 4, none, 3⟩, ⟨some 16, (.un .not (.t 15)), 4, none, 0⟩, ⟨some 17, (.mv (.t 16)), 4, none, 0⟩, ⟨some 18, (.mv (.t 1)), 3, some (17, false), 0⟩, ⟨some 19, (.mv (.t 5)), 3, some (17, false), 0⟩, ⟨some 20, (.bin .sub 3 (.t 19) (.c (.int .i64 1))), 3, some (17, false), 0⟩, ⟨some 21, (.call (.f 171) [(.t 18), (.t 20)]), 3, some (17, false), 3⟩, ⟨some 22, (.bin .eql 3 (.t 21) (.c (.int .i64 0))), 4, some (17, false), 0⟩, ⟨some 23, (.pick (.t 17) (.c (.bool true)) (.t 22)), 4, none, 0⟩]) (some [1, 2, 5, 23]))
          (.cond (.t 23)
            (.seq
              (.region false [⟨some 4, (.mv (.c (.bool false))), 4, none, 0⟩] (some [4]))
              .ret)
            .skip))
        (.seq
          (.seq
            (.region false [⟨some 6, (.mv (.c (.int .i64 0))), 3, none, 0⟩] (some [1, 2, 5, 6]))
            (.block 0
              (.loop [1, 2, 5, 6] [] lb_112_5)))
          (.seq
            (.region false [⟨some 4, (.mv (.c (.bool true))), 4, none, 0⟩] (some [4]))
            .ret)))))⟩
theorem fok_112 : FnOk Try.prog 112 fa_112 an_112 := ⟨Try.f112, _, Try.func112, rfl, by kernel_rfl, rfl, rfl, by decide, by kernel_rfl⟩
/-- spec.filters -/
def an_119 : Ann := ⟨[(1, 0, 1), (3, 4, 3), (5, 2, 3)], [(0, [1]), (1, [1, 3]), (2, [1, 3, 4]), (3, [1, 3, 4, 11]), (5, [1, 3, 4, 16]), (6, [1, 3, 4]), (4, [1, 3, 4]), (7, [2])], [(3, [1, 3, 4], [40, 160])], []⟩
def lb_119_3 : AC :=
  (.seq
    (.seq
      (.region false [⟨some 6, (.mv (.t 4)), 3, none, 0⟩, ⟨some 7, (.faddr 27 (.t 1) 0), 0, none, 0⟩, ⟨some 8, (.load 23 (.t 7)), 23, none, 0⟩, ⟨some 9, (.len 23 (.t 8)), 3, none, 0⟩, ⟨some 10, (.call (.f 121) [(.t 9)]), 3, none, 3⟩, ⟨some 11, (.bin .lss 3 (.t 6) (.t 10)), 4, none, 0⟩] (some [1, 3, 4, 11]))
      (.cond (.t 11)
        .skip
        (.exit 0)))
    (.seq
      (.block 1
        (.seq
          (.region false [⟨some 14, (.load 27 (.t 1)), 27, none, 0⟩, ⟨some 15, (.mv (.t 4)), 3, none, 0⟩, ⟨some 16, (.call (.f 112) [(.t 14), (.t 15)]), 4, none, 3⟩] (some [1, 3, 4, 16]))
          (.cond (.t 16)
            (.region false [⟨some 17, (.mv (.t 3)), 23, none, 0⟩, ⟨some 18, (.mv (.t 4)), 3, none, 0⟩, ⟨some 19, (.bslice 23 1 [(0, (.t 18))]), 23, none, 0⟩, ⟨some 20, (.app 23 23 (.t 17) (.t 19)), 23, none, 0⟩, ⟨some 3, (.mv (.t 20)), 23, none, 0⟩] (some [1, 3, 4]))
            .skip)))
      (.region false [⟨some 12, (.mv (.t 4)), 3, none, 0⟩, ⟨some 13, (.bin .add 3 (.t 12) (.c (.int .i64 1))), 3, none, 0⟩, ⟨some 4, (.mv (.t 13)), 3, none, 0⟩] (some [1, 3, 4]))))
def fa_119 : FnA := ⟨22, [.t 2],
  (.seq
    (.region false [⟨some 1, (.box 27 (.t 0)), 0, none, 0⟩, ⟨some 2, (.mv (.c .nil)), 23, none, 0⟩] (some [1]))
    (.seq
      (.region false [⟨some 5, (.bslice 23 0 []), 23, none, 1⟩, ⟨some 3, (.mv (.t 5)), 23, none, 0⟩] (some [1, 3]))
      (.seq
        (.seq
          (.region false [⟨some 4, (.mv (.c (.int .i64 0))), 3, none, 0⟩] (some [1, 3, 4]))
          (.block 0
            (.loop [1, 3, 4] [40, 160] lb_119_3)))
        (.seq
          (.region false [⟨some 21, (.mv (.t 3)), 23, none, 0⟩, ⟨some 2, (.mv (.t 21)), 23, none, 0⟩] (some [2]))
          .ret))))⟩
theorem fok_119 : FnOk Try.prog 119 fa_119 an_119 := ⟨Try.f119, _, Try.func119, rfl, by kernel_rfl, rfl, rfl, by decide, by kernel_rfl⟩
/-- impl.has -/
def an_170 : Ann := ⟨[], [(0, [0, 1]), (1, [4])], [], []⟩
def fa_170 : FnA := ⟨10, [.t 4],
  (.seq
    (.region false [⟨some 4, (.mv (.c (.bool false))), 4, none, 0⟩] (some [0, 1]))
    (.seq
      (.region false [⟨some 5, (.mv (.t 0)), 3, none, 0⟩, ⟨some 6, (.mv (.t 1)), 3, none, 0⟩, ⟨some 7, (.bin .shr 3 (.t 5) (.t 6)), 3, none, 0⟩, ⟨some 8, (.bin .rem 3 (.t 7) (.c (.int .i64 2))), 3, none, 0⟩, ⟨some 9, (.bin .eql 3 (.t 8) (.c (.int .i64 1))), 4, none, 0⟩, ⟨some 4, (.mv (.t 9)), 4, none, 0⟩] (some [4]))
      .ret))⟩
theorem fok_170 : FnOk Try.prog 170 fa_170 an_170 := ⟨Try.f170, _, Try.func170, rfl, by kernel_rfl, rfl, rfl, by decide, by kernel_rfl⟩
/-- impl.isFilter -/
def an_110 : Ann := ⟨[(1, 5, 3), (6, 2, 3), (12, 2, 3), (12, 13, 3)], [(0, [1, 2]), (1, [1, 2, 14]), (2, [4]), (3, [1, 2, 16, 17, 18]), (4, [1, 2, 16, 17, 18, 19]), (5, [1, 2, 5, 6, 16, 17, 18]), (6, [1, 2, 5, 6, 16, 17, 18, 26]), (7, [1, 2, 5, 16, 17, 18, 30]), (8, [4]), (9, [1, 2, 5, 16, 17, 18, 33, 34]), (10, [1, 2, 5, 16, 17, 18, 33, 34, 35]), (11, [1, 2, 5, 7, 16, 17, 18, 33, 34]), (12, [1, 2, 5, 16, 17, 18, 33, 34, 52]), (13, [4]), (14, [1, 2, 5, 16, 17, 18, 33, 34]), (15, [1, 2, 16, 17, 18]), (16, [4])], [(4, [1, 2, 16, 17, 18], []), (10, [1, 2, 5, 16, 17, 18, 33, 34], [])], []⟩
def lb_110_10 : AC :=
  (.seq
    (.region false [⟨some 35, (.bin .lss 3 (.t 34) (.t 33)), 0, none, 0⟩] (some [1, 2, 5, 16, 17, 18, 33, 34, 35]))
    (.seq
      (.cond (.t 35)
        .skip
        (.exit 2))
      (.seq
        (.block 3
          (.seq
            (.region false [⟨some 36, (.mv (.t 34)), 3, none, 0⟩, ⟨some 7, (.mv (.t 36)), 3, none, 0⟩] (some [1, 2, 5, 7, 16, 17, 18, 33, 34]))
            (.seq
              (.region false (gops [⟨some 37, (.mv (.t 1)), 3, none, 0⟩, ⟨some 38, (.mv (.t 7)), 3, none, 0⟩, ⟨some 39, (.call (.f 170) [(.t 37), (.t 38)]), 4, none, 3⟩, ⟨some 40, (.mv (.t 39)), 4, none, 0⟩, ⟨some 41, (.mv (.t 1)), 3, some (40, true), 0⟩, ⟨some 42, (.faddr 27 (.t 2) 1), 0, some (40, true), 0⟩, ⟨some 43, (.load 25 (.t 42)), 25, some (40, true), 0⟩, ⟨some 44, (.mv (.t 5)), 3, some (40, true), 0⟩, ⟨some 45, (.iaddr 25 (.t 43) (.t 44)), 0, some (40, true), 0⟩, ⟨some 46, (.load 23 (.t 45)), 23, some (40, true), 0⟩, ⟨some 47, (.mv (.t 7)), 3, some (40, true), 0⟩, ⟨some 48, (.iaddr 23 (.t 46) (.t 47)), 0, some (40, true), 0⟩, ⟨some 49, (.load 3 (.t 48)), 3, some (40, true), 0⟩, ⟨some 50, (.call (.f 170) [(.t 41), (.t 49)]), 4, some (40, true), 3⟩, ⟨some 51, (.un .not (.t 50)), 4, some (40, true), 0⟩, ⟨some 52, (.pick (.t 40) (.t 51) (.c (.bool false))), 4, none, 0⟩]) (some [1, 2, 5, 16, 17, 18, 33, 34, 52]))
              (.cond (.t 52)
                (.seq
                  (.region false [⟨some 4, (.mv (.c (.bool false))), 4, none, 0⟩] (some [4]))
                  .ret)
                .skip))))
        (.region false [⟨some 53, (.bin .add 3 (.t 34) (.c (.int .i64 1))), 3, none, 0⟩, ⟨some 34, (.mv (.t 53)), 3, none, 0⟩] (some [1, 2, 5, 16, 17, 18, 33, 34])))))
def lb_110_4 : AC :=
  (.seq
    (.region false [⟨some 19, (.bin .lss 3 (.t 18) (.t 17)), 0, none, 0⟩] (some [1, 2, 16, 17, 18, 19]))
    (.seq
      (.cond (.t 19)
        .skip
        (.exit 0))
      (.seq
        (.block 1
          (.seq
            (.region false [⟨some 20, (.mv (.t 18)), 3, none, 0⟩, ⟨some 21, (.iaddr 23 (.t 16) (.t 18)), 0, none, 0⟩, ⟨some 22, (.load 3 (.t 21)), 3, none, 0⟩, ⟨some 5, (.mv (.t 20)), 3, none, 0⟩, ⟨some 6, (.mv (.t 22)), 3, none, 0⟩] (some [1, 2, 5, 6, 16, 17, 18]))
            (.seq
              (.seq
                (.region false [⟨some 23, (.mv (.t 1)), 3, none, 0⟩, ⟨some 24, (.mv (.t 5)), 3, none, 0⟩, ⟨some 25, (.call (.f 170) [(.t 23), (.t 24)]), 4, none, 3⟩, ⟨some 26, (.un .not (.t 25)), 4, none, 0⟩] (some [1, 2, 5, 6, 16, 17, 18, 26]))
                (.cond (.t 26)
                  (.exit 1)
                  .skip))
              (.seq
                (.seq
                  (.region false [⟨some 27, (.mv (.t 6)), 3, none, 0⟩, ⟨some 28, (.mv (.t 1)), 3, none, 0⟩, ⟨some 29, (.bin .andNot 3 (.t 27) (.t 28)), 3, none, 0⟩, ⟨some 30, (.bin .neq 3 (.t 29) (.c (.int .i64 0))), 4, none, 0⟩] (some [1, 2, 5, 16, 17, 18, 30]))
                  (.cond (.t 30)
                    (.seq
                      (.region false [⟨some 4, (.mv (.c (.bool false))), 4, none, 0⟩] (some [4]))
                      .ret)
                    .skip))
                (.seq
                  (.region false [⟨some 31, (.faddr 27 (.t 2) 0), 0, none, 0⟩, ⟨some 32, (.load 23 (.t 31)), 23, none, 0⟩, ⟨some 33, (.len 23 (.t 32)), 3, none, 0⟩, ⟨some 34, (.mv (.c (.int .i64 0))), 3, none, 0⟩] (some [1, 2, 5, 16, 17, 18, 33, 34]))
                  (.block 2
                    (.loop [1, 2, 5, 16, 17, 18, 33, 34] [] lb_110_10)))))))
        (.region false [⟨some 54, (.bin .add 3 (.t 18) (.c (.int .i64 1))), 3, none, 0⟩, ⟨some 18, (.mv (.t 54)), 3, none, 0⟩] (some [1, 2, 16, 17, 18])))))
def fa_110 : FnA := ⟨55, [.t 4],
  (.seq
    (.region false [⟨some 2, (.box 27 (.t 0)), 0, none, 0⟩, ⟨some 4, (.mv (.c (.bool false))), 4, none, 0⟩] (some [1, 2]))
    (.seq
      (.seq
        (.region false [⟨some 8, (.mv (.t 1)), 3, none, 0⟩, ⟨some 9, (.faddr 27 (.t 2) 0), 0, none, 0⟩, ⟨some 10, (.load 23 (.t 9)), 23, none, 0⟩, ⟨some 11, (.len 23 (.t 10)), 3, none, 0⟩, ⟨some 12, (.bin .sub 3 (.t 11) (.c (.int .i64 1))), 3, none, 0⟩, ⟨some 13, (.call (.f 170) [(.t 8), (.t 12)]), 4, none, 3⟩, ⟨some 14, (.un .not (.t 13)), 4, none, 0⟩] (some [1, 2, 14]))
        (.cond (.t 14)
          (.seq
            (.region false [⟨some 4, (.mv (.c (.bool false))), 4, none, 0⟩] (some [4]))
            .ret)
          .skip))
      (.seq
        (.seq
          (.region false [⟨some 15, (.faddr 27 (.t 2) 0), 0, none, 0⟩, ⟨some 16, (.load 23 (.t 15)), 23, none, 0⟩, ⟨some 17, (.len 23 (.t 16)), 3, none, 0⟩, ⟨some 18, (.mv (.c (.int .i64 0))), 3, none, 0⟩] (some [1, 2, 16, 17, 18]))
          (.block 0
            (.loop [1, 2, 16, 17, 18] [] lb_110_4)))
        (.seq
          (.region false [⟨some 4, (.mv (.c (.bool true))), 4, none, 0⟩] (some [4]))
          .ret))))⟩
theorem fok_110 : FnOk Try.prog 110 fa_110 an_110 := ⟨Try.f110, _, Try.func110, rfl, by kernel_rfl, rfl, rfl, by decide, by kernel_rfl⟩
/-- impl.setIn -/
def an_109 : Ann := ⟨[(1, 1, 3), (1, 9, 3)], [(0, [1, 2]), (1, [4])], [], []⟩
def fa_109 : FnA := ⟨16, [.t 4],
  (.seq
    (.region false [⟨some 2, (.box 27 (.t 0)), 0, none, 0⟩, ⟨some 4, (.mv (.c (.bool false))), 4, none, 0⟩] (some [1, 2]))
    (.seq
      (.region false (gops [⟨some 5, (.load 27 (.t 2)), 27, none, 0⟩, ⟨some 6, (.call (.f 23) [(.t 5)]), 4, none, 3⟩, ⟨some 7, (.mv (.t 6)), 4, none, 0⟩, ⟨some 8, (.mv (.t 1)), 3, some (7, true), 0⟩, ⟨some 9, (.faddr 27 (.t 2) 0), 0, some (7, true), 0⟩, ⟨some 10, (.load 23 (.t 9)), 23, some (7, true), 0⟩, ⟨some 11, (.len 23 (.t 10)), 3, some (7, true), 0⟩, ⟨some 12, (.bin .shl 3 (.c (.int .i64 1)) (.t 11)), 3, some (7, true), 0⟩, ⟨some 13, (.bin .sub 3 (.t 12) (.c (.int .i64 1))), 3, some (7, true), 0⟩, ⟨some 14, (.call (.f 101) [(.t 8), (.c (.int .i64 0)), (.t 13)]), 4, some (7, true), 3⟩, ⟨some 15, (.pick (.t 7) (.t 14) (.c (.bool false))), 4, none, 0⟩, ⟨some 4, (.mv (.t 15)), 4, none, 0⟩]) (some [4]))
      .ret))⟩
theorem fok_109 : FnOk Try.prog 109 fa_109 an_109 := ⟨Try.f109, _, Try.func109, rfl, by kernel_rfl, rfl, rfl, by decide, by kernel_rfl⟩
/-- impl.IsFilter -/
def an_27 : Ann := ⟨[(1, 2, 3), (1, 6, 3)], [(0, [1, 2]), (1, [4])], [], []⟩
def fa_27 : FnA := ⟨13, [.t 4],
  (.seq
    (.region false [⟨some 2, (.box 27 (.t 0)), 0, none, 0⟩, ⟨some 4, (.mv (.c (.bool false))), 4, none, 0⟩] (some [1, 2]))
    (.seq
      (.region false (gops [⟨some 5, (.load 27 (.t 2)), 27, none, 0⟩, ⟨some 6, (.mv (.t 1)), 3, none, 0⟩, ⟨some 7, (.call (.f 109) [(.t 5), (.t 6)]), 4, none, 3⟩, ⟨some 8, (.mv (.t 7)), 4, none, 0⟩, ⟨some 9, (.load 27 (.t 2)), 27, some (8, true), 0⟩, ⟨some 10, (.mv (.t 1)), 3, some (8, true), 0⟩, ⟨some 11, (.call (.f 110) [(.t 9), (.t 10)]), 4, some (8, true), 3⟩, ⟨some 12, (.pick (.t 8) (.t 11) (.c (.bool false))), 4, none, 0⟩, ⟨some 4, (.mv (.t 12)), 4, none, 0⟩]) (some [4]))
      .ret))⟩
theorem fok_27 : FnOk Try.prog 27 fa_27 an_27 := ⟨Try.f27, _, Try.func27, rfl, by kernel_rfl, rfl, rfl, by decide, by kernel_rfl⟩
end Go.PS
end

section
-- Sets of elements by bits; filters, in plain Lean.
set_option linter.unusedVariables false
set_option linter.unusedSimpArgs false
namespace Go.PS

-- sets by bits

/-- The set of the numbers below 'n' with 'p'. -/
def mskN (n : Nat) (p : Nat → Bool) : Nat := (List.range n).foldl (fun o i => if p i then o ||| 2 ^ i else o) 0
theorem mskN_succ {n : Nat} {p : Nat → Bool} : mskN (n + 1) p = if p n then mskN n p ||| 2 ^ n else mskN n p := by
  simp [mskN, List.range_succ]
theorem mskN_bit {p : Nat → Bool} {x : Nat} : ∀ n : Nat, (mskN n p).testBit x = (decide (x < n) && p x)
  | 0 => by simp [mskN]
  | n + 1 => by
    have ih := mskN_bit (p := p) (x := x) n
    rw [mskN_succ]
    by_cases e : x = n
    · subst e
      split
      · rename_i h
        simp [Nat.testBit_or, Nat.testBit_two_pow, h]
      · rename_i h
        rw [ih]
        simp [h]
    · have e2 : (decide (x < n + 1)) = decide (x < n) := by rw [Bool.eq_iff_iff]; simp; omega
      rw [e2]
      split
      · rw [Nat.testBit_or, ih, Nat.testBit_two_pow, show decide (n = x) = false by simp; omega, Bool.or_false]
      · exact ih
theorem lt_of_bits {n f : Nat} (h : ∀ x, f.testBit x = true → x < n) : f < 2 ^ n :=
  Nat.lt_pow_two_of_testBit f (fun i hi => by
    cases hb : f.testBit i
    · rfl
    · have := h i hb; omega)
theorem mskN_lt {n : Nat} {p : Nat → Bool} : mskN n p < 2 ^ n := lt_of_bits fun x hx => by rw [mskN_bit] at hx; simp at hx; exact hx.1
theorem full_bit {n x : Nat} : (2 ^ n - 1).testBit x = decide (x < n) := Nat.testBit_two_pow_sub_one n x

section
variable {u : List Int} {t : List (List Int)} {x y z w : Nat}

structure FI (u : List Int) (t : List (List Int)) (f : Nat) : Prop where
  lt : f < 2 ^ u.length
  top : f.testBit (u.length - 1) = true
  up : ∀ x, x < u.length → ∀ y, y < u.length → f.testBit x = true → tb u x y = true → f.testBit y = true
  mul : ∀ x, x < u.length → ∀ y, y < u.length → f.testBit x = true → f.testBit y = true → f.testBit (tn t x y) = true
noncomputable instance (u : List Int) (t : List (List Int)) (f : Nat) : Decidable (FI u t f) := Classical.propDecidable _

noncomputable def filN (u : List Int) (t : List (List Int)) (m : Nat) : List Nat := (List.range m).filter fun f => decide (FI u t f)
theorem mem_fil {f : Nat} : f ∈ filN u t (2 ^ u.length) ↔ FI u t f := by
  simp only [filN, List.mem_filter, List.mem_range, decide_eq_true_eq]
  exact ⟨fun h => h.2, fun h => ⟨h.lt, h⟩⟩
theorem filN_zero : filN u t 0 = [] := rfl
theorem filN_succ {m : Nat} : filN u t (m + 1) = filN u t m ++ (if FI u t m then [m] else []) := by
  simp only [filN, List.range_succ, List.filter_append, List.filter_cons, List.filter_nil, decide_eq_true_eq]
theorem filN_len {m : Nat} : (filN u t m).length ≤ m := by
  have := List.length_filter_le (fun f => decide (FI u t f)) (List.range m)
  unfold filN
  simpa using this

theorem FI.and {f g : Nat} (a : VA u t) (hf : FI u t f) (hg : FI u t g) : FI u t (f &&& g) := by
  refine ⟨Nat.lt_of_le_of_lt Nat.and_le_left hf.lt, ?_, fun x hx y hy h1 h2 => ?_, fun x hx y hy h1 h2 => ?_⟩
  · rw [Nat.testBit_and, hf.top, hg.top]; rfl
  · rw [Nat.testBit_and, Bool.and_eq_true] at h1 ⊢
    exact ⟨hf.up x hx y hy h1.1 h2, hg.up x hx y hy h1.2 h2⟩
  · rw [Nat.testBit_and, Bool.and_eq_true] at h1 h2 ⊢
    exact ⟨hf.mul x hx y hy h1.1 h2.1, hg.mul x hx y hy h1.2 h2.2⟩
theorem fi_all (a : VA u t) : FI u t (2 ^ u.length - 1) := by
  have hp := a.lat.pos
  have h2 : 0 < 2 ^ u.length := Nat.pow_pos (by omega)
  refine ⟨by omega, by rw [full_bit]; simp; omega, fun x hx y hy _ _ => by rw [full_bit]; simpa using hy, fun x hx y hy _ _ => by rw [full_bit]; simpa using a.tn_lt hx hy⟩
-- powers
theorem countP_lt {p q : Nat → Bool} {z : Nat} (h1 : q z = true) (h2 : p z = false) : ∀ {l : List Nat}, (∀ x ∈ l, p x = true → q x = true) → z ∈ l → l.countP p < l.countP q
  | [], _, hz => by cases hz
  | x :: l, h, hz => by
    have hm := List.countP_mono_left (l := l) (p := p) (q := q) (fun y hy => h y (by simp [hy]))
    simp only [List.countP_cons]
    rcases List.mem_cons.1 hz with e | e
    · subst e
      simp [h1, h2]; omega
    · have ih := countP_lt h1 h2 (l := l) (fun y hy => h y (by simp [hy])) e
      have hx := h x (by simp)
      cases hp : p x
      · simp; omega
      · simp [hx hp]; omega
theorem firstI_least {n : Nat} {p : Nat → Bool} {z : Nat} (h : firstI n p = z) : z < n ∧ p z = true ∧ ∀ j, j < z → p j = false := by
  unfold firstI at h
  split at h
  · rename_i k hk
    rw [List.find?_range_eq_some] at hk
    have : k = z := by omega
    subst this
    exact ⟨by simpa using hk.2.1, hk.1, fun j hj => by simpa using hk.2.2 j hj⟩
  · omega
-- classes
theorem VA.im_topl (a : VA u t) (hx : x < u.length) : im u t (u.length - 1) x = x := by
  have hp := a.lat.pos
  have h1 := a.im_lt (x := u.length - 1) (y := x)
  have k1 := a.res (x := u.length - 1) (y := x) (z := im u t (u.length - 1) x) (by omega) hx h1
  rw [a.tn_topl h1, a.lat.rf h1] at k1
  have k2 := a.res (x := u.length - 1) (y := x) (z := x) (by omega) hx hx
  rw [a.tn_topl hx, a.lat.rf hx] at k2
  exact a.lat.eq h1 hx k1 k2.symm
theorem VA.im_topr (a : VA u t) (hx : x < u.length) : im u t x (u.length - 1) = u.length - 1 := (a.im_top hx (by omega)).2 (a.lat.topl hx)
theorem VA.nr_topr (a : VA u t) (hx : x < u.length) : nr u t x (u.length - 1) = x := by
  show tn t (im u t x (u.length - 1)) (im u t (u.length - 1) x) = x
  rw [a.im_topr hx, a.im_topl hx, a.tn_topl hx]
def clsI (u : List Int) (t : List (List Int)) (f x : Nat) : Int := firstI u.length fun y => f.testBit (nr u t x y)
theorem FI.nr_self {f : Nat} (a : VA u t) (hf : FI u t f) (hx : x < u.length) : f.testBit (nr u t x x) = true := by
  rw [(a.nr_top hx hx).2 rfl]; exact hf.top
theorem FI.nr_tr {f : Nat} (a : VA u t) (hf : FI u t f) (hx : x < u.length) (hy : y < u.length) (hz : z < u.length) (h : f.testBit (nr u t x y) = true) (h2 : f.testBit (nr u t y z) = true) : f.testBit (nr u t x z) = true :=
  hf.up _ (a.tn_lt a.nr_lt a.nr_lt) _ a.nr_lt (hf.mul _ a.nr_lt _ a.nr_lt h h2) (a.nr_tr hx hy hz)
theorem cls_spec {f : Nat} (a : VA u t) (hf : FI u t f) (hx : x < u.length) : ∃ k : Nat, clsI u t f x = k ∧ k ≤ x ∧ f.testBit (nr u t x k) = true ∧ ∀ j, j < k → f.testBit (nr u t x j) = false := by
  rcases firstI_range (n := u.length) (p := fun y => f.testBit (nr u t x y)) with e | ⟨k, hk, hz, e⟩
  · exfalso
    unfold firstI at e
    split at e
    · omega
    · rename_i hn
      rw [List.find?_eq_none] at hn
      have := hn x (by simpa using hx)
      rw [hf.nr_self a hx] at this
      exact this rfl
  · have q := firstI_least e
    refine ⟨k, e, ?_, q.2.1, q.2.2⟩
    rcases Nat.lt_or_ge x k with c | c
    · have := q.2.2 x c
      rw [hf.nr_self a hx] at this; cases this
    · exact c
theorem cls_same {f : Nat} (a : VA u t) (hf : FI u t f) (hx : x < u.length) (hy : y < u.length) : clsI u t f x = clsI u t f y ↔ f.testBit (nr u t x y) = true := by
  constructor
  · intro e
    obtain ⟨k, e1, l1, h1, _⟩ := cls_spec a hf hx
    obtain ⟨m, e2, l2, h2, _⟩ := cls_spec a hf hy
    have : k = m := by omega
    subst this
    rw [a.nr_comm] at h2
    exact hf.nr_tr a hx (by omega) hy h1 h2
  · intro h
    unfold clsI firstI
    have : ∀ z, z < u.length → f.testBit (nr u t x z) = f.testBit (nr u t y z) := fun z hz => by
      rw [Bool.eq_iff_iff]
      constructor
      · intro h2
        rw [a.nr_comm] at h
        exact hf.nr_tr a hy hx hz h h2
      · intro h2
        exact hf.nr_tr a hx hy hz h h2
    have e : (List.range u.length).find? (fun z => f.testBit (nr u t x z)) = (List.range u.length).find? (fun z => f.testBit (nr u t y z)) := by
      have key : ∀ l : List Nat, (∀ z ∈ l, z < u.length) → l.find? (fun z => f.testBit (nr u t x z)) = l.find? (fun z => f.testBit (nr u t y z)) := by
        intro l
        induction l with
        | nil => intro _; rfl
        | cons z l ih =>
          intro hl
          simp only [List.find?_cons, this z (hl z (by simp)), ih (fun w hw => hl w (by simp [hw]))]
      exact key _ (fun z hz => by simpa using hz)
    rw [e]
end
end Go.PS
end

section
-- Contracts: sets by bits; filters of the reference.
set_option maxRecDepth 100000
set_option linter.unusedVariables false
set_option linter.unusedSimpArgs false
namespace Go.PS
open Go.Proofs

/-- A bit, 0 or 1. -/
def bitI (x : Int) (j : Nat) : Int := if x.toNat.testBit j then 1 else 0
@[simp] theorem bitI_one {x : Int} {j : Nat} : bitI x j = 1 ↔ x.toNat.testBit j = true := by unfold bitI; split <;> simp_all
@[simp] theorem bitI_zero {x : Int} {j : Nat} : bitI x j = 0 ↔ x.toNat.testBit j = false := by unfold bitI; split <;> simp_all
theorem bitI_eq {x : Int} (h0 : 0 ≤ x) (j : Nat) : (x.tdiv (2 ^ j)).tmod 2 = bitI x j := by
  have h := bit_math h0 j
  unfold bitI
  split
  · rename_i hb; exact h.2 hb
  · rename_i hb
    have h1 : ¬ (x.tdiv (2 ^ j)).tmod 2 = 1 := fun e => hb (h.1 e)
    have hp : (0 : Int) < 2 ^ j := Int.pow_pos (by omega)
    have h2 : 0 ≤ x.tdiv (2 ^ j) := Int.tdiv_nonneg h0 (by omega)
    have h3 := Int.tmod_nonneg (a := x.tdiv (2 ^ j)) 2 h2
    have h4 := Int.tmod_lt_of_pos (x.tdiv (2 ^ j)) (b := 2) (by omega)
    omega
theorem p2w {n : Nat} (h : n ≤ 6) : IntKind.i64.wrap ((2 : Int) ^ n - 1) = 2 ^ n - 1 := by
  have : n = 0 ∨ n = 1 ∨ n = 2 ∨ n = 3 ∨ n = 4 ∨ n = 5 ∨ n = 6 := by omega
  rcases this with rfl | rfl | rfl | rfl | rfl | rfl | rfl <;> rfl
theorem p2le {n : Nat} (h : n ≤ 6) : 0 < 2 ^ n ∧ 2 ^ n ≤ 64 := ⟨Nat.pow_pos (by omega), Nat.pow_le_pow_right (n := 2) (by omega) h⟩
theorem p2i {n : Nat} : (2 : Int) ^ n = ((2 ^ n : Nat) : Int) := by push_cast; rfl
theorem bitS_pc (x j : Int) (h0 : 0 ≤ x) (h1 : x < 64) (h2 : 0 ≤ j) (h3 : j ≤ 61) : PC Try.prog 171 [I64 x, I64 j] none true (fun r _ => r = I64 (bitI x j.toNat)) := by
  rw [← bitI_eq h0]
  exact bit_pc x j h0 h1 h2 h3
noncomputable def fm_bitS : Fam Try.prog := mkFam (X := Int × Int) 171 true (fun (x, j) => [I64 x, I64 j]) (fun (x, j) => (0 ≤ x) ∧ (x < 64) ∧ (0 ≤ j) ∧ (j ≤ 61)) (fun (x, j) => I64 (bitI x j.toNat)) (by
  rintro ⟨x, j⟩ ⟨h0, h1, h2, h3⟩
  exact bitS_pc x j h0 h1 h2 h3)
@[simp] theorem fm_bitS_id : fm_bitS.id = 171 := rfl
@[simp] theorem fm_bitS_fresh : fm_bitS.fresh = true := rfl
@[simp] theorem fm_bitS_look (x j : Int) (h0 : 0 ≤ x) (h1 : x < 64) (h2 : 0 ≤ j) (h3 : j ≤ 61) : fm_bitS.look [I64 x, I64 j] = some (I64 (bitI x j.toNat)) :=
  lookF_of (X := Int × Int) (args := fun (x, j) => [I64 x, I64 j]) (pre := fun (x, j) => (0 ≤ x) ∧ (x < 64) ∧ (0 ≤ j) ∧ (j ≤ 61)) (val := fun (x, j) => I64 (bitI x j.toNat)) (by
  rintro ⟨x, j⟩ ⟨x', j'⟩ h
  simp at h
  try simp only [and_assoc] at h
  obtain ⟨rfl, rfl⟩ := h
  rfl) (x, j) ⟨h0, h1, h2, h3⟩
attribute [irreducible] fm_bitS
/-- Is a number a set of so many elements? -/
def inS (n : Nat) (f : Int) : Bool := decide (0 ≤ f) && decide (f ≤ 2 ^ n - 1)
theorem inS_ex {n : Nat} {f : Int} (h : inS n f = true) : ∃ k : Nat, f = k ∧ k < 2 ^ n := by
  simp only [inS, Bool.and_eq_true, decide_eq_true_eq, p2i] at h
  exact ⟨f.toNat, by omega, by omega⟩
theorem inS_nat {n k : Nat} (h : k < 2 ^ n) : inS n (k : Int) = true := by
  simp only [inS, Bool.and_eq_true, decide_eq_true_eq, p2i]
  omega
set_option maxHeartbeats 1000000 in
theorem isFilS_pc (u : List Int) (t : List (List Int)) (f : Int) (a : VA u t) : PC Try.prog 112 [AL u t, I64 f] none true (fun r _ => r = .bool (inS u.length f && decide (FI u t f.toNat))) := by
  have v := a.lat
  have hp := v.pos
  have h6 := v.six
  have hul : u.length ≤ 1099511627776 := by omega
  have hw := p2w h6
  have h64 := p2le h6
  have w1 : IntKind.i64.wrap ((u.length : Int) - 1) = ((u.length - 1 : Nat) : Int) := by rw [wrap64 (by omega) (by omega)]; omega
  refine pcT [fm_power, fm_inRange, fm_bitS, fm_belowS] fok_112 ?_
  simp [fa_112]
  cases hb : inS u.length f
  · refine cutW (tabK_mono _) [(23, .bool true)] (by
      simp only [inS] at hb
      simp [hw, hb, show (u.length : Int) ≤ 61 by omega]) ?_
    simp
  obtain ⟨f, rfl, hf⟩ := inS_ex hb
  simp only [Int.toNat_natCast]
  have hf2 : (f : Int) ≤ 2 ^ u.length - 1 := by rw [p2i]; omega
  have f64 : (f : Int) < 64 := by omega
  refine cutW (tabK_mono _) [(23, .bool (!f.testBit (u.length - 1)))] (by
    simp [hw, hf2, f64, w1, show (u.length : Int) ≤ 61 by omega, show ((u.length - 1 : Nat) : Int) ≤ 61 by omega]) ?_
  simp
  refine ⟨fun h F => ?_, fun ht => ?_⟩
  · rw [F.top] at h; cases h
  refine loopA (tabK_mono _) u.length (fun i => [(6, I64 i)]) (fun _ => []) (fun x => ∀ y, y < u.length → f.testBit x = true → (tb u x y = true → f.testBit y = true) ∧ (f.testBit y = true → f.testBit (tn t x y) = true)) (by simp) (by simp) (fun x g hx hP => ?_)
  simp [lb_112_5, wrap_succ hx hul]
  refine ⟨fun h2 => ?_, fun h2 => ?_⟩
  · refine loopA (tabK_mono _) u.length (fun i => [(7, I64 i)]) (fun _ => []) (fun y => f.testBit x = true → (tb u x y = true → f.testBit y = true) ∧ (f.testBit y = true → f.testBit (tn t x y) = true)) (by simp) (by simp) (fun y g2 hy hQ => ?_)
    simp [lb_112_8, wrap_succ hy hul]
    refine ⟨fun h3 => ?_, fun h3 => ?_⟩
    · have s1 := a.tn_int h2 h3
      have s2 := a.tn_lt h2 h3
      have hlen := a.len
      have hrow := a.rows x h2
      refine cutW (tabK_mono _) [(69, .bool (f.testBit x && (tb u x y && !f.testBit y || f.testBit y && !f.testBit (tn t x y))))] (by
        generalize tn t x y = w at *
        cases b1 : f.testBit x
        · simp [b1, f64, show (x : Int) ≤ 61 by omega]
        · cases b2 : tb u x y <;> cases b3 : f.testBit y <;> simp [b1, b2, b3, v.sm, h2, h3, s1, hlen, hrow, f64, show (x : Int) ≤ 61 by omega, show (y : Int) ≤ 61 by omega, show (w : Int) ≤ 61 by omega]) ?_
      simp
      refine ⟨fun b1 b2 F => ?_, fun b => ⟨h3, wrap_succ hy hul, b⟩⟩
      rcases b2 with ⟨c1, c2⟩ | ⟨c1, c2⟩
      · rw [F.up x h2 y h3 b1 c1] at c2; cases c2
      · rw [F.mul x h2 y h3 b1 c1] at c2; cases c2
    · exact ⟨h2, wrap_succ hx hul, fun y hy => hQ y (by omega)⟩
  · exact ⟨hf, ht, fun x hx y hy b1 b2 => (hP x (by omega) y hy b1).1 b2, fun x hx y hy b1 b2 => (hP x (by omega) y hy b1).2 b2⟩
noncomputable def fm_isFilS : Fam Try.prog := mkFam (X := List Int × List (List Int) × Int) 112 true (fun (u, t, f) => [AL u t, I64 f]) (fun (u, t, f) => (VA u t)) (fun (u, t, f) => .bool (inS u.length f && decide (FI u t f.toNat))) (by
  rintro ⟨u, t, f⟩ a
  exact isFilS_pc u t f a)
@[simp] theorem fm_isFilS_id : fm_isFilS.id = 112 := rfl
@[simp] theorem fm_isFilS_fresh : fm_isFilS.fresh = true := rfl
@[simp] theorem fm_isFilS_look (u : List Int) (t : List (List Int)) (f : Int) (a : VA u t) : fm_isFilS.look [AL u t, I64 f] = some (.bool (inS u.length f && decide (FI u t f.toNat))) :=
  lookF_of (X := List Int × List (List Int) × Int) (args := fun (u, t, f) => [AL u t, I64 f]) (pre := fun (u, t, f) => (VA u t)) (val := fun (u, t, f) => .bool (inS u.length f && decide (FI u t f.toNat))) (by
  rintro ⟨u, t, f⟩ ⟨u', t', f'⟩ h
  simp at h
  try simp only [and_assoc] at h
  obtain ⟨rfl, rfl, rfl⟩ := h
  rfl) (u, t, f) a
attribute [irreducible] fm_isFilS
theorem leBig {n : Nat} (h : n ≤ 1099511627776) : n ≤ big := h
/-- Numbers as a list of the program's. -/
abbrev natL (l : List Nat) : List Int := l.map fun (x : Nat) => (x : Int)
theorem gi_natL {l : List Nat} {i : Nat} (h : i < l.length) : gi (natL l) i = ((l[i] : Nat) : Int) := by simp [gi, h]
theorem filS_pc (u : List Int) (t : List (List Int)) (a : VA u t) : PC Try.prog 119 [AL u t] none true (fun r _ => r = IO1 (natL (filN u t (2 ^ u.length)))) := by
  have v := a.lat
  have h6 := v.six
  have h64 := p2le h6
  have hp2 : (2 : Int) ^ u.length = ((2 ^ u.length : Nat) : Int) := p2i
  refine pcT [fm_power, fm_isFilS] fok_119 ?_
  simp [fa_119]
  refine loopX (tabK_mono _) (2 ^ u.length) (fun i γ => [(3, .arr 40 γ), (4, I64 i)]) (fun i γ => [⟨40, γ, .arr 1 (ints (natL (filN u t i)))⟩]) (fun _ _ => True) 1 (by simp) (by simp [filN_zero, ints_nil]) trivial (fun i γ g hi _ => ?_)
  have hcond : ((i : Int) < 2 ^ u.length) ↔ i < 2 ^ u.length := by rw [hp2]; omega
  simp [lb_119_3, show (u.length : Int) ≤ 61 by omega, hcond, wrap_succ hi (show 2 ^ u.length ≤ 1099511627776 by omega)]
  refine ⟨fun h => ?_, fun h => ?_⟩
  · have hle := filN_len (u := u) (t := t) (m := i)
    have hs := filN_succ (u := u) (t := t) (m := i)
    have hin := inS_nat h
    generalize filN u t i = l0 at *
    simp [a, hin, wrap_succ hi (show 2 ^ u.length ≤ 1099511627776 by omega)]
    refine ⟨fun F => ?_, fun F => ?_⟩
    · rw [if_pos F] at hs
      simp [hs]
      exact ⟨leBig (by omega), h⟩
    · rw [if_neg F] at hs
      simp [hs]
      exact h
  · obtain rfl : i = 2 ^ u.length := by omega
    rfl
noncomputable def fm_filS : Fam Try.prog := mkFam (X := List Int × List (List Int)) 119 true (fun (u, t) => [AL u t]) (fun (u, t) => (VA u t)) (fun (u, t) => IO1 (natL (filN u t (2 ^ u.length)))) (by
  rintro ⟨u, t⟩ a
  exact filS_pc u t a)
@[simp] theorem fm_filS_id : fm_filS.id = 119 := rfl
@[simp] theorem fm_filS_fresh : fm_filS.fresh = true := rfl
@[simp] theorem fm_filS_look (u : List Int) (t : List (List Int)) (a : VA u t) : fm_filS.look [AL u t] = some (IO1 (natL (filN u t (2 ^ u.length)))) :=
  lookF_of (X := List Int × List (List Int)) (args := fun (u, t) => [AL u t]) (pre := fun (u, t) => (VA u t)) (val := fun (u, t) => IO1 (natL (filN u t (2 ^ u.length)))) (by
  rintro ⟨u, t⟩ ⟨u', t'⟩ h
  simp at h
  try simp only [and_assoc] at h
  obtain ⟨rfl, rfl⟩ := h
  rfl) (u, t) a
attribute [irreducible] fm_filS
noncomputable def ifM (u : List Int) (t : List (List Int)) (f : Int) : Bool := decide (VA u t) && inS u.length f && decide (FI u t f.toNat)
end Go.PS
end

section
-- Counting: what goes into a list without repeats is no more than the list.
set_option linter.unusedVariables false
set_option linter.unusedSimpArgs false
namespace Go.PS
end Go.PS
end

section
-- Contracts: filters of the program; lists and weights of the laws.
set_option maxRecDepth 100000
set_option linter.unusedVariables false
set_option linter.unusedSimpArgs false
namespace Go.PS
open Go.Proofs

theorem hasI_pc (f x : Int) (h0 : 0 ≤ x) (h1 : x ≤ 63) : PC Try.prog 170 [I64 f, I64 x] none true (fun r _ => r = .bool (f.toNat.testBit x.toNat)) := by
  obtain ⟨x, rfl⟩ := Int.eq_ofNat_of_zero_le h0
  have h := shr_bit f (y := x) (by omega)
  refine pcT [] fok_170 ?_
  simp [fa_170, h]
noncomputable def fm_hasI : Fam Try.prog := mkFam (X := Int × Int) 170 true (fun (f, x) => [I64 f, I64 x]) (fun (f, x) => (0 ≤ x) ∧ (x ≤ 63)) (fun (f, x) => .bool (f.toNat.testBit x.toNat)) (by
  rintro ⟨f, x⟩ ⟨h0, h1⟩
  exact hasI_pc f x h0 h1)
@[simp] theorem fm_hasI_id : fm_hasI.id = 170 := rfl
@[simp] theorem fm_hasI_fresh : fm_hasI.fresh = true := rfl
@[simp] theorem fm_hasI_look (f x : Int) (h0 : 0 ≤ x) (h1 : x ≤ 63) : fm_hasI.look [I64 f, I64 x] = some (.bool (f.toNat.testBit x.toNat)) :=
  lookF_of (X := Int × Int) (args := fun (f, x) => [I64 f, I64 x]) (pre := fun (f, x) => (0 ≤ x) ∧ (x ≤ 63)) (val := fun (f, x) => .bool (f.toNat.testBit x.toNat)) (by
  rintro ⟨f, x⟩ ⟨f', x'⟩ h
  simp at h
  try simp only [and_assoc] at h
  obtain ⟨rfl, rfl⟩ := h
  rfl) (f, x) ⟨h0, h1⟩
attribute [irreducible] fm_hasI
theorem shl2w {n : Nat} (h : n ≤ 6) : bShl .i64 1 (n : Int) = 2 ^ n ∧ IntKind.i64.wrap ((2 : Int) ^ n - 1) = 2 ^ n - 1 := by
  have : n = 0 ∨ n = 1 ∨ n = 2 ∨ n = 3 ∨ n = 4 ∨ n = 5 ∨ n = 6 := by omega
  rcases this with rfl | rfl | rfl | rfl | rfl | rfl | rfl <;> exact ⟨rfl, rfl⟩
theorem setInI_pc (u : List Int) (t : List (List Int)) (f : Int) (hu : Big u.length) (ht : BigR t) : PC Try.prog 109 [AL u t, I64 f] none true (fun r _ => r = .bool (decide (VA u t) && inS u.length f)) := by
  refine pcT [fm_validAlgebraI, fm_within] fok_109 ?_
  by_cases a : VA u t
  · have hw := shl2w a.lat.six
    simp [gops, fa_109, hu, ht, a, hw, inS]
  · simp [gops, fa_109, hu, ht, a]
noncomputable def fm_setInI : Fam Try.prog := mkFam (X := List Int × List (List Int) × Int) 109 true (fun (u, t, f) => [AL u t, I64 f]) (fun (u, t, f) => (Big u.length) ∧ (BigR t)) (fun (u, t, f) => .bool (decide (VA u t) && inS u.length f)) (by
  rintro ⟨u, t, f⟩ ⟨hu, ht⟩
  exact setInI_pc u t f hu ht)
@[simp] theorem fm_setInI_id : fm_setInI.id = 109 := rfl
@[simp] theorem fm_setInI_fresh : fm_setInI.fresh = true := rfl
@[simp] theorem fm_setInI_look (u : List Int) (t : List (List Int)) (f : Int) (hu : Big u.length) (ht : BigR t) : fm_setInI.look [AL u t, I64 f] = some (.bool (decide (VA u t) && inS u.length f)) :=
  lookF_of (X := List Int × List (List Int) × Int) (args := fun (u, t, f) => [AL u t, I64 f]) (pre := fun (u, t, f) => (Big u.length) ∧ (BigR t)) (val := fun (u, t, f) => .bool (decide (VA u t) && inS u.length f)) (by
  rintro ⟨u, t, f⟩ ⟨u', t', f'⟩ h
  simp at h
  try simp only [and_assoc] at h
  obtain ⟨rfl, rfl, rfl⟩ := h
  rfl) (u, t, f) ⟨hu, ht⟩
attribute [irreducible] fm_setInI
set_option maxHeartbeats 1000000 in
theorem isFilI_pc (u : List Int) (t : List (List Int)) (f : Int) (a : VA u t) (hf : inS u.length f = true) : PC Try.prog 110 [AL u t, I64 f] none true (fun r _ => r = .bool (decide (FI u t f.toNat))) := by
  obtain ⟨f, rfl, hf2⟩ := inS_ex hf
  simp only [Int.toNat_natCast]
  have v := a.lat
  have hp := v.pos
  have h6 := v.six
  have hul : u.length ≤ 1099511627776 := by omega
  have h64 := p2le h6
  have w1 : IntKind.i64.wrap ((u.length : Int) - 1) = ((u.length - 1 : Nat) : Int) := by rw [wrap64 (by omega) (by omega)]; omega
  refine pcT [fm_hasI] fok_110 ?_
  simp [fa_110, w1, show ((u.length - 1 : Nat) : Int) ≤ 63 by omega]
  refine ⟨fun h F => ?_, fun ht => ?_⟩
  · rw [F.top] at h; cases h
  refine loopA (tabK_mono _) u.length (fun i => [(18, I64 i)]) (fun _ => []) (fun x => f.testBit x = true → (∀ y, y < u.length → tb u x y = true → f.testBit y = true) ∧ ∀ y, y < u.length → f.testBit y = true → f.testBit (tn t x y) = true) (by simp) (by simp) (fun x g hx hP => ?_)
  simp [lb_110_4, wrap_succ hx hul]
  refine ⟨fun h2 => ?_, fun h2 => ?_⟩
  · have hr := v.sm.lt h2
    have hz := bAndNot_zero (a := gi u x) (b := (f : Int)) hr.1 (by omega) (by omega) (by omega)
    have hz2 : bAndNot .i64 (gi u x) f = 0 ↔ ∀ y, y < u.length → tb u x y = true → f.testBit y = true := by
      rw [hz]
      simp only [Int.toNat_natCast]
      exact ⟨fun h y _ hy => h y hy, fun h y hy => h y (v.sm.bit h2 hy) hy⟩
    simp [h2, show (x : Int) ≤ 63 by omega, wrap_succ hx hul, hz2]
    refine ⟨fun b1 b2 => (by rw [b1] at b2; cases b2), fun b1 => ?_⟩
    refine ⟨fun y hy c1 c2 F => ?_, fun hup => ?_⟩
    · rw [F.up x h2 y hy b1 c1] at c2; cases c2
    refine loopA (tabK_mono _) u.length (fun i => [(34, I64 i)]) (fun _ => []) (fun y => f.testBit y = true → f.testBit (tn t x y) = true) (by simp) (by simp) (fun y g2 hy hQ => ?_)
    simp [lb_110_10, wrap_succ hy hul]
    refine ⟨fun h3 => ?_, fun h3 => ?_⟩
    · have s1 := a.tn_int h2 h3
      have s2 := a.tn_lt h2 h3
      have hlen := a.len
      have hrow := a.rows x h2
      refine cutW (tabK_mono _) [(52, .bool (f.testBit y && !f.testBit (tn t x y)))] (by
        generalize tn t x y = w at *
        cases b2 : f.testBit y <;> simp [b2, h2, h3, s1, hlen, hrow, show (y : Int) ≤ 63 by omega, show (w : Int) ≤ 63 by omega]) ?_
      simp [wrap_succ hy hul]
      refine ⟨fun c1 c2 F => ?_, fun b => ⟨h3, b⟩⟩
      rw [F.mul x h2 y h3 b1 c1] at c2; cases c2
    · simp [wrap_succ hx hul]
      exact ⟨h2, fun _ => ⟨hup, fun y hy => hQ y (by omega)⟩⟩
  · exact ⟨hf2, ht, fun x hx y hy b1 b2 => (hP x (by omega) b1).1 y hy b2, fun x hx y hy b1 b2 => (hP x (by omega) b1).2 y hy b2⟩
noncomputable def fm_isFilI : Fam Try.prog := mkFam (X := List Int × List (List Int) × Int) 110 true (fun (u, t, f) => [AL u t, I64 f]) (fun (u, t, f) => (VA u t) ∧ (inS u.length f = true)) (fun (u, t, f) => .bool (decide (FI u t f.toNat))) (by
  rintro ⟨u, t, f⟩ ⟨a, hf⟩
  exact isFilI_pc u t f a hf)
@[simp] theorem fm_isFilI_id : fm_isFilI.id = 110 := rfl
@[simp] theorem fm_isFilI_fresh : fm_isFilI.fresh = true := rfl
@[simp] theorem fm_isFilI_look (u : List Int) (t : List (List Int)) (f : Int) (a : VA u t) (hf : inS u.length f = true) : fm_isFilI.look [AL u t, I64 f] = some (.bool (decide (FI u t f.toNat))) :=
  lookF_of (X := List Int × List (List Int) × Int) (args := fun (u, t, f) => [AL u t, I64 f]) (pre := fun (u, t, f) => (VA u t) ∧ (inS u.length f = true)) (val := fun (u, t, f) => .bool (decide (FI u t f.toNat))) (by
  rintro ⟨u, t, f⟩ ⟨u', t', f'⟩ h
  simp at h
  try simp only [and_assoc] at h
  obtain ⟨rfl, rfl, rfl⟩ := h
  rfl) (u, t, f) ⟨a, hf⟩
attribute [irreducible] fm_isFilI
theorem IsFilI_pc (u : List Int) (t : List (List Int)) (f : Int) (hu : Big u.length) (ht : BigR t) : PC Try.prog 27 [AL u t, I64 f] none true (fun r _ => r = .bool (ifM u t f)) := by
  refine pcT [fm_setInI, fm_isFilI] fok_27 ?_
  unfold ifM
  cases hb : (decide (VA u t) && inS u.length f)
  · simp [gops, fa_27, hu, ht, hb]
  · have h := hb
    simp only [Bool.and_eq_true, decide_eq_true_eq] at h
    simp [gops, fa_27, hu, ht, hb, h.1, h.2]
noncomputable def fm_IsFilI : Fam Try.prog := mkFam (X := List Int × List (List Int) × Int) 27 true (fun (u, t, f) => [AL u t, I64 f]) (fun (u, t, f) => (Big u.length) ∧ (BigR t)) (fun (u, t, f) => .bool (ifM u t f)) (by
  rintro ⟨u, t, f⟩ ⟨hu, ht⟩
  exact IsFilI_pc u t f hu ht)
@[simp] theorem fm_IsFilI_id : fm_IsFilI.id = 27 := rfl
@[simp] theorem fm_IsFilI_fresh : fm_IsFilI.fresh = true := rfl
@[simp] theorem fm_IsFilI_look (u : List Int) (t : List (List Int)) (f : Int) (hu : Big u.length) (ht : BigR t) : fm_IsFilI.look [AL u t, I64 f] = some (.bool (ifM u t f)) :=
  lookF_of (X := List Int × List (List Int) × Int) (args := fun (u, t, f) => [AL u t, I64 f]) (pre := fun (u, t, f) => (Big u.length) ∧ (BigR t)) (val := fun (u, t, f) => .bool (ifM u t f)) (by
  rintro ⟨u, t, f⟩ ⟨u', t', f'⟩ h
  simp at h
  try simp only [and_assoc] at h
  obtain ⟨rfl, rfl, rfl⟩ := h
  rfl) (u, t, f) ⟨hu, ht⟩
attribute [irreducible] fm_IsFilI
-- lists of the laws
end Go.PS
end

section
-- PRINTED by gen.py: clean texts of functions, and their tie to the program.
set_option maxRecDepth 100000
namespace Go.PS
open Go.Proofs
/-- spec.has -/
def an_125 : Ann := ⟨[(1, 1, 3), (1, 8, 3), (1, 16, 3)], [(0, [1, 2, 3]), (1, [6])], [], []⟩
def fa_125 : FnA := ⟨25, [.t 6],
  (.seq
    (.region false [⟨some 3, (.box 27 (.t 0)), 0, none, 0⟩, ⟨some 6, (.mv (.c (.bool false))), 4, none, 0⟩] (some [1, 2, 3]))
    (.seq
      (.region false (gops (seg [2, 3, 16] [⟨some 7, (.load 27 (.t 3)), 27, none, 0⟩, ⟨some 8, (.call (.f 111) [(.t 7)]), 4, none, 3⟩, ⟨some 9, (.mv (.t 8)), 4, none, 0⟩, ⟨some 10, (.mv (.t 1)), 3, some (9, true), 0⟩, ⟨some 11, (.faddr 27 (.t 3) 0), 0, some (9, true), 0⟩, ⟨some 12, (.load 23 (.t 11)), 23, some (9, true), 0⟩, ⟨some 13, (.len 23 (.t 12)), 3, some (9, true), 0⟩, ⟨some 14, (.bin .sub 3 (.t 13) (.c (.int .i64 1))), 3, some (9, true), 0⟩, ⟨some 15, (.call (.f 128) [(.t 10), (.c (.int .i64 0)), (.t 14)]), 4, some (9, true), 3⟩, ⟨some 16, (.pick (.t 9) (.t 15) (.c (.bool false))), 4, none, 0⟩]
      [⟨some 17, (.mv (.t 16)), 4, none, 0⟩, ⟨some 18, (.mv (.t 2)), 3, some (17, true), 0⟩, ⟨some 19, (.faddr 27 (.t 3) 0), 0, some (17, true), 0⟩, ⟨some 20, (.load 23 (.t 19)), 23, some (17, true), 0⟩, ⟨some 21, (.len 23 (.t 20)), 3, some (17, true), 0⟩, ⟨some 22, (.bin .sub 3 (.t 21) (.c (.int .i64 1))), 3, some (17, true), 0⟩, ⟨some 23, (.call (.f 128) [(.t 18), (.c (.int .i64 0)), (.t 22)]), 4, some (17, true), 3⟩, ⟨some 24, (.pick (.t 17) (.t 23) (.c (.bool false))), 4, none, 0⟩, ⟨some 6, (.mv (.t 24)), 4, none, 0⟩] [6] (by decide))) (some [6]))
      .ret))⟩
theorem fok_125 : FnOk Try.prog 125 fa_125 an_125 := ⟨Try.f125, _, Try.func125, rfl, by kernel_rfl, rfl, rfl, by decide, by kernel_rfl⟩
/-- spec.near -/
def an_176 : Ann := ⟨[(1, 5, 3), (1, 11, 3)], [(0, [1, 2, 3]), (1, [6])], [], []⟩
def fa_176 : FnA := ⟨21, [.t 6],
  (.seq
    (.region false [⟨some 3, (.box 27 (.t 0)), 0, none, 0⟩, ⟨some 6, (.mv (.c (.int .i64 0))), 3, none, 0⟩] (some [1, 2, 3]))
    (.seq
      (.region true [⟨some 7, (.faddr 27 (.t 3) 1), 0, none, 0⟩, ⟨some 8, (.load 25 (.t 7)), 25, none, 0⟩, ⟨some 9, (.load 27 (.t 3)), 27, none, 0⟩, ⟨some 10, (.mv (.t 1)), 3, none, 0⟩, ⟨some 11, (.mv (.t 2)), 3, none, 0⟩, ⟨some 12, (.call (.f 137) [(.t 9), (.t 10), (.t 11)]), 3, none, 3⟩, ⟨some 13, (.iaddr 25 (.t 8) (.t 12)), 0, none, 0⟩, ⟨some 14, (.load 23 (.t 13)), 23, none, 0⟩, ⟨some 15, (.load 27 (.t 3)), 27, none, 0⟩, ⟨some 16, (.mv (.t 2)), 3, none, 0⟩, ⟨some 17, (.mv (.t 1)), 3, none, 0⟩, ⟨some 18, (.call (.f 137) [(.t 15), (.t 16), (.t 17)]), 3, none, 3⟩, ⟨some 19, (.iaddr 23 (.t 14) (.t 18)), 0, none, 0⟩, ⟨some 20, (.load 3 (.t 19)), 3, none, 0⟩, ⟨some 6, (.mv (.t 20)), 3, none, 0⟩] (some [6]))
      .ret))⟩
theorem fok_176 : FnOk Try.prog 176 fa_176 an_176 := ⟨Try.f176, _, Try.func176, rfl, by kernel_rfl, rfl, rfl, by decide, by kernel_rfl⟩
/-- impl.near -/
def an_134 : Ann := ⟨[(1, 5, 3), (1, 11, 3)], [(0, [1, 2, 3]), (1, [6])], [], []⟩
def fa_134 : FnA := ⟨21, [.t 6],
  (.seq
    (.region false [⟨some 3, (.box 27 (.t 0)), 0, none, 0⟩, ⟨some 6, (.mv (.c (.int .i64 0))), 3, none, 0⟩] (some [1, 2, 3]))
    (.seq
      (.region true [⟨some 7, (.faddr 27 (.t 3) 1), 0, none, 0⟩, ⟨some 8, (.load 25 (.t 7)), 25, none, 0⟩, ⟨some 9, (.load 27 (.t 3)), 27, none, 0⟩, ⟨some 10, (.mv (.t 1)), 3, none, 0⟩, ⟨some 11, (.mv (.t 2)), 3, none, 0⟩, ⟨some 12, (.call (.f 118) [(.t 9), (.t 10), (.t 11)]), 3, none, 3⟩, ⟨some 13, (.iaddr 25 (.t 8) (.t 12)), 0, none, 0⟩, ⟨some 14, (.load 23 (.t 13)), 23, none, 0⟩, ⟨some 15, (.load 27 (.t 3)), 27, none, 0⟩, ⟨some 16, (.mv (.t 2)), 3, none, 0⟩, ⟨some 17, (.mv (.t 1)), 3, none, 0⟩, ⟨some 18, (.call (.f 118) [(.t 15), (.t 16), (.t 17)]), 3, none, 3⟩, ⟨some 19, (.iaddr 23 (.t 14) (.t 18)), 0, none, 0⟩, ⟨some 20, (.load 3 (.t 19)), 3, none, 0⟩, ⟨some 6, (.mv (.t 20)), 3, none, 0⟩] (some [6]))
      .ret))⟩
theorem fok_134 : FnOk Try.prog 134 fa_134 an_134 := ⟨Try.f134, _, Try.func134, rfl, by kernel_rfl, rfl, rfl, by decide, by kernel_rfl⟩
/-- impl.NotOf -/
def an_46 : Ann := ⟨[(1, 3, 3), (3, 2, 3)], [(0, [1, 2]), (1, [1, 2, 9]), (2, [4]), (3, [4])], [], []⟩
def fa_46 : FnA := ⟨13, [.t 4],
  (.seq
    (.region false [⟨some 2, (.box 27 (.t 0)), 0, none, 0⟩, ⟨some 4, (.mv (.c (.int .i64 0))), 3, none, 0⟩] (some [1, 2]))
    (.seq
      (.seq
        (.region false [⟨some 5, (.load 27 (.t 2)), 27, none, 0⟩, ⟨some 6, (.mv (.t 1)), 3, none, 0⟩, ⟨some 7, (.bslice 23 1 [(0, (.t 6))]), 23, none, 0⟩, ⟨some 8, (.call (.f 117) [(.t 5), (.t 7)]), 4, none, 3⟩, ⟨some 9, (.un .not (.t 8)), 4, none, 0⟩] (some [1, 2, 9]))
        (.cond (.t 9)
          (.seq
            (.region false [⟨some 4, (.mv (.c (.int .i64 (-1)))), 3, none, 0⟩] (some [4]))
            .ret)
          .skip))
      (.seq
        (.region false [⟨some 10, (.load 27 (.t 2)), 27, none, 0⟩, ⟨some 11, (.mv (.t 1)), 3, none, 0⟩, ⟨some 12, (.call (.f 127) [(.t 10), (.t 11)]), 3, none, 3⟩, ⟨some 4, (.mv (.t 12)), 3, none, 0⟩] (some [4]))
        .ret)))⟩
theorem fok_46 : FnOk Try.prog 46 fa_46 an_46 := ⟨Try.f46, _, Try.func46, rfl, by kernel_rfl, rfl, rfl, by decide, by kernel_rfl⟩
/-- impl.NearOf -/
def an_56 : Ann := ⟨[(1, 4, 3), (3, 3, 3)], [(0, [1, 2, 3]), (1, [1, 2, 3, 12]), (2, [6]), (3, [6])], [], []⟩
def fa_56 : FnA := ⟨17, [.t 6],
  (.seq
    (.region false [⟨some 3, (.box 27 (.t 0)), 0, none, 0⟩, ⟨some 6, (.mv (.c (.int .i64 0))), 3, none, 0⟩] (some [1, 2, 3]))
    (.seq
      (.seq
        (.region false [⟨some 7, (.load 27 (.t 3)), 27, none, 0⟩, ⟨some 8, (.mv (.t 1)), 3, none, 0⟩, ⟨some 9, (.mv (.t 2)), 3, none, 0⟩, ⟨some 10, (.bslice 23 2 [(0, (.t 8)), (1, (.t 9))]), 23, none, 0⟩, ⟨some 11, (.call (.f 117) [(.t 7), (.t 10)]), 4, none, 3⟩, ⟨some 12, (.un .not (.t 11)), 4, none, 0⟩] (some [1, 2, 3, 12]))
        (.cond (.t 12)
          (.seq
            (.region false [⟨some 6, (.mv (.c (.int .i64 (-1)))), 3, none, 0⟩] (some [6]))
            .ret)
          .skip))
      (.seq
        (.region false [⟨some 13, (.load 27 (.t 3)), 27, none, 0⟩, ⟨some 14, (.mv (.t 1)), 3, none, 0⟩, ⟨some 15, (.mv (.t 2)), 3, none, 0⟩, ⟨some 16, (.call (.f 134) [(.t 13), (.t 14), (.t 15)]), 3, none, 3⟩, ⟨some 6, (.mv (.t 16)), 3, none, 0⟩] (some [6]))
        .ret)))⟩
theorem fok_56 : FnOk Try.prog 56 fa_56 an_56 := ⟨Try.f56, _, Try.func56, rfl, by kernel_rfl, rfl, rfl, by decide, by kernel_rfl⟩
end Go.PS
end

section
-- PRINTED by gen.py: clean texts of functions, and their tie to the program.
set_option maxRecDepth 100000
namespace Go.PS
open Go.Proofs
end Go.PS
end

section
-- Contracts: lists of elements for the names, powers, the least power of the reference.
set_option maxRecDepth 100000
set_option linter.unusedVariables false
set_option linter.unusedSimpArgs false
namespace Go.PS
open Go.Proofs

end Go.PS
end
