/- Part 5 of what the last text proves: The filters told by IsFilter are filters: the law holds at every input. -/
import Derived.Test.YthbdihoacfhflaaQo4
section
-- Lattices and algebras, asked by a computation; chains; what is drawn, in plain Lean.
set_option linter.unusedVariables false
set_option linter.unusedSimpArgs false
namespace Go.PS

def allR (n : Nat) (p : Nat → Bool) : Bool := (List.range n).all p
theorem allR_iff {n : Nat} {p : Nat → Bool} : allR n p = true ↔ ∀ x, x < n → p x = true := by simp [allR, List.all_eq_true]

def vlB (u : List Int) : Bool :=
  (decide (1 ≤ u.length) && decide (u.length ≤ 6)) && allR u.length fun x =>
    ((decide (0 ≤ gi u x) && decide (gi u x < 2 ^ u.length)) && (tb u x x && tb u 0 x && tb u x (u.length - 1))) && allR u.length fun y =>
      ((decide (x = y) || !tb u x y || !tb u y x) && allR u.length fun z => !tb u x y || !tb u y z || tb u x z) && (decide (0 ≤ meetM u x y) && decide (0 ≤ joinM u x y))
theorem vlB_iff {u : List Int} : vlB u = true ↔ VL u := by
  simp only [vlB, Bool.and_eq_true, decide_eq_true_eq, allR_iff, Bool.or_eq_true, Bool.not_eq_true']
  constructor
  · rintro ⟨⟨h1, h2⟩, h⟩
    refine ⟨⟨h1, h2, fun x hx => ⟨(h x hx).1.1.1, (h x hx).1.1.2⟩, fun x hx => ⟨(h x hx).1.2.1.1, (h x hx).1.2.1.2, (h x hx).1.2.2⟩, fun x hx y hy hne hxy => ?_, fun x hx y hy z hz hxy hyz => ?_⟩, fun x hx y hy => ((h x hx).2 y hy).2⟩
    · have := ((h x hx).2 y hy).1.1
      rcases this with (h3 | h3) | h3
      · exact absurd h3 hne
      · rw [hxy] at h3; cases h3
      · exact h3
    · have := ((h x hx).2 y hy).1.2 z hz
      rcases this with (h3 | h3) | h3
      · rw [hxy] at h3; cases h3
      · rw [hyz] at h3; cases h3
      · exact h3
  · intro v
    refine ⟨⟨v.ord.one, v.ord.six⟩, fun x hx => ⟨⟨v.ord.rng x hx, ⟨(v.ord.row x hx).1, (v.ord.row x hx).2.1⟩, (v.ord.row x hx).2.2⟩, fun y hy => ⟨⟨?_, fun z hz => ?_⟩, v.mj x hx y hy⟩⟩⟩
    · by_cases e : x = y
      · exact .inl (.inl e)
      · cases h : tb u x y
        · exact .inl (.inr rfl)
        · exact .inr (v.ord.anti x hx y hy e h)
    · cases h : tb u x y
      · exact .inl (.inl rfl)
      · cases h2 : tb u y z
        · exact .inl (.inr rfl)
        · exact .inr (v.ord.trans x hx y hy z hz h h2)

def vaB (u : List Int) (t : List (List Int)) : Bool :=
  (vlB u && decide (t.length = u.length)) && (allR u.length fun x =>
    (decide ((gr t x).length = u.length) && allR u.length fun y => decide (0 ≤ tm t x y) && decide (tm t x y < u.length))) && (allR u.length fun x =>
    (decide (tm t x (u.length - 1) = x) && decide (tm t x 0 = 0)) && allR u.length fun y =>
      decide (tm t x y = tm t y x) && allR u.length fun z => decide (tm t (tn t x y) z = tm t x (tn t y z)) && decide (tm t x (joinM u y z).toNat = joinM u (tn t x y) (tn t x z)))
theorem vaB_iff {u : List Int} {t : List (List Int)} : vaB u t = true ↔ VA u t := by
  simp only [vaB, Bool.and_eq_true, decide_eq_true_eq, allR_iff, vlB_iff]
  constructor
  · rintro ⟨⟨⟨h1, h2⟩, h3⟩, h4⟩
    exact ⟨h1, h2, fun x hx => (h3 x hx).1, fun x hx y hy => (h3 x hx).2 y hy, fun x hx => (h4 x hx).1, fun x hx y hy => ((h4 x hx).2 y hy).1, fun x hx y hy z hz => (((h4 x hx).2 y hy).2 z hz).1, fun x hx y hy z hz => (((h4 x hx).2 y hy).2 z hz).2⟩
  · intro v
    exact ⟨⟨⟨v.lat, v.len⟩, fun x hx => ⟨v.rows x hx, v.rng x hx⟩⟩, fun x hx => ⟨v.top x hx, fun y hy => ⟨v.comm x hx y hy, fun z hz => ⟨v.assoc x hx y hy z hz, v.dist x hx y hy z hz⟩⟩⟩⟩
theorem decide_VA {u : List Int} {t : List (List Int)} : decide (VA u t) = vaB u t := by
  rw [Bool.eq_iff_iff, decide_eq_true_eq, vaB_iff]

/-- A list told element by element, and one of rows. -/
def tl (n : Nat) (f : Nat → Int) : List Int := (List.range n).map f
def tr (n : Nat) (f : Nat → List Int) : List (List Int) := (List.range n).map f
@[simp] theorem tl_length {n : Nat} {f : Nat → Int} : (tl n f).length = n := by simp [tl]
theorem tl_zero {f : Nat → Int} : tl 0 f = [] := rfl
theorem tl_succ {n : Nat} {f : Nat → Int} : tl (n + 1) f = tl n f ++ [f n] := by simp [tl, List.range_succ]
theorem gi_tl {n i : Nat} {f : Nat → Int} (h : i < n) : gi (tl n f) i = f i := by simp [gi, tl, h]
@[simp] theorem tr_length {n : Nat} {f : Nat → List Int} : (tr n f).length = n := by simp [tr]
theorem tr_zero {f : Nat → List Int} : tr 0 f = [] := rfl
theorem tr_succ {n : Nat} {f : Nat → List Int} : tr (n + 1) f = tr n f ++ [f n] := by simp [tr, List.range_succ]
theorem gr_tr {n i : Nat} {f : Nat → List Int} (h : i < n) : gr (tr n f) i = f i := by simp [gr, tr, h]
theorem mem_tr {n : Nat} {f : Nat → List Int} {r : List Int} (h : r ∈ tr n f) : ∃ i, i < n ∧ r = f i := by
  obtain ⟨i, hi, rfl⟩ := List.mem_map.1 h
  exact ⟨i, by simpa using hi, rfl⟩
-- chains and what is made of algebras
def chL (n : Nat) : List Int := tl n fun x => 2 ^ n - 2 ^ x
def sumV (n x y : Nat) : Int := max ((x : Int) + y - n + 1) 0
def sumT (n : Nat) : List (List Int) := tr n fun x => tl n (sumV n x)
def mtT (u : List Int) : List (List Int) := tr u.length fun x => tl u.length (meetM u x)
/-- Elements of pairs. -/
def crR (a b : List Int) (p : Nat) (n : Nat) : Int := (List.range n).foldl (fun o q => if tb a (p / b.length) (q / b.length) && tb b (p % b.length) (q % b.length) then o + 2 ^ q else o) 0
def crU (a b : List Int) : List Int := tl (a.length * b.length) fun p => crR a b p (a.length * b.length)
def crV (u : List Int) (t : List (List Int)) (v : List Int) (s : List (List Int)) (p q : Nat) : Int := tm t (p / v.length) (q / v.length) * v.length + tm s (p % v.length) (q % v.length)
def crT (u : List Int) (t : List (List Int)) (v : List Int) (s : List (List Int)) : List (List Int) := tr (u.length * v.length) fun p => tl (u.length * v.length) (crV u t v s p)
def skV (u : List Int) (t : List (List Int)) (s : List (List Int)) (x y : Nat) : Int :=
  if x < u.length - 1 ∧ y < u.length - 1 then tm t x y else if u.length - 1 ≤ x ∧ u.length - 1 ≤ y then (u.length - 1 : Nat) + tm s (x - (u.length - 1)) (y - (u.length - 1)) else min (x : Int) y
def skB (u v : List Int) (x y : Nat) : Bool :=
  decide (x < u.length - 1 ∧ u.length - 1 ≤ y) || (decide (x < u.length - 1 ∧ y < u.length - 1) && tb u x y) || (decide (u.length - 1 ≤ x ∧ u.length - 1 ≤ y) && tb v (x - (u.length - 1)) (y - (u.length - 1)))
def skR (u v : List Int) (x : Nat) (n : Nat) : Int := (List.range n).foldl (fun o y => if skB u v x y then o + 2 ^ y else o) 0
def skU (u v : List Int) : List Int := tl (u.length - 1 + v.length) fun x => skR u v x (u.length - 1 + v.length)
def skT (u : List Int) (t : List (List Int)) (v : List Int) (s : List (List Int)) : List (List Int) := tr (u.length - 1 + v.length) fun x => tl (u.length - 1 + v.length) (skV u t s x)

/-- A table with one product changed. -/
def set2 (t : List (List Int)) (x y : Nat) (z : Int) : List (List Int) := t.set x ((gr t x).set y z)
/-- All tables of a chain from a place on. -/
def filM (n : Nat) : Nat → List (List Int) → Nat → Nat → List (List (List Int))
  | 0, _, _, _ => []
  | k + 1, t, x, y =>
    if x = n - 1 then (if vaB (chL n) t then [t] else [])
    else if y = n - 1 then filM n k t (x + 1) (x + 1)
    else (List.range (min x y + 1)).flatMap fun (z : Nat) => if tm t (x - 1) y ≤ z ∧ tm t x (y - 1) ≤ z then filM n k (set2 (set2 t x y z) y x z) x (y + 1) else []
def tab0 (n : Nat) : List (List Int) := tr n fun x => tl n fun y => if x = n - 1 then (y : Int) else if y = n - 1 then (x : Int) else 0
def chT (n : Nat) : List (List (List Int)) := if 2 < n then filM n 40 (tab0 n) 1 1 else [tab0 n]

-- what is drawn
def pkX (b : List Int) (p : Nat) : Int := gi b (p % b.length) * 131 + gi b ((p * 7 + 3) % b.length) * 1117 + p * 29 + (p / b.length : Nat) * 53
def pkM (b : List Int) (p : Nat) (n : Int) : Int :=
  if n < 1 ∨ b.length = 0 then 0 else if p < b.length then (gi b p).tmod n else (bXor .i64 (pkX b p) ((pkX b p).tdiv 64)).tmod n
structure BB (b : List Int) : Prop where
  len : b.length ≤ 2000
  rng : ∀ x ∈ b, 0 ≤ x ∧ x ≤ 255
theorem BB.gi {b : List Int} (h : BB b) (i : Nat) : 0 ≤ PS.gi b i ∧ PS.gi b i ≤ 255 := by
  unfold PS.gi
  cases e : b[i]? with
  | none => exact ⟨by decide, by decide⟩
  | some v => exact h.rng v (List.mem_of_getElem? e)
theorem bXor_rng {a b : Int} (ha : 0 ≤ a) (ha1 : a < 4611686018427387904) (hb : 0 ≤ b) (hb1 : b < 4611686018427387904) : 0 ≤ bXor .i64 a b ∧ bXor .i64 a b < 4611686018427387904 := by
  have e : bXor .i64 a b = ((a.toNat ^^^ b.toNat : Nat) : Int) := by
    show IntKind.i64.wrap (((BitVec.ofInt 64 a ^^^ BitVec.ofInt 64 b).toNat : Nat) : Int) = _
    rw [BitVec.toNat_xor, ofInt_nat ha (by omega), ofInt_nat hb (by omega)]
    have : a.toNat ^^^ b.toNat < 2 ^ 62 := Nat.xor_lt_two_pow (by omega) (by omega)
    exact wrap64 (by omega) (by omega)
  have : a.toNat ^^^ b.toNat < 2 ^ 62 := Nat.xor_lt_two_pow (by omega) (by omega)
  rw [e]; omega
theorem pkX_rng {b : List Int} (h : BB b) {p : Nat} (hp : p ≤ 1073741824) : 0 ≤ pkX b p ∧ pkX b p < 1099511627776 := by
  have h1 := h.gi (p % b.length)
  have h2 := h.gi ((p * 7 + 3) % b.length)
  have h3 : p / b.length ≤ p := Nat.div_le_self _ _
  have h4 : (0 : Int) ≤ ((p / b.length : Nat) : Int) := Int.natCast_nonneg _
  unfold pkX
  generalize p / b.length = e at *
  omega
theorem pkM_rng {b : List Int} (h : BB b) {p : Nat} (hp : p ≤ 1073741824) {n : Int} (hn : 1 ≤ n) : 0 ≤ pkM b p n ∧ pkM b p n < n := by
  have key : ∀ v : Int, 0 ≤ v → 0 ≤ v.tmod n ∧ v.tmod n < n := fun v hv => ⟨Int.tmod_nonneg _ hv, Int.tmod_lt_of_pos _ (by omega)⟩
  unfold pkM
  split
  · omega
  · split
    · exact key _ (h.gi p).1
    · have hx := pkX_rng h hp
      have hd : 0 ≤ (pkX b p).tdiv 64 ∧ (pkX b p).tdiv 64 ≤ pkX b p := by
        rw [Int.tdiv_eq_ediv_of_nonneg hx.1]
        omega
      exact key _ (bXor_rng hx.1 (by omega) hd.1 (by omega)).1
theorem pkM_small {b : List Int} {p : Nat} {n : Int} (hn : n < 1) : pkM b p n = 0 := by unfold pkM; rw [if_pos (.inl hn)]
end Go.PS
end

section
-- PRINTED by gen.py: clean texts of functions, and their tie to the program.
set_option maxRecDepth 100000
namespace Go.PS
open Go.Proofs
/-- spec.newReader -/
def an_90 : Ann := ⟨[(3, 2, 1)], [(0, [0]), (1, [0, 5]), (2, [0]), (3, [2])], [], []⟩
def fa_90 : FnA := ⟨11, [.t 2],
  (.seq
    (.region false [⟨some 2, (.mv (.c .junk)), 72, none, 0⟩] (some [0]))
    (.seq
      (.seq
        (.region false [⟨some 3, (.mv (.t 0)), 22, none, 0⟩, ⟨some 4, (.len 22 (.t 3)), 3, none, 0⟩, ⟨some 5, (.bin .gtr 3 (.t 4) (.c (.int .i64 2000))), 4, none, 0⟩] (some [0, 5]))
        (.cond (.t 5)
          (.region false [⟨some 6, (.mv (.t 0)), 22, none, 0⟩, ⟨some 7, (.slice 22 (.t 6) none (some (.c (.int .i64 2000)))), 22, none, 0⟩, ⟨some 0, (.mv (.t 7)), 22, none, 0⟩] (some [0]))
          .skip))
      (.seq
        (.region false [⟨some 8, (.mv (.t 0)), 22, none, 0⟩, ⟨some 9, (.build 101 [(0, (.t 8))]), 101, none, 0⟩, ⟨some 10, (.box 101 (.t 9)), 72, none, 1⟩, ⟨some 2, (.mv (.t 10)), 72, none, 0⟩] (some [2]))
        .ret)))⟩
theorem fok_90 : FnOk Try.prog 90 fa_90 an_90 := ⟨Try.f90, _, Try.func90, rfl, by kernel_rfl, rfl, rfl, by decide, by kernel_rfl⟩
/-- spec.reader).pick -/
def an_106 : Ann := ⟨[], [(0, [0, 1]), (1, [0, 1]), (2, [0, 1, 24]), (3, [4]), (4, [0, 1, 5]), (5, [0, 1, 5, 36]), (6, [4]), (7, [1, 6]), (8, [1, 6]), (9, [4])], [], []⟩
def fa_106 : FnA := ⟨99, [.t 4],
  (.seq
    (.region false [⟨some 4, (.mv (.c (.int .i64 0))), 3, none, 0⟩] (some [0, 1]))
    (.seq
      (.region false [⟨some 7, (.mv (.t 0)), 72, none, 0⟩, ⟨some 8, (.mv (.t 0)), 72, none, 0⟩, ⟨some 9, (.nilck (.t 8)), 0, none, 0⟩, ⟨some 10, (.faddr 101 (.t 9) 1), 0, none, 0⟩, ⟨some 11, (.load 3 (.t 10)), 3, none, 0⟩, ⟨some 12, (.bin .add 3 (.t 11) (.c (.int .i64 1))), 3, none, 0⟩, ⟨some 13, (.nilck (.t 7)), 0, none, 0⟩, ⟨some 14, (.faddr 101 (.t 13) 1), 0, none, 0⟩, ⟨none, (.store 3 (.t 14) (.t 12)), 0, none, 0⟩] (some [0, 1]))
      (.seq
        (.seq
          (.region false (gops [⟨some 15, (.mv (.t 1)), 3, none, 0⟩, ⟨some 16, (.bin .lss 3 (.t 15) (.c (.int .i64 1))), 4, none, 0⟩, ⟨some 17, (.mv (.t 16)), 4, none, 0⟩, ⟨some 18, (.mv (.t 0)), 72, some (17, false), 0⟩, ⟨some 19, (.nilck (.t 18)), 0, some (17, false), 0⟩, ⟨some 20, (.faddr 101 (.t 19) 0), 0, some (17, false), 0⟩, ⟨some 21, (.load 22 (.t 20)), 22, some (17, false), 0⟩, ⟨some 22, (.len 22 (.t 21)), 3, some (17, false), 0⟩, ⟨some 23, (.bin .eql 3 (.t 22) (.c (.int .i64 0))), 4, some (17, false), 0⟩, ⟨some 24, (.pick (.t 17) (.c (.bool true)) (.t 23)), 4, none, 0⟩]) (some [0, 1, 24]))
          (.cond (.t 24)
            (.seq
              (.region false [⟨some 4, (.mv (.c (.int .i64 0))), 3, none, 0⟩] (some [4]))
              .ret)
            .skip))
        (.seq
          (.region false [⟨some 25, (.mv (.t 0)), 72, none, 0⟩, ⟨some 26, (.nilck (.t 25)), 0, none, 0⟩, ⟨some 27, (.faddr 101 (.t 26) 1), 0, none, 0⟩, ⟨some 28, (.load 3 (.t 27)), 3, none, 0⟩, ⟨some 29, (.bin .sub 3 (.t 28) (.c (.int .i64 1))), 3, none, 0⟩, ⟨some 5, (.mv (.t 29)), 3, none, 0⟩] (some [0, 1, 5]))
          (.seq
            (.seq
              (.region false [⟨some 30, (.mv (.t 5)), 3, none, 0⟩, ⟨some 31, (.mv (.t 0)), 72, none, 0⟩, ⟨some 32, (.nilck (.t 31)), 0, none, 0⟩, ⟨some 33, (.faddr 101 (.t 32) 0), 0, none, 0⟩, ⟨some 34, (.load 22 (.t 33)), 22, none, 0⟩, ⟨some 35, (.len 22 (.t 34)), 3, none, 0⟩, ⟨some 36, (.bin .lss 3 (.t 30) (.t 35)), 4, none, 0⟩] (some [0, 1, 5, 36]))
              (.cond (.t 36)
                (.seq
                  (.region false [⟨some 37, (.mv (.t 0)), 72, none, 0⟩, ⟨some 38, (.nilck (.t 37)), 0, none, 0⟩, ⟨some 39, (.faddr 101 (.t 38) 0), 0, none, 0⟩, ⟨some 40, (.load 22 (.t 39)), 22, none, 0⟩, ⟨some 41, (.mv (.t 5)), 3, none, 0⟩, ⟨some 42, (.iaddr 22 (.t 40) (.t 41)), 0, none, 0⟩, ⟨some 43, (.load 5 (.t 42)), 5, none, 0⟩, ⟨some 44, (.conv 5 3 (.t 43)), 3, none, 0⟩, ⟨some 45, (.mv (.t 1)), 3, none, 0⟩, ⟨some 46, (.bin .rem 3 (.t 44) (.t 45)), 3, none, 0⟩, ⟨some 4, (.mv (.t 46)), 3, none, 0⟩] (some [4]))
                  .ret)
                .skip))
            (.seq
              (.region true (seg [0, 1, 5, 50, 51, 56] [⟨some 47, (.mv (.t 0)), 72, none, 0⟩, ⟨some 48, (.nilck (.t 47)), 0, none, 0⟩, ⟨some 49, (.faddr 101 (.t 48) 0), 0, none, 0⟩, ⟨some 50, (.load 22 (.t 49)), 22, none, 0⟩, ⟨some 51, (.mv (.t 5)), 3, none, 0⟩, ⟨some 52, (.mv (.t 0)), 72, none, 0⟩, ⟨some 53, (.nilck (.t 52)), 0, none, 0⟩, ⟨some 54, (.faddr 101 (.t 53) 0), 0, none, 0⟩, ⟨some 55, (.load 22 (.t 54)), 22, none, 0⟩, ⟨some 56, (.len 22 (.t 55)), 3, none, 0⟩]
              (seg [0, 1, 5, 61, 65, 66] [⟨some 57, (.bin .rem 3 (.t 51) (.t 56)), 3, none, 0⟩, ⟨some 58, (.iaddr 22 (.t 50) (.t 57)), 0, none, 0⟩, ⟨some 59, (.load 5 (.t 58)), 5, none, 0⟩, ⟨some 60, (.conv 5 3 (.t 59)), 3, none, 0⟩, ⟨some 61, (.bin .mul 3 (.t 60) (.c (.int .i64 131))), 3, none, 0⟩, ⟨some 62, (.mv (.t 0)), 72, none, 0⟩, ⟨some 63, (.nilck (.t 62)), 0, none, 0⟩, ⟨some 64, (.faddr 101 (.t 63) 0), 0, none, 0⟩, ⟨some 65, (.load 22 (.t 64)), 22, none, 0⟩, ⟨some 66, (.mv (.t 5)), 3, none, 0⟩]
              (seg [0, 1, 5, 61, 76] [⟨some 67, (.bin .mul 3 (.t 66) (.c (.int .i64 7))), 3, none, 0⟩, ⟨some 68, (.bin .add 3 (.t 67) (.c (.int .i64 3))), 3, none, 0⟩, ⟨some 69, (.mv (.t 0)), 72, none, 0⟩, ⟨some 70, (.nilck (.t 69)), 0, none, 0⟩, ⟨some 71, (.faddr 101 (.t 70) 0), 0, none, 0⟩, ⟨some 72, (.load 22 (.t 71)), 22, none, 0⟩, ⟨some 73, (.len 22 (.t 72)), 3, none, 0⟩, ⟨some 74, (.bin .rem 3 (.t 68) (.t 73)), 3, none, 0⟩, ⟨some 75, (.iaddr 22 (.t 65) (.t 74)), 0, none, 0⟩, ⟨some 76, (.load 5 (.t 75)), 5, none, 0⟩]
              (seg [1, 82, 83, 86] [⟨some 77, (.conv 5 3 (.t 76)), 3, none, 0⟩, ⟨some 78, (.bin .mul 3 (.t 77) (.c (.int .i64 1117))), 3, none, 0⟩, ⟨some 79, (.bin .add 3 (.t 61) (.t 78)), 3, none, 0⟩, ⟨some 80, (.mv (.t 5)), 3, none, 0⟩, ⟨some 81, (.bin .mul 3 (.t 80) (.c (.int .i64 29))), 3, none, 0⟩, ⟨some 82, (.bin .add 3 (.t 79) (.t 81)), 3, none, 0⟩, ⟨some 83, (.mv (.t 5)), 3, none, 0⟩, ⟨some 84, (.mv (.t 0)), 72, none, 0⟩, ⟨some 85, (.nilck (.t 84)), 0, none, 0⟩, ⟨some 86, (.faddr 101 (.t 85) 0), 0, none, 0⟩]
              [⟨some 87, (.load 22 (.t 86)), 22, none, 0⟩, ⟨some 88, (.len 22 (.t 87)), 3, none, 0⟩, ⟨some 89, (.bin .quo 3 (.t 83) (.t 88)), 3, none, 0⟩, ⟨some 90, (.bin .mul 3 (.t 89) (.c (.int .i64 53))), 3, none, 0⟩, ⟨some 91, (.bin .add 3 (.t 82) (.t 90)), 3, none, 0⟩, ⟨some 6, (.mv (.t 91)), 3, none, 0⟩] [1, 6] (by decide)) [1, 6] (by decide)) [1, 6] (by decide)) [1, 6] (by decide)) (some [1, 6]))
              (.seq
                (.region false [⟨some 92, (.mv (.t 6)), 3, none, 0⟩, ⟨some 93, (.mv (.t 6)), 3, none, 0⟩, ⟨some 94, (.bin .quo 3 (.t 93) (.c (.int .i64 64))), 3, none, 0⟩, ⟨some 95, (.bin .xor 3 (.t 92) (.t 94)), 3, none, 0⟩, ⟨some 6, (.mv (.t 95)), 3, none, 0⟩] (some [1, 6]))
                (.seq
                  (.region false [⟨some 96, (.mv (.t 6)), 3, none, 0⟩, ⟨some 97, (.mv (.t 1)), 3, none, 0⟩, ⟨some 98, (.bin .rem 3 (.t 96) (.t 97)), 3, none, 0⟩, ⟨some 4, (.mv (.t 98)), 3, none, 0⟩] (some [4]))
                  .ret))))))))⟩
theorem fok_106 : FnOk Try.prog 106 fa_106 an_106 := ⟨Try.f106, _, Try.func106, rfl, by kernel_rfl, rfl, rfl, by decide, by kernel_rfl⟩
/-- spec.reader).one -/
def an_161 : Ann := ⟨[(1, 4, 16)], [(0, [0, 1]), (1, [4])], [], []⟩
def fa_161 : FnA := ⟨12, [.t 4],
  (.seq
    (.region false [⟨some 4, (.mv (.c (.int .i64 0))), 3, none, 0⟩] (some [0, 1]))
    (.seq
      (.region false [⟨some 5, (.mv (.t 1)), 23, none, 0⟩, ⟨some 6, (.mv (.t 0)), 72, none, 0⟩, ⟨some 7, (.mv (.t 1)), 23, none, 0⟩, ⟨some 8, (.len 23 (.t 7)), 3, none, 0⟩, ⟨some 9, (.call (.f 106) [(.t 6), (.t 8)]), 3, none, 16⟩, ⟨some 10, (.iaddr 23 (.t 5) (.t 9)), 0, none, 0⟩, ⟨some 11, (.load 3 (.t 10)), 3, none, 0⟩, ⟨some 4, (.mv (.t 11)), 3, none, 0⟩] (some [4]))
      .ret))⟩
theorem fok_161 : FnOk Try.prog 161 fa_161 an_161 := ⟨Try.f161, _, Try.func161, rfl, by kernel_rfl, rfl, rfl, by decide, by kernel_rfl⟩
/-- spec.reader).of -/
def an_202 : Ann := ⟨[(1, 4, 16)], [(0, [0, 1]), (1, [4])], [], []⟩
def fa_202 : FnA := ⟨12, [.t 4],
  (.seq
    (.region false [⟨some 4, (.mv (.c (.str []))), 9, none, 0⟩] (some [0, 1]))
    (.seq
      (.region false [⟨some 5, (.mv (.t 1)), 105, none, 0⟩, ⟨some 6, (.mv (.t 0)), 72, none, 0⟩, ⟨some 7, (.mv (.t 1)), 105, none, 0⟩, ⟨some 8, (.len 105 (.t 7)), 3, none, 0⟩, ⟨some 9, (.call (.f 106) [(.t 6), (.t 8)]), 3, none, 16⟩, ⟨some 10, (.iaddr 105 (.t 5) (.t 9)), 0, none, 0⟩, ⟨some 11, (.load 9 (.t 10)), 9, none, 0⟩, ⟨some 4, (.mv (.t 11)), 9, none, 0⟩] (some [4]))
      .ret))⟩
theorem fok_202 : FnOk Try.prog 202 fa_202 an_202 := ⟨Try.f202, _, Try.func202, rfl, by kernel_rfl, rfl, rfl, by decide, by kernel_rfl⟩
/-- spec.element -/
def an_123 : Ann := ⟨[(1, 1, 16), (2, 3, 16), (3, 2, 16)], [(0, [0, 1]), (1, [0, 1, 7]), (2, [4]), (3, [4])], [], []⟩
def fa_123 : FnA := ⟨15, [.t 4],
  (.seq
    (.region false [⟨some 4, (.mv (.c (.int .i64 0))), 3, none, 0⟩] (some [0, 1]))
    (.seq
      (.seq
        (.region false [⟨some 5, (.mv (.t 0)), 72, none, 0⟩, ⟨some 6, (.call (.f 106) [(.t 5), (.c (.int .i64 24))]), 3, none, 16⟩, ⟨some 7, (.bin .eql 3 (.t 6) (.c (.int .i64 0))), 4, none, 0⟩] (some [0, 1, 7]))
        (.cond (.t 7)
          (.seq
            (.region false [⟨some 8, (.mv (.t 0)), 72, none, 0⟩, ⟨some 9, (.mv (.t 1)), 3, none, 0⟩, ⟨some 10, (.bslice 23 3 [(0, (.c (.int .i64 (-1)))), (1, (.t 9)), (2, (.c (.int .i64 6)))]), 23, none, 0⟩, ⟨some 11, (.call (.f 161) [(.t 8), (.t 10)]), 3, none, 16⟩, ⟨some 4, (.mv (.t 11)), 3, none, 0⟩] (some [4]))
            .ret)
          .skip))
      (.seq
        (.region false [⟨some 12, (.mv (.t 0)), 72, none, 0⟩, ⟨some 13, (.mv (.t 1)), 3, none, 0⟩, ⟨some 14, (.call (.f 106) [(.t 12), (.t 13)]), 3, none, 16⟩, ⟨some 4, (.mv (.t 14)), 3, none, 0⟩] (some [4]))
        .ret)))⟩
theorem fok_123 : FnOk Try.prog 123 fa_123 an_123 := ⟨Try.f123, _, Try.func123, rfl, by kernel_rfl, rfl, rfl, by decide, by kernel_rfl⟩
/-- spec.chain -/
def an_189 : Ann := ⟨[(1, 0, 1), (5, 2, 3), (5, 4, 3)], [(0, [0]), (1, [0, 3]), (2, [0, 3, 4]), (3, [0, 3, 4, 8]), (5, [0, 3, 4]), (4, [0, 3, 4]), (6, [2])], [(3, [0, 3, 4], [40, 144])], []⟩
def lb_189_3 : AC :=
  (.seq
    (.seq
      (.region false [⟨some 6, (.mv (.t 4)), 3, none, 0⟩, ⟨some 7, (.mv (.t 0)), 3, none, 0⟩, ⟨some 8, (.bin .lss 3 (.t 6) (.t 7)), 4, none, 0⟩] (some [0, 3, 4, 8]))
      (.cond (.t 8)
        .skip
        (.exit 0)))
    (.seq
      (.block 1
        (.region false [⟨some 11, (.mv (.t 3)), 23, none, 0⟩, ⟨some 12, (.mv (.t 0)), 3, none, 0⟩, ⟨some 13, (.call (.f 121) [(.t 12)]), 3, none, 3⟩, ⟨some 14, (.mv (.t 4)), 3, none, 0⟩, ⟨some 15, (.call (.f 121) [(.t 14)]), 3, none, 3⟩, ⟨some 16, (.bin .sub 3 (.t 13) (.t 15)), 3, none, 0⟩, ⟨some 17, (.bslice 23 1 [(0, (.t 16))]), 23, none, 0⟩, ⟨some 18, (.app 23 23 (.t 11) (.t 17)), 23, none, 0⟩, ⟨some 3, (.mv (.t 18)), 23, none, 0⟩] (some [0, 3, 4])))
      (.region false [⟨some 9, (.mv (.t 4)), 3, none, 0⟩, ⟨some 10, (.bin .add 3 (.t 9) (.c (.int .i64 1))), 3, none, 0⟩, ⟨some 4, (.mv (.t 10)), 3, none, 0⟩] (some [0, 3, 4]))))
def fa_189 : FnA := ⟨20, [.t 2],
  (.seq
    (.region false [⟨some 2, (.mv (.c .nil)), 23, none, 0⟩] (some [0]))
    (.seq
      (.region false [⟨some 5, (.bslice 23 0 []), 23, none, 1⟩, ⟨some 3, (.mv (.t 5)), 23, none, 0⟩] (some [0, 3]))
      (.seq
        (.seq
          (.region false [⟨some 4, (.mv (.c (.int .i64 0))), 3, none, 0⟩] (some [0, 3, 4]))
          (.block 0
            (.loop [0, 3, 4] [40, 144] lb_189_3)))
        (.seq
          (.region false [⟨some 19, (.mv (.t 3)), 23, none, 0⟩, ⟨some 2, (.mv (.t 19)), 23, none, 0⟩] (some [2]))
          .ret))))⟩
theorem fok_189 : FnOk Try.prog 189 fa_189 an_189 := ⟨Try.f189, _, Try.func189, rfl, by kernel_rfl, rfl, rfl, by decide, by kernel_rfl⟩
/-- spec.cross -/
def an_190 : Ann := ⟨[(1, 0, 1), (10, 7, 3), (10, 16, 3), (11, 2, 3)], [(0, [0, 1]), (1, [0, 1, 5]), (2, [0, 1, 5, 6]), (3, [0, 1, 5, 6, 7]), (4, [0, 1, 5, 6, 7, 18]), (6, [0, 1, 5, 6, 7, 8]), (7, [0, 1, 5, 6, 7, 8, 9]), (8, [0, 1, 5, 6, 7, 8, 9, 26]), (10, [0, 1, 5, 6, 7, 8, 9, 46]), (11, [0, 1, 5, 6, 7, 8, 9]), (9, [0, 1, 5, 6, 7, 8, 9]), (12, [0, 1, 5, 6, 7]), (5, [0, 1, 5, 6, 7]), (13, [4])], [(4, [0, 1, 5, 6, 7], [80, 432]), (8, [0, 1, 5, 6, 7, 8, 9], [80, 432])], []⟩
def lb_190_8 : AC :=
  (.seq
    (.seq
      (.region false [⟨some 21, (.mv (.t 9)), 3, none, 0⟩, ⟨some 22, (.mv (.t 0)), 23, none, 0⟩, ⟨some 23, (.len 23 (.t 22)), 3, none, 0⟩, ⟨some 24, (.mv (.t 6)), 3, none, 0⟩, ⟨some 25, (.bin .mul 3 (.t 23) (.t 24)), 3, none, 0⟩, ⟨some 26, (.bin .lss 3 (.t 21) (.t 25)), 4, none, 0⟩] (some [0, 1, 5, 6, 7, 8, 9, 26]))
      (.cond (.t 26)
        .skip
        (.exit 2)))
    (.seq
      (.block 3
        (.seq
          (.region true (gops [⟨some 29, (.mv (.t 0)), 23, none, 0⟩, ⟨some 30, (.mv (.t 7)), 3, none, 0⟩, ⟨some 31, (.mv (.t 6)), 3, none, 0⟩, ⟨some 32, (.bin .quo 3 (.t 30) (.t 31)), 3, none, 0⟩, ⟨some 33, (.mv (.t 9)), 3, none, 0⟩, ⟨some 34, (.mv (.t 6)), 3, none, 0⟩, ⟨some 35, (.bin .quo 3 (.t 33) (.t 34)), 3, none, 0⟩, ⟨some 36, (.call (.f 156) [(.t 29), (.t 32), (.t 35)]), 4, none, 3⟩, ⟨some 37, (.mv (.t 36)), 4, none, 0⟩, ⟨some 38, (.mv (.t 1)), 23, some (37, true), 0⟩, ⟨some 39, (.mv (.t 7)), 3, some (37, true), 0⟩, ⟨some 40, (.mv (.t 6)), 3, some (37, true), 0⟩, ⟨some 41, (.bin .rem 3 (.t 39) (.t 40)), 3, some (37, true), 0⟩, ⟨some 42, (.mv (.t 9)), 3, some (37, true), 0⟩, ⟨some 43, (.mv (.t 6)), 3, some (37, true), 0⟩, ⟨some 44, (.bin .rem 3 (.t 42) (.t 43)), 3, some (37, true), 0⟩, ⟨some 45, (.call (.f 156) [(.t 38), (.t 41), (.t 44)]), 4, some (37, true), 3⟩, ⟨some 46, (.pick (.t 37) (.t 45) (.c (.bool false))), 4, none, 0⟩]) (some [0, 1, 5, 6, 7, 8, 9, 46]))
          (.cond (.t 46)
            (.region false [⟨some 47, (.mv (.t 8)), 3, none, 0⟩, ⟨some 48, (.mv (.t 9)), 3, none, 0⟩, ⟨some 49, (.call (.f 121) [(.t 48)]), 3, none, 3⟩, ⟨some 50, (.bin .add 3 (.t 47) (.t 49)), 3, none, 0⟩, ⟨some 8, (.mv (.t 50)), 3, none, 0⟩] (some [0, 1, 5, 6, 7, 8, 9]))
            .skip)))
      (.region false [⟨some 27, (.mv (.t 9)), 3, none, 0⟩, ⟨some 28, (.bin .add 3 (.t 27) (.c (.int .i64 1))), 3, none, 0⟩, ⟨some 9, (.mv (.t 28)), 3, none, 0⟩] (some [0, 1, 5, 6, 7, 8, 9]))))
def lb_190_4 : AC :=
  (.seq
    (.seq
      (.region false [⟨some 13, (.mv (.t 7)), 3, none, 0⟩, ⟨some 14, (.mv (.t 0)), 23, none, 0⟩, ⟨some 15, (.len 23 (.t 14)), 3, none, 0⟩, ⟨some 16, (.mv (.t 6)), 3, none, 0⟩, ⟨some 17, (.bin .mul 3 (.t 15) (.t 16)), 3, none, 0⟩, ⟨some 18, (.bin .lss 3 (.t 13) (.t 17)), 4, none, 0⟩] (some [0, 1, 5, 6, 7, 18]))
      (.cond (.t 18)
        .skip
        (.exit 0)))
    (.seq
      (.block 1
        (.seq
          (.region false [⟨some 8, (.mv (.c (.int .i64 0))), 3, none, 0⟩] (some [0, 1, 5, 6, 7, 8]))
          (.seq
            (.seq
              (.region false [⟨some 9, (.mv (.c (.int .i64 0))), 3, none, 0⟩] (some [0, 1, 5, 6, 7, 8, 9]))
              (.block 2
                (.loop [0, 1, 5, 6, 7, 8, 9] [80, 432] lb_190_8)))
            (.region false [⟨some 51, (.mv (.t 5)), 23, none, 0⟩, ⟨some 52, (.mv (.t 8)), 3, none, 0⟩, ⟨some 53, (.bslice 23 1 [(0, (.t 52))]), 23, none, 0⟩, ⟨some 54, (.app 23 23 (.t 51) (.t 53)), 23, none, 0⟩, ⟨some 5, (.mv (.t 54)), 23, none, 0⟩] (some [0, 1, 5, 6, 7])))))
      (.region false [⟨some 19, (.mv (.t 7)), 3, none, 0⟩, ⟨some 20, (.bin .add 3 (.t 19) (.c (.int .i64 1))), 3, none, 0⟩, ⟨some 7, (.mv (.t 20)), 3, none, 0⟩] (some [0, 1, 5, 6, 7]))))
def fa_190 : FnA := ⟨56, [.t 4],
  (.seq
    (.region false [⟨some 4, (.mv (.c .nil)), 23, none, 0⟩] (some [0, 1]))
    (.seq
      (.region false [⟨some 10, (.bslice 23 0 []), 23, none, 1⟩, ⟨some 5, (.mv (.t 10)), 23, none, 0⟩] (some [0, 1, 5]))
      (.seq
        (.region false [⟨some 11, (.mv (.t 1)), 23, none, 0⟩, ⟨some 12, (.len 23 (.t 11)), 3, none, 0⟩, ⟨some 6, (.mv (.t 12)), 3, none, 0⟩] (some [0, 1, 5, 6]))
        (.seq
          (.seq
            (.region false [⟨some 7, (.mv (.c (.int .i64 0))), 3, none, 0⟩] (some [0, 1, 5, 6, 7]))
            (.block 0
              (.loop [0, 1, 5, 6, 7] [80, 432] lb_190_4)))
          (.seq
            (.region false [⟨some 55, (.mv (.t 5)), 23, none, 0⟩, ⟨some 4, (.mv (.t 55)), 23, none, 0⟩] (some [4]))
            .ret)))))⟩
theorem fok_190 : FnOk Try.prog 190 fa_190 an_190 := ⟨Try.f190, _, Try.func190, rfl, by kernel_rfl, rfl, rfl, by decide, by kernel_rfl⟩
/-- spec.sumChain -/
def an_198 : Ann := ⟨[(1, 1, 1), (5, 0, 1), (10, 3, 2)], [(0, [0, 2]), (1, [0, 2, 3]), (2, [0, 2, 3, 4]), (3, [0, 2, 3, 4, 12]), (5, [0, 2, 3, 4, 5]), (6, [0, 2, 3, 4, 5, 6]), (7, [0, 2, 3, 4, 5, 6, 18]), (9, [0, 2, 3, 4, 5, 6]), (8, [0, 2, 3, 4, 5, 6]), (10, [0, 2, 3, 4]), (4, [0, 2, 3, 4]), (11, [2])], [(3, [0, 2, 3, 4], [16, 24, 64, 65, 66, 67, 68, 69, 70, 71, 280]), (7, [0, 2, 3, 4, 5, 6], [16, 24, 64, 65, 66, 67, 68, 69, 70, 71, 120, 240, 280])], []⟩
def lb_198_7 : AC :=
  (.seq
    (.seq
      (.region false [⟨some 16, (.mv (.t 6)), 3, none, 0⟩, ⟨some 17, (.mv (.t 0)), 3, none, 0⟩, ⟨some 18, (.bin .lss 3 (.t 16) (.t 17)), 4, none, 0⟩] (some [0, 2, 3, 4, 5, 6, 18]))
      (.cond (.t 18)
        .skip
        (.exit 2)))
    (.seq
      (.block 3
        (.region false [⟨some 21, (.mv (.t 5)), 23, none, 0⟩, ⟨some 22, (.mv (.t 4)), 3, none, 0⟩, ⟨some 23, (.mv (.t 6)), 3, none, 0⟩, ⟨some 24, (.bin .add 3 (.t 22) (.t 23)), 3, none, 0⟩, ⟨some 25, (.mv (.t 0)), 3, none, 0⟩, ⟨some 26, (.bin .sub 3 (.t 24) (.t 25)), 3, none, 0⟩, ⟨some 27, (.bin .add 3 (.t 26) (.c (.int .i64 1))), 3, none, 0⟩, ⟨some 28, (.max (.t 27) (.c (.int .i64 0))), 3, none, 0⟩, ⟨some 29, (.bslice 23 1 [(0, (.t 28))]), 23, none, 0⟩, ⟨some 30, (.app 23 23 (.t 21) (.t 29)), 23, none, 0⟩, ⟨some 5, (.mv (.t 30)), 23, none, 0⟩] (some [0, 2, 3, 4, 5, 6])))
      (.region false [⟨some 19, (.mv (.t 6)), 3, none, 0⟩, ⟨some 20, (.bin .add 3 (.t 19) (.c (.int .i64 1))), 3, none, 0⟩, ⟨some 6, (.mv (.t 20)), 3, none, 0⟩] (some [0, 2, 3, 4, 5, 6]))))
def lb_198_3 : AC :=
  (.seq
    (.seq
      (.region false [⟨some 10, (.mv (.t 4)), 3, none, 0⟩, ⟨some 11, (.mv (.t 0)), 3, none, 0⟩, ⟨some 12, (.bin .lss 3 (.t 10) (.t 11)), 4, none, 0⟩] (some [0, 2, 3, 4, 12]))
      (.cond (.t 12)
        .skip
        (.exit 0)))
    (.seq
      (.block 1
        (.seq
          (.region false [⟨some 15, (.bslice 23 0 []), 23, none, 1⟩, ⟨some 5, (.mv (.t 15)), 23, none, 0⟩] (some [0, 2, 3, 4, 5]))
          (.seq
            (.seq
              (.region false [⟨some 6, (.mv (.c (.int .i64 0))), 3, none, 0⟩] (some [0, 2, 3, 4, 5, 6]))
              (.block 2
                (.loop [0, 2, 3, 4, 5, 6] [16, 24, 64, 65, 66, 67, 68, 69, 70, 71, 120, 240, 280] lb_198_7)))
            (.region false [⟨some 31, (.faddr 27 (.t 3) 1), 0, none, 0⟩, ⟨some 32, (.load 25 (.t 31)), 25, none, 0⟩, ⟨some 33, (.mv (.t 5)), 23, none, 0⟩, ⟨some 34, (.bslice 25 1 [(0, (.t 33))]), 25, none, 2⟩, ⟨some 35, (.app 25 25 (.t 32) (.t 34)), 25, none, 0⟩, ⟨some 36, (.faddr 27 (.t 3) 1), 0, none, 0⟩, ⟨none, (.store 25 (.t 36) (.t 35)), 0, none, 0⟩] (some [0, 2, 3, 4])))))
      (.region false [⟨some 13, (.mv (.t 4)), 3, none, 0⟩, ⟨some 14, (.bin .add 3 (.t 13) (.c (.int .i64 1))), 3, none, 0⟩, ⟨some 4, (.mv (.t 14)), 3, none, 0⟩] (some [0, 2, 3, 4]))))
def fa_198 : FnA := ⟨38, [.c 2 27],
  (.seq
    (.region false [⟨some 2, (.alloc 27), 0, none, 0⟩] (some [0, 2]))
    (.seq
      (.region false [⟨some 7, (.mv (.t 0)), 3, none, 0⟩, ⟨some 8, (.call (.f 189) [(.t 7)]), 23, none, 1⟩, ⟨some 9, (.build 27 [(0, (.t 8))]), 27, none, 0⟩, ⟨some 3, (.alloc 27), 0, none, 0⟩, ⟨none, (.store 27 (.t 3) (.t 9)), 0, none, 0⟩] (some [0, 2, 3]))
      (.seq
        (.seq
          (.region false [⟨some 4, (.mv (.c (.int .i64 0))), 3, none, 0⟩] (some [0, 2, 3, 4]))
          (.block 0
            (.loop [0, 2, 3, 4] [16, 24, 64, 65, 66, 67, 68, 69, 70, 71, 280] lb_198_3)))
        (.seq
          (.region false [⟨some 37, (.load 27 (.t 3)), 27, none, 0⟩, ⟨none, (.store 27 (.t 2) (.t 37)), 0, none, 0⟩] (some [2]))
          .ret))))⟩
theorem fok_198 : FnOk Try.prog 198 fa_198 an_198 := ⟨Try.f198, _, Try.func198, rfl, by kernel_rfl, rfl, rfl, by decide, by kernel_rfl⟩
/-- spec.meetAlgebra -/
def an_98 : Ann := ⟨[(1, 0, 1), (5, 0, 1), (9, 4, 3), (10, 3, 2)], [(0, [0, 2]), (1, [0, 2, 3]), (2, [0, 2, 3, 4]), (3, [0, 2, 3, 4, 14]), (5, [0, 2, 3, 4, 5]), (6, [0, 2, 3, 4, 5, 6]), (7, [0, 2, 3, 4, 5, 6, 21]), (9, [0, 2, 3, 4, 5, 6]), (8, [0, 2, 3, 4, 5, 6]), (10, [0, 2, 3, 4]), (4, [0, 2, 3, 4]), (11, [2])], [(3, [0, 2, 3, 4], [16, 24, 56, 72, 280]), (7, [0, 2, 3, 4, 5, 6], [16, 24, 56, 72, 136, 240, 280])], []⟩
def lb_98_7 : AC :=
  (.seq
    (.seq
      (.region false [⟨some 18, (.mv (.t 6)), 3, none, 0⟩, ⟨some 19, (.mv (.t 0)), 23, none, 0⟩, ⟨some 20, (.len 23 (.t 19)), 3, none, 0⟩, ⟨some 21, (.bin .lss 3 (.t 18) (.t 20)), 4, none, 0⟩] (some [0, 2, 3, 4, 5, 6, 21]))
      (.cond (.t 21)
        .skip
        (.exit 2)))
    (.seq
      (.block 3
        (.region false [⟨some 24, (.mv (.t 5)), 23, none, 0⟩, ⟨some 25, (.mv (.t 0)), 23, none, 0⟩, ⟨some 26, (.mv (.t 4)), 3, none, 0⟩, ⟨some 27, (.mv (.t 6)), 3, none, 0⟩, ⟨some 28, (.call (.f 165) [(.t 25), (.t 26), (.t 27)]), 3, none, 3⟩, ⟨some 29, (.bslice 23 1 [(0, (.t 28))]), 23, none, 0⟩, ⟨some 30, (.app 23 23 (.t 24) (.t 29)), 23, none, 0⟩, ⟨some 5, (.mv (.t 30)), 23, none, 0⟩] (some [0, 2, 3, 4, 5, 6])))
      (.region false [⟨some 22, (.mv (.t 6)), 3, none, 0⟩, ⟨some 23, (.bin .add 3 (.t 22) (.c (.int .i64 1))), 3, none, 0⟩, ⟨some 6, (.mv (.t 23)), 3, none, 0⟩] (some [0, 2, 3, 4, 5, 6]))))
def lb_98_3 : AC :=
  (.seq
    (.seq
      (.region false [⟨some 11, (.mv (.t 4)), 3, none, 0⟩, ⟨some 12, (.mv (.t 0)), 23, none, 0⟩, ⟨some 13, (.len 23 (.t 12)), 3, none, 0⟩, ⟨some 14, (.bin .lss 3 (.t 11) (.t 13)), 4, none, 0⟩] (some [0, 2, 3, 4, 14]))
      (.cond (.t 14)
        .skip
        (.exit 0)))
    (.seq
      (.block 1
        (.seq
          (.region false [⟨some 17, (.bslice 23 0 []), 23, none, 1⟩, ⟨some 5, (.mv (.t 17)), 23, none, 0⟩] (some [0, 2, 3, 4, 5]))
          (.seq
            (.seq
              (.region false [⟨some 6, (.mv (.c (.int .i64 0))), 3, none, 0⟩] (some [0, 2, 3, 4, 5, 6]))
              (.block 2
                (.loop [0, 2, 3, 4, 5, 6] [16, 24, 56, 72, 136, 240, 280] lb_98_7)))
            (.region false [⟨some 31, (.faddr 27 (.t 3) 1), 0, none, 0⟩, ⟨some 32, (.load 25 (.t 31)), 25, none, 0⟩, ⟨some 33, (.mv (.t 5)), 23, none, 0⟩, ⟨some 34, (.bslice 25 1 [(0, (.t 33))]), 25, none, 2⟩, ⟨some 35, (.app 25 25 (.t 32) (.t 34)), 25, none, 0⟩, ⟨some 36, (.faddr 27 (.t 3) 1), 0, none, 0⟩, ⟨none, (.store 25 (.t 36) (.t 35)), 0, none, 0⟩] (some [0, 2, 3, 4])))))
      (.region false [⟨some 15, (.mv (.t 4)), 3, none, 0⟩, ⟨some 16, (.bin .add 3 (.t 15) (.c (.int .i64 1))), 3, none, 0⟩, ⟨some 4, (.mv (.t 16)), 3, none, 0⟩] (some [0, 2, 3, 4]))))
def fa_98 : FnA := ⟨38, [.c 2 27],
  (.seq
    (.region false [⟨some 2, (.alloc 27), 0, none, 0⟩] (some [0, 2]))
    (.seq
      (.region false [⟨some 7, (.bslice 23 0 []), 23, none, 1⟩, ⟨some 8, (.mv (.t 0)), 23, none, 0⟩, ⟨some 9, (.app 23 23 (.t 7) (.t 8)), 23, none, 0⟩, ⟨some 10, (.build 27 [(0, (.t 9))]), 27, none, 0⟩, ⟨some 3, (.alloc 27), 0, none, 0⟩, ⟨none, (.store 27 (.t 3) (.t 10)), 0, none, 0⟩] (some [0, 2, 3]))
      (.seq
        (.seq
          (.region false [⟨some 4, (.mv (.c (.int .i64 0))), 3, none, 0⟩] (some [0, 2, 3, 4]))
          (.block 0
            (.loop [0, 2, 3, 4] [16, 24, 56, 72, 280] lb_98_3)))
        (.seq
          (.region false [⟨some 37, (.load 27 (.t 3)), 27, none, 0⟩, ⟨none, (.store 27 (.t 2) (.t 37)), 0, none, 0⟩] (some [2]))
          .ret))))⟩
theorem fok_98 : FnOk Try.prog 98 fa_98 an_98 := ⟨Try.f98, _, Try.func98, rfl, by kernel_rfl, rfl, rfl, by decide, by kernel_rfl⟩
/-- spec.stack -/
def an_199 : Ann := ⟨[(7, 0, 1), (18, 22, 3), (18, 43, 3), (19, 2, 3), (20, 3, 2)], [(0, [2, 3, 4]), (1, [2, 3, 4, 5]), (2, [2, 3, 4, 5, 6]), (3, [2, 3, 4, 5, 6, 7]), (4, [2, 3, 4, 5, 6, 7, 8]), (5, [2, 3, 4, 5, 6, 7, 8, 25]), (7, [2, 3, 4, 5, 6, 7, 8, 9]), (8, [2, 3, 4, 5, 6, 7, 8, 9, 10]), (9, [2, 3, 4, 5, 6, 7, 8, 9, 10, 11]), (10, [2, 3, 4, 5, 6, 7, 8, 9, 10, 11, 31]), (12, [2, 3, 4, 5, 6, 7, 8, 9, 10, 11, 12]), (13, [2, 3, 4, 5, 6, 7, 8, 9, 10, 11, 12, 44]), (14, [2, 3, 4, 5, 6, 7, 8, 9, 10, 11, 12]), (15, [2, 3, 4, 5, 6, 7, 8, 9, 10, 11, 12, 60]), (16, [2, 3, 4, 5, 6, 7, 8, 9, 10, 11, 12]), (17, [2, 3, 4, 5, 6, 7, 8, 9, 10, 11]), (18, [2, 3, 4, 5, 6, 7, 8, 9, 10, 11, 124]), (19, [2, 3, 4, 5, 6, 7, 8, 9, 10, 11]), (11, [2, 3, 4, 5, 6, 7, 8, 9, 10, 11]), (20, [2, 3, 4, 5, 6, 7, 8, 10]), (21, [2, 3, 4, 5, 6, 7, 8]), (6, [2, 3, 4, 5, 6, 7, 8]), (22, [4])], [(5, [2, 3, 4, 5, 6, 7, 8], [32, 56, 1064, 1112]), (10, [2, 3, 4, 5, 6, 7, 8, 9, 10, 11], [32, 56, 224, 624, 1064, 1112])], []⟩
def lb_199_10 : AC :=
  (.seq
    (.seq
      (.region false [⟨some 29, (.mv (.t 11)), 3, none, 0⟩, ⟨some 30, (.mv (.t 6)), 3, none, 0⟩, ⟨some 31, (.bin .lss 3 (.t 29) (.t 30)), 4, none, 0⟩] (some [2, 3, 4, 5, 6, 7, 8, 9, 10, 11, 31]))
      (.cond (.t 31)
        .skip
        (.exit 2)))
    (.seq
      (.block 3
        (.seq
          (.region false [⟨some 34, (.mv (.t 8)), 3, none, 0⟩, ⟨some 35, (.mv (.t 11)), 3, none, 0⟩, ⟨some 36, (.min (.t 34) (.t 35)), 3, none, 0⟩, ⟨some 12, (.mv (.t 36)), 3, none, 0⟩] (some [2, 3, 4, 5, 6, 7, 8, 9, 10, 11, 12]))
          (.seq
            (.seq
              (.region false (gops [⟨some 37, (.mv (.t 8)), 3, none, 0⟩, ⟨some 38, (.mv (.t 5)), 3, none, 0⟩, ⟨some 39, (.bin .lss 3 (.t 37) (.t 38)), 4, none, 0⟩, ⟨some 40, (.mv (.t 39)), 4, none, 0⟩, ⟨some 41, (.mv (.t 11)), 3, some (40, true), 0⟩, ⟨some 42, (.mv (.t 5)), 3, some (40, true), 0⟩, ⟨some 43, (.bin .lss 3 (.t 41) (.t 42)), 4, some (40, true), 0⟩, ⟨some 44, (.pick (.t 40) (.t 43) (.c (.bool false))), 4, none, 0⟩]) (some [2, 3, 4, 5, 6, 7, 8, 9, 10, 11, 12, 44]))
              (.cond (.t 44)
                (.region false [⟨some 45, (.faddr 27 (.t 2) 1), 0, none, 0⟩, ⟨some 46, (.load 25 (.t 45)), 25, none, 0⟩, ⟨some 47, (.mv (.t 8)), 3, none, 0⟩, ⟨some 48, (.iaddr 25 (.t 46) (.t 47)), 0, none, 0⟩, ⟨some 49, (.load 23 (.t 48)), 23, none, 0⟩, ⟨some 50, (.mv (.t 11)), 3, none, 0⟩, ⟨some 51, (.iaddr 23 (.t 49) (.t 50)), 0, none, 0⟩, ⟨some 52, (.load 3 (.t 51)), 3, none, 0⟩, ⟨some 12, (.mv (.t 52)), 3, none, 0⟩] (some [2, 3, 4, 5, 6, 7, 8, 9, 10, 11, 12]))
                (.seq
                  (.region false (gops [⟨some 53, (.mv (.t 8)), 3, none, 0⟩, ⟨some 54, (.mv (.t 5)), 3, none, 0⟩, ⟨some 55, (.bin .geq 3 (.t 53) (.t 54)), 4, none, 0⟩, ⟨some 56, (.mv (.t 55)), 4, none, 0⟩, ⟨some 57, (.mv (.t 11)), 3, some (56, true), 0⟩, ⟨some 58, (.mv (.t 5)), 3, some (56, true), 0⟩, ⟨some 59, (.bin .geq 3 (.t 57) (.t 58)), 4, some (56, true), 0⟩, ⟨some 60, (.pick (.t 56) (.t 59) (.c (.bool false))), 4, none, 0⟩]) (some [2, 3, 4, 5, 6, 7, 8, 9, 10, 11, 12, 60]))
                  (.cond (.t 60)
                    (.region false [⟨some 61, (.mv (.t 5)), 3, none, 0⟩, ⟨some 62, (.faddr 27 (.t 3) 1), 0, none, 0⟩, ⟨some 63, (.load 25 (.t 62)), 25, none, 0⟩, ⟨some 64, (.mv (.t 8)), 3, none, 0⟩, ⟨some 65, (.mv (.t 5)), 3, none, 0⟩, ⟨some 66, (.bin .sub 3 (.t 64) (.t 65)), 3, none, 0⟩, ⟨some 67, (.iaddr 25 (.t 63) (.t 66)), 0, none, 0⟩, ⟨some 68, (.load 23 (.t 67)), 23, none, 0⟩, ⟨some 69, (.mv (.t 11)), 3, none, 0⟩, ⟨some 70, (.mv (.t 5)), 3, none, 0⟩, ⟨some 71, (.bin .sub 3 (.t 69) (.t 70)), 3, none, 0⟩, ⟨some 72, (.iaddr 23 (.t 68) (.t 71)), 0, none, 0⟩, ⟨some 73, (.load 3 (.t 72)), 3, none, 0⟩, ⟨some 74, (.bin .add 3 (.t 61) (.t 73)), 3, none, 0⟩, ⟨some 12, (.mv (.t 74)), 3, none, 0⟩] (some [2, 3, 4, 5, 6, 7, 8, 9, 10, 11, 12]))
                    .skip))))
            (.seq
              (.region false [⟨some 75, (.mv (.t 9)), 23, none, 0⟩, ⟨some 76, (.mv (.t 12)), 3, none, 0⟩, ⟨some 77, (.bslice 23 1 [(0, (.t 76))]), 23, none, 0⟩, ⟨some 78, (.app 23 23 (.t 75) (.t 77)), 23, none, 0⟩, ⟨some 9, (.mv (.t 78)), 23, none, 0⟩] (some [2, 3, 4, 5, 6, 7, 8, 9, 10, 11]))
              (.seq
                (.region false (gops (seg [2, 3, 4, 5, 6, 7, 8, 9, 10, 11, 87, 88] [⟨some 79, (.mv (.t 8)), 3, none, 0⟩, ⟨some 80, (.mv (.t 5)), 3, none, 0⟩, ⟨some 81, (.bin .lss 3 (.t 79) (.t 80)), 4, none, 0⟩, ⟨some 82, (.mv (.t 81)), 4, none, 0⟩, ⟨some 83, (.mv (.t 11)), 3, some (82, true), 0⟩, ⟨some 84, (.mv (.t 5)), 3, some (82, true), 0⟩, ⟨some 85, (.bin .geq 3 (.t 83) (.t 84)), 4, some (82, true), 0⟩, ⟨some 86, (.pick (.t 82) (.t 85) (.c (.bool false))), 4, none, 0⟩, ⟨some 87, (.mv (.t 86)), 4, none, 0⟩, ⟨some 88, (.mv (.t 8)), 3, some (87, false), 0⟩]
                (seg [2, 3, 4, 5, 6, 7, 8, 9, 10, 11, 87, 96, 98] [⟨some 89, (.mv (.t 5)), 3, some (87, false), 0⟩, ⟨some 90, (.bin .lss 3 (.t 88) (.t 89)), 4, some (87, false), 0⟩, ⟨some 91, (.mv (.t 90)), 4, some (87, false), 0⟩, ⟨some 92, (.mv (.t 11)), 3, some (91, true), 0⟩, ⟨some 93, (.mv (.t 5)), 3, some (91, true), 0⟩, ⟨some 94, (.bin .lss 3 (.t 92) (.t 93)), 4, some (91, true), 0⟩, ⟨some 95, (.pick (.t 91) (.t 94) (.c (.bool false))), 4, some (87, false), 0⟩, ⟨some 96, (.mv (.t 95)), 4, some (87, false), 0⟩, ⟨some 97, (.faddr 27 (.t 2) 0), 0, some (96, true), 0⟩, ⟨some 98, (.load 23 (.t 97)), 23, some (96, true), 0⟩]
                (seg [2, 3, 4, 5, 6, 7, 8, 9, 10, 11, 104, 108] [⟨some 99, (.mv (.t 8)), 3, some (96, true), 0⟩, ⟨some 100, (.mv (.t 11)), 3, some (96, true), 0⟩, ⟨some 101, (.call (.f 156) [(.t 98), (.t 99), (.t 100)]), 4, some (96, true), 3⟩, ⟨some 102, (.pick (.t 96) (.t 101) (.c (.bool false))), 4, some (87, false), 0⟩, ⟨some 103, (.pick (.t 87) (.c (.bool true)) (.t 102)), 4, none, 0⟩, ⟨some 104, (.mv (.t 103)), 4, none, 0⟩, ⟨some 105, (.mv (.t 8)), 3, some (104, false), 0⟩, ⟨some 106, (.mv (.t 5)), 3, some (104, false), 0⟩, ⟨some 107, (.bin .geq 3 (.t 105) (.t 106)), 4, some (104, false), 0⟩, ⟨some 108, (.mv (.t 107)), 4, some (104, false), 0⟩]
                (seg [2, 3, 4, 5, 6, 7, 8, 9, 10, 11, 104, 113, 115, 118] [⟨some 109, (.mv (.t 11)), 3, some (108, true), 0⟩, ⟨some 110, (.mv (.t 5)), 3, some (108, true), 0⟩, ⟨some 111, (.bin .geq 3 (.t 109) (.t 110)), 4, some (108, true), 0⟩, ⟨some 112, (.pick (.t 108) (.t 111) (.c (.bool false))), 4, some (104, false), 0⟩, ⟨some 113, (.mv (.t 112)), 4, some (104, false), 0⟩, ⟨some 114, (.faddr 27 (.t 3) 0), 0, some (113, true), 0⟩, ⟨some 115, (.load 23 (.t 114)), 23, some (113, true), 0⟩, ⟨some 116, (.mv (.t 8)), 3, some (113, true), 0⟩, ⟨some 117, (.mv (.t 5)), 3, some (113, true), 0⟩, ⟨some 118, (.bin .sub 3 (.t 116) (.t 117)), 3, some (113, true), 0⟩]
                [⟨some 119, (.mv (.t 11)), 3, some (113, true), 0⟩, ⟨some 120, (.mv (.t 5)), 3, some (113, true), 0⟩, ⟨some 121, (.bin .sub 3 (.t 119) (.t 120)), 3, some (113, true), 0⟩, ⟨some 122, (.call (.f 156) [(.t 115), (.t 118), (.t 121)]), 4, some (113, true), 3⟩, ⟨some 123, (.pick (.t 113) (.t 122) (.c (.bool false))), 4, some (104, false), 0⟩, ⟨some 124, (.pick (.t 104) (.c (.bool true)) (.t 123)), 4, none, 0⟩] [2, 3, 4, 5, 6, 7, 8, 9, 10, 11, 124] (by decide)) [2, 3, 4, 5, 6, 7, 8, 9, 10, 11, 124] (by decide)) [2, 3, 4, 5, 6, 7, 8, 9, 10, 11, 124] (by decide)) [2, 3, 4, 5, 6, 7, 8, 9, 10, 11, 124] (by decide))) (some [2, 3, 4, 5, 6, 7, 8, 9, 10, 11, 124]))
                (.cond (.t 124)
                  (.region false [⟨some 125, (.mv (.t 10)), 3, none, 0⟩, ⟨some 126, (.mv (.t 11)), 3, none, 0⟩, ⟨some 127, (.call (.f 121) [(.t 126)]), 3, none, 3⟩, ⟨some 128, (.bin .add 3 (.t 125) (.t 127)), 3, none, 0⟩, ⟨some 10, (.mv (.t 128)), 3, none, 0⟩] (some [2, 3, 4, 5, 6, 7, 8, 9, 10, 11]))
                  .skip))))))
      (.region false [⟨some 32, (.mv (.t 11)), 3, none, 0⟩, ⟨some 33, (.bin .add 3 (.t 32) (.c (.int .i64 1))), 3, none, 0⟩, ⟨some 11, (.mv (.t 33)), 3, none, 0⟩] (some [2, 3, 4, 5, 6, 7, 8, 9, 10, 11]))))
def lb_199_5 : AC :=
  (.seq
    (.seq
      (.region false [⟨some 23, (.mv (.t 8)), 3, none, 0⟩, ⟨some 24, (.mv (.t 6)), 3, none, 0⟩, ⟨some 25, (.bin .lss 3 (.t 23) (.t 24)), 4, none, 0⟩] (some [2, 3, 4, 5, 6, 7, 8, 25]))
      (.cond (.t 25)
        .skip
        (.exit 0)))
    (.seq
      (.block 1
        (.seq
          (.region false [⟨some 28, (.bslice 23 0 []), 23, none, 1⟩, ⟨some 9, (.mv (.t 28)), 23, none, 0⟩] (some [2, 3, 4, 5, 6, 7, 8, 9]))
          (.seq
            (.region false [⟨some 10, (.mv (.c (.int .i64 0))), 3, none, 0⟩] (some [2, 3, 4, 5, 6, 7, 8, 9, 10]))
            (.seq
              (.seq
                (.region false [⟨some 11, (.mv (.c (.int .i64 0))), 3, none, 0⟩] (some [2, 3, 4, 5, 6, 7, 8, 9, 10, 11]))
                (.block 2
                  (.loop [2, 3, 4, 5, 6, 7, 8, 9, 10, 11] [32, 56, 224, 624, 1064, 1112] lb_199_10)))
              (.seq
                (.region false [⟨some 129, (.faddr 27 (.t 7) 1), 0, none, 0⟩, ⟨some 130, (.load 25 (.t 129)), 25, none, 0⟩, ⟨some 131, (.mv (.t 9)), 23, none, 0⟩, ⟨some 132, (.bslice 25 1 [(0, (.t 131))]), 25, none, 2⟩, ⟨some 133, (.app 25 25 (.t 130) (.t 132)), 25, none, 0⟩, ⟨some 134, (.faddr 27 (.t 7) 1), 0, none, 0⟩, ⟨none, (.store 25 (.t 134) (.t 133)), 0, none, 0⟩] (some [2, 3, 4, 5, 6, 7, 8, 10]))
                (.region false [⟨some 135, (.faddr 27 (.t 7) 0), 0, none, 0⟩, ⟨some 136, (.load 23 (.t 135)), 23, none, 0⟩, ⟨some 137, (.mv (.t 10)), 3, none, 0⟩, ⟨some 138, (.bslice 23 1 [(0, (.t 137))]), 23, none, 0⟩, ⟨some 139, (.app 23 23 (.t 136) (.t 138)), 23, none, 0⟩, ⟨some 140, (.faddr 27 (.t 7) 0), 0, none, 0⟩, ⟨none, (.store 23 (.t 140) (.t 139)), 0, none, 0⟩] (some [2, 3, 4, 5, 6, 7, 8])))))))
      (.region false [⟨some 26, (.mv (.t 8)), 3, none, 0⟩, ⟨some 27, (.bin .add 3 (.t 26) (.c (.int .i64 1))), 3, none, 0⟩, ⟨some 8, (.mv (.t 27)), 3, none, 0⟩] (some [2, 3, 4, 5, 6, 7, 8]))))
def fa_199 : FnA := ⟨142, [.c 4 27],
  (.seq
    (.region false [⟨some 2, (.box 27 (.t 0)), 0, none, 0⟩, ⟨some 3, (.box 27 (.t 1)), 0, none, 0⟩, ⟨some 4, (.alloc 27), 0, none, 0⟩] (some [2, 3, 4]))
    (.seq
      (.region false [⟨some 13, (.faddr 27 (.t 2) 0), 0, none, 0⟩, ⟨some 14, (.load 23 (.t 13)), 23, none, 0⟩, ⟨some 15, (.len 23 (.t 14)), 3, none, 0⟩, ⟨some 16, (.bin .sub 3 (.t 15) (.c (.int .i64 1))), 3, none, 0⟩, ⟨some 5, (.mv (.t 16)), 3, none, 0⟩] (some [2, 3, 4, 5]))
      (.seq
        (.region false [⟨some 17, (.mv (.t 5)), 3, none, 0⟩, ⟨some 18, (.faddr 27 (.t 3) 0), 0, none, 0⟩, ⟨some 19, (.load 23 (.t 18)), 23, none, 0⟩, ⟨some 20, (.len 23 (.t 19)), 3, none, 0⟩, ⟨some 21, (.bin .add 3 (.t 17) (.t 20)), 3, none, 0⟩, ⟨some 6, (.mv (.t 21)), 3, none, 0⟩] (some [2, 3, 4, 5, 6]))
        (.seq
          (.region false [⟨some 22, (.build 27 []), 27, none, 0⟩, ⟨some 7, (.alloc 27), 0, none, 0⟩, ⟨none, (.store 27 (.t 7) (.t 22)), 0, none, 0⟩] (some [2, 3, 4, 5, 6, 7]))
          (.seq
            (.seq
              (.region false [⟨some 8, (.mv (.c (.int .i64 0))), 3, none, 0⟩] (some [2, 3, 4, 5, 6, 7, 8]))
              (.block 0
                (.loop [2, 3, 4, 5, 6, 7, 8] [32, 56, 1064, 1112] lb_199_5)))
            (.seq
              (.region false [⟨some 141, (.load 27 (.t 7)), 27, none, 0⟩, ⟨none, (.store 27 (.t 4) (.t 141)), 0, none, 0⟩] (some [4]))
              .ret))))))⟩
theorem fok_199 : FnOk Try.prog 199 fa_199 an_199 := ⟨Try.f199, _, Try.func199, rfl, by kernel_rfl, rfl, rfl, by decide, by kernel_rfl⟩
/-- spec.CrossAlgebras -/
def an_195 : Ann := ⟨[(1, 1, 3), (1, 5, 3), (3, 4, 1), (8, 0, 1), (13, 3, 2)], [(0, [2, 3, 4]), (1, [2, 3, 4, 28]), (2, [4, 5]), (3, [2, 3, 4, 6]), (4, [2, 3, 4, 6, 7]), (5, [2, 3, 4, 6, 7, 8]), (6, [2, 3, 4, 6, 7, 8, 43]), (8, [2, 3, 4, 6, 7, 8, 9]), (9, [2, 3, 4, 6, 7, 8, 9, 10]), (10, [2, 3, 4, 6, 7, 8, 9, 10, 51]), (12, [2, 3, 4, 6, 7, 8, 9, 10]), (11, [2, 3, 4, 6, 7, 8, 9, 10]), (13, [2, 3, 4, 6, 7, 8]), (7, [2, 3, 4, 6, 7, 8]), (14, [4, 5])], [(6, [2, 3, 4, 6, 7, 8], [32, 48, 272, 273, 274, 275, 276, 277, 278, 279, 704]), (10, [2, 3, 4, 6, 7, 8, 9, 10], [32, 48, 272, 273, 274, 275, 276, 277, 278, 279, 368, 664, 704])], []⟩
def lb_195_10 : AC :=
  (.seq
    (.seq
      (.region false [⟨some 47, (.mv (.t 10)), 3, none, 0⟩, ⟨some 48, (.faddr 27 (.t 6) 0), 0, none, 0⟩, ⟨some 49, (.load 23 (.t 48)), 23, none, 0⟩, ⟨some 50, (.len 23 (.t 49)), 3, none, 0⟩, ⟨some 51, (.bin .lss 3 (.t 47) (.t 50)), 4, none, 0⟩] (some [2, 3, 4, 6, 7, 8, 9, 10, 51]))
      (.cond (.t 51)
        .skip
        (.exit 2)))
    (.seq
      (.block 3
        (.region true (seg [2, 3, 4, 6, 7, 8, 10, 54, 61, 62, 63] [⟨some 54, (.mv (.t 9)), 23, none, 0⟩, ⟨some 55, (.faddr 27 (.t 2) 1), 0, none, 0⟩, ⟨some 56, (.load 25 (.t 55)), 25, none, 0⟩, ⟨some 57, (.mv (.t 8)), 3, none, 0⟩, ⟨some 58, (.mv (.t 7)), 3, none, 0⟩, ⟨some 59, (.bin .quo 3 (.t 57) (.t 58)), 3, none, 0⟩, ⟨some 60, (.iaddr 25 (.t 56) (.t 59)), 0, none, 0⟩, ⟨some 61, (.load 23 (.t 60)), 23, none, 0⟩, ⟨some 62, (.mv (.t 10)), 3, none, 0⟩, ⟨some 63, (.mv (.t 7)), 3, none, 0⟩]
        (seg [2, 3, 4, 6, 7, 8, 10, 54, 68, 70, 73] [⟨some 64, (.bin .quo 3 (.t 62) (.t 63)), 3, none, 0⟩, ⟨some 65, (.iaddr 23 (.t 61) (.t 64)), 0, none, 0⟩, ⟨some 66, (.load 3 (.t 65)), 3, none, 0⟩, ⟨some 67, (.mv (.t 7)), 3, none, 0⟩, ⟨some 68, (.bin .mul 3 (.t 66) (.t 67)), 3, none, 0⟩, ⟨some 69, (.faddr 27 (.t 3) 1), 0, none, 0⟩, ⟨some 70, (.load 25 (.t 69)), 25, none, 0⟩, ⟨some 71, (.mv (.t 8)), 3, none, 0⟩, ⟨some 72, (.mv (.t 7)), 3, none, 0⟩, ⟨some 73, (.bin .rem 3 (.t 71) (.t 72)), 3, none, 0⟩]
        [⟨some 74, (.iaddr 25 (.t 70) (.t 73)), 0, none, 0⟩, ⟨some 75, (.load 23 (.t 74)), 23, none, 0⟩, ⟨some 76, (.mv (.t 10)), 3, none, 0⟩, ⟨some 77, (.mv (.t 7)), 3, none, 0⟩, ⟨some 78, (.bin .rem 3 (.t 76) (.t 77)), 3, none, 0⟩, ⟨some 79, (.iaddr 23 (.t 75) (.t 78)), 0, none, 0⟩, ⟨some 80, (.load 3 (.t 79)), 3, none, 0⟩, ⟨some 81, (.bin .add 3 (.t 68) (.t 80)), 3, none, 0⟩, ⟨some 82, (.bslice 23 1 [(0, (.t 81))]), 23, none, 0⟩, ⟨some 83, (.app 23 23 (.t 54) (.t 82)), 23, none, 0⟩, ⟨some 9, (.mv (.t 83)), 23, none, 0⟩] [2, 3, 4, 6, 7, 8, 9, 10] (by decide)) [2, 3, 4, 6, 7, 8, 9, 10] (by decide)) (some [2, 3, 4, 6, 7, 8, 9, 10])))
      (.region false [⟨some 52, (.mv (.t 10)), 3, none, 0⟩, ⟨some 53, (.bin .add 3 (.t 52) (.c (.int .i64 1))), 3, none, 0⟩, ⟨some 10, (.mv (.t 53)), 3, none, 0⟩] (some [2, 3, 4, 6, 7, 8, 9, 10]))))
def lb_195_6 : AC :=
  (.seq
    (.seq
      (.region false [⟨some 39, (.mv (.t 8)), 3, none, 0⟩, ⟨some 40, (.faddr 27 (.t 6) 0), 0, none, 0⟩, ⟨some 41, (.load 23 (.t 40)), 23, none, 0⟩, ⟨some 42, (.len 23 (.t 41)), 3, none, 0⟩, ⟨some 43, (.bin .lss 3 (.t 39) (.t 42)), 4, none, 0⟩] (some [2, 3, 4, 6, 7, 8, 43]))
      (.cond (.t 43)
        .skip
        (.exit 0)))
    (.seq
      (.block 1
        (.seq
          (.region false [⟨some 46, (.bslice 23 0 []), 23, none, 1⟩, ⟨some 9, (.mv (.t 46)), 23, none, 0⟩] (some [2, 3, 4, 6, 7, 8, 9]))
          (.seq
            (.seq
              (.region false [⟨some 10, (.mv (.c (.int .i64 0))), 3, none, 0⟩] (some [2, 3, 4, 6, 7, 8, 9, 10]))
              (.block 2
                (.loop [2, 3, 4, 6, 7, 8, 9, 10] [32, 48, 272, 273, 274, 275, 276, 277, 278, 279, 368, 664, 704] lb_195_10)))
            (.region false [⟨some 84, (.faddr 27 (.t 6) 1), 0, none, 0⟩, ⟨some 85, (.load 25 (.t 84)), 25, none, 0⟩, ⟨some 86, (.mv (.t 9)), 23, none, 0⟩, ⟨some 87, (.bslice 25 1 [(0, (.t 86))]), 25, none, 2⟩, ⟨some 88, (.app 25 25 (.t 85) (.t 87)), 25, none, 0⟩, ⟨some 89, (.faddr 27 (.t 6) 1), 0, none, 0⟩, ⟨none, (.store 25 (.t 89) (.t 88)), 0, none, 0⟩] (some [2, 3, 4, 6, 7, 8])))))
      (.region false [⟨some 44, (.mv (.t 8)), 3, none, 0⟩, ⟨some 45, (.bin .add 3 (.t 44) (.c (.int .i64 1))), 3, none, 0⟩, ⟨some 8, (.mv (.t 45)), 3, none, 0⟩] (some [2, 3, 4, 6, 7, 8]))))
def fa_195 : FnA := ⟨91, [.c 4 27, .t 5],
  (.seq
    (.region false [⟨some 2, (.box 27 (.t 0)), 0, none, 0⟩, ⟨some 3, (.box 27 (.t 1)), 0, none, 0⟩, ⟨some 4, (.alloc 27), 0, none, 0⟩, ⟨some 5, (.mv (.c (.bool false))), 4, none, 0⟩] (some [2, 3, 4]))
    (.seq
      (.seq
        (.region false (gops [⟨some 11, (.load 27 (.t 2)), 27, none, 0⟩, ⟨some 12, (.call (.f 111) [(.t 11)]), 4, none, 3⟩, ⟨some 13, (.un .not (.t 12)), 4, none, 0⟩, ⟨some 14, (.mv (.t 13)), 4, none, 0⟩, ⟨some 15, (.load 27 (.t 3)), 27, some (14, false), 0⟩, ⟨some 16, (.call (.f 111) [(.t 15)]), 4, some (14, false), 3⟩, ⟨some 17, (.un .not (.t 16)), 4, some (14, false), 0⟩, ⟨some 18, (.pick (.t 14) (.c (.bool true)) (.t 17)), 4, none, 0⟩, ⟨some 19, (.mv (.t 18)), 4, none, 0⟩, ⟨some 20, (.faddr 27 (.t 2) 0), 0, some (19, false), 0⟩, ⟨some 21, (.load 23 (.t 20)), 23, some (19, false), 0⟩, ⟨some 22, (.len 23 (.t 21)), 3, some (19, false), 0⟩, ⟨some 23, (.faddr 27 (.t 3) 0), 0, some (19, false), 0⟩, ⟨some 24, (.load 23 (.t 23)), 23, some (19, false), 0⟩, ⟨some 25, (.len 23 (.t 24)), 3, some (19, false), 0⟩, ⟨some 26, (.bin .mul 3 (.t 22) (.t 25)), 3, some (19, false), 0⟩, ⟨some 27, (.bin .gtr 3 (.t 26) (.c (.int .i64 6))), 4, some (19, false), 0⟩, ⟨some 28, (.pick (.t 19) (.c (.bool true)) (.t 27)), 4, none, 0⟩]) (some [2, 3, 4, 28]))
        (.cond (.t 28)
          (.seq
            (.region false [⟨some 29, (.build 27 []), 27, none, 0⟩, ⟨none, (.store 27 (.t 4) (.t 29)), 0, none, 0⟩, ⟨some 5, (.mv (.c (.bool false))), 4, none, 0⟩] (some [4, 5]))
            .ret)
          .skip))
      (.seq
        (.region false [⟨some 30, (.faddr 27 (.t 2) 0), 0, none, 0⟩, ⟨some 31, (.load 23 (.t 30)), 23, none, 0⟩, ⟨some 32, (.faddr 27 (.t 3) 0), 0, none, 0⟩, ⟨some 33, (.load 23 (.t 32)), 23, none, 0⟩, ⟨some 34, (.call (.f 190) [(.t 31), (.t 33)]), 23, none, 1⟩, ⟨some 35, (.build 27 [(0, (.t 34))]), 27, none, 0⟩, ⟨some 6, (.alloc 27), 0, none, 0⟩, ⟨none, (.store 27 (.t 6) (.t 35)), 0, none, 0⟩] (some [2, 3, 4, 6]))
        (.seq
          (.region false [⟨some 36, (.faddr 27 (.t 3) 0), 0, none, 0⟩, ⟨some 37, (.load 23 (.t 36)), 23, none, 0⟩, ⟨some 38, (.len 23 (.t 37)), 3, none, 0⟩, ⟨some 7, (.mv (.t 38)), 3, none, 0⟩] (some [2, 3, 4, 6, 7]))
          (.seq
            (.seq
              (.region false [⟨some 8, (.mv (.c (.int .i64 0))), 3, none, 0⟩] (some [2, 3, 4, 6, 7, 8]))
              (.block 0
                (.loop [2, 3, 4, 6, 7, 8] [32, 48, 272, 273, 274, 275, 276, 277, 278, 279, 704] lb_195_6)))
            (.seq
              (.region false [⟨some 90, (.load 27 (.t 6)), 27, none, 0⟩, ⟨none, (.store 27 (.t 4) (.t 90)), 0, none, 0⟩, ⟨some 5, (.mv (.c (.bool true))), 4, none, 0⟩] (some [4, 5]))
              .ret))))))⟩
theorem fok_195 : FnOk Try.prog 195 fa_195 an_195 := ⟨Try.f195, _, Try.func195, rfl, by kernel_rfl, rfl, rfl, by decide, by kernel_rfl⟩
/-- spec.StackAlgebras -/
def an_196 : Ann := ⟨[(1, 1, 3), (1, 5, 3), (3, 2, 1)], [(0, [2, 3, 4]), (1, [2, 3, 4, 24]), (2, [4, 5]), (3, [4, 5])], [], []⟩
def fa_196 : FnA := ⟨29, [.c 4 27, .t 5],
  (.seq
    (.region false [⟨some 2, (.box 27 (.t 0)), 0, none, 0⟩, ⟨some 3, (.box 27 (.t 1)), 0, none, 0⟩, ⟨some 4, (.alloc 27), 0, none, 0⟩, ⟨some 5, (.mv (.c (.bool false))), 4, none, 0⟩] (some [2, 3, 4]))
    (.seq
      (.seq
        (.region false (gops (seg [2, 3, 4, 14, 15] [⟨some 6, (.load 27 (.t 2)), 27, none, 0⟩, ⟨some 7, (.call (.f 111) [(.t 6)]), 4, none, 3⟩, ⟨some 8, (.un .not (.t 7)), 4, none, 0⟩, ⟨some 9, (.mv (.t 8)), 4, none, 0⟩, ⟨some 10, (.load 27 (.t 3)), 27, some (9, false), 0⟩, ⟨some 11, (.call (.f 111) [(.t 10)]), 4, some (9, false), 3⟩, ⟨some 12, (.un .not (.t 11)), 4, some (9, false), 0⟩, ⟨some 13, (.pick (.t 9) (.c (.bool true)) (.t 12)), 4, none, 0⟩, ⟨some 14, (.mv (.t 13)), 4, none, 0⟩, ⟨some 15, (.faddr 27 (.t 2) 0), 0, some (14, false), 0⟩]
        [⟨some 16, (.load 23 (.t 15)), 23, some (14, false), 0⟩, ⟨some 17, (.len 23 (.t 16)), 3, some (14, false), 0⟩, ⟨some 18, (.faddr 27 (.t 3) 0), 0, some (14, false), 0⟩, ⟨some 19, (.load 23 (.t 18)), 23, some (14, false), 0⟩, ⟨some 20, (.len 23 (.t 19)), 3, some (14, false), 0⟩, ⟨some 21, (.bin .add 3 (.t 17) (.t 20)), 3, some (14, false), 0⟩, ⟨some 22, (.bin .sub 3 (.t 21) (.c (.int .i64 1))), 3, some (14, false), 0⟩, ⟨some 23, (.bin .gtr 3 (.t 22) (.c (.int .i64 6))), 4, some (14, false), 0⟩, ⟨some 24, (.pick (.t 14) (.c (.bool true)) (.t 23)), 4, none, 0⟩] [2, 3, 4, 24] (by decide))) (some [2, 3, 4, 24]))
        (.cond (.t 24)
          (.seq
            (.region false [⟨some 25, (.build 27 []), 27, none, 0⟩, ⟨none, (.store 27 (.t 4) (.t 25)), 0, none, 0⟩, ⟨some 5, (.mv (.c (.bool false))), 4, none, 0⟩] (some [4, 5]))
            .ret)
          .skip))
      (.seq
        (.region false [⟨some 26, (.load 27 (.t 2)), 27, none, 0⟩, ⟨some 27, (.load 27 (.t 3)), 27, none, 0⟩, ⟨some 28, (.call (.f 199) [(.t 26), (.t 27)]), 27, none, 1⟩, ⟨none, (.store 27 (.t 4) (.t 28)), 0, none, 0⟩, ⟨some 5, (.mv (.c (.bool true))), 4, none, 0⟩] (some [4, 5]))
        .ret)))⟩
theorem fok_196 : FnOk Try.prog 196 fa_196 an_196 := ⟨Try.f196, _, Try.func196, rfl, by kernel_rfl, rfl, rfl, by decide, by kernel_rfl⟩
/-- spec.copyTable -/
def an_194 : Ann := ⟨[(1, 0, 1), (5, 1, 1), (5, 7, 2)], [(0, [0]), (1, [0, 3]), (2, [0, 3, 4]), (3, [0, 3, 4, 9]), (5, [0, 3, 4]), (4, [0, 3, 4]), (6, [2])], [(3, [0, 3, 4], [40, 160])], []⟩
def lb_194_3 : AC :=
  (.seq
    (.seq
      (.region false [⟨some 6, (.mv (.t 4)), 3, none, 0⟩, ⟨some 7, (.mv (.t 0)), 25, none, 0⟩, ⟨some 8, (.len 25 (.t 7)), 3, none, 0⟩, ⟨some 9, (.bin .lss 3 (.t 6) (.t 8)), 4, none, 0⟩] (some [0, 3, 4, 9]))
      (.cond (.t 9)
        .skip
        (.exit 0)))
    (.seq
      (.block 1
        (.region false [⟨some 12, (.mv (.t 3)), 25, none, 0⟩, ⟨some 13, (.bslice 23 0 []), 23, none, 1⟩, ⟨some 14, (.mv (.t 0)), 25, none, 0⟩, ⟨some 15, (.mv (.t 4)), 3, none, 0⟩, ⟨some 16, (.iaddr 25 (.t 14) (.t 15)), 0, none, 0⟩, ⟨some 17, (.load 23 (.t 16)), 23, none, 0⟩, ⟨some 18, (.app 23 23 (.t 13) (.t 17)), 23, none, 0⟩, ⟨some 19, (.bslice 25 1 [(0, (.t 18))]), 25, none, 2⟩, ⟨some 20, (.app 25 25 (.t 12) (.t 19)), 25, none, 0⟩, ⟨some 3, (.mv (.t 20)), 25, none, 0⟩] (some [0, 3, 4])))
      (.region false [⟨some 10, (.mv (.t 4)), 3, none, 0⟩, ⟨some 11, (.bin .add 3 (.t 10) (.c (.int .i64 1))), 3, none, 0⟩, ⟨some 4, (.mv (.t 11)), 3, none, 0⟩] (some [0, 3, 4]))))
def fa_194 : FnA := ⟨22, [.t 2],
  (.seq
    (.region false [⟨some 2, (.mv (.c .nil)), 25, none, 0⟩] (some [0]))
    (.seq
      (.region false [⟨some 5, (.bslice 25 0 []), 25, none, 1⟩, ⟨some 3, (.mv (.t 5)), 25, none, 0⟩] (some [0, 3]))
      (.seq
        (.seq
          (.region false [⟨some 4, (.mv (.c (.int .i64 0))), 3, none, 0⟩] (some [0, 3, 4]))
          (.block 0
            (.loop [0, 3, 4] [40, 160] lb_194_3)))
        (.seq
          (.region false [⟨some 21, (.mv (.t 3)), 25, none, 0⟩, ⟨some 2, (.mv (.t 21)), 25, none, 0⟩] (some [2]))
          .ret))))⟩
theorem fok_194 : FnOk Try.prog 194 fa_194 an_194 := ⟨Try.f194, _, Try.func194, rfl, by kernel_rfl, rfl, rfl, by decide, by kernel_rfl⟩
/-- spec.fill -/
def an_203 : Ann := ⟨[(2, 1, 3), (2, 3, 3), (3, 1, 3), (7, 6, 3), (8, 0, 1), (13, 1, 1), (14, 3, 1), (15, 3, 1), (16, 2, 2), (16, 6, 3), (17, 0, 2)], [(0, [0, 1, 2, 3]), (1, [0, 1, 2, 3, 16]), (2, [9]), (3, [9, 23]), (4, [8]), (5, [8]), (6, [0, 1, 2, 3, 31]), (7, [8]), (8, [0, 1, 2, 3, 10]), (9, [0, 1, 2, 3, 10, 11]), (10, [0, 1, 2, 3, 10, 11, 44]), (12, [0, 1, 2, 3, 10, 11, 68]), (13, [0, 1, 2, 3, 10, 11, 12]), (14, [0, 1, 2, 3, 10, 11, 12]), (15, [0, 1, 2, 3, 10, 11, 12]), (16, [0, 1, 2, 3, 10, 11]), (11, [0, 1, 2, 3, 10, 11]), (17, [8])], [(10, [0, 1, 2, 3, 10, 11], [312, 736])], []⟩
def lb_203_10 : AC :=
  (.seq
    (.seq
      (.region false [⟨some 40, (.mv (.t 11)), 3, none, 0⟩, ⟨some 41, (.mv (.t 2)), 3, none, 0⟩, ⟨some 42, (.mv (.t 3)), 3, none, 0⟩, ⟨some 43, (.min (.t 41) (.t 42)), 3, none, 0⟩, ⟨some 44, (.bin .leq 3 (.t 40) (.t 43)), 4, none, 0⟩] (some [0, 1, 2, 3, 10, 11, 44]))
      (.cond (.t 44)
        .skip
        (.exit 0)))
    (.seq
      (.block 1
        (.seq
          (.region false (gops (seg [0, 1, 2, 3, 10, 11, 56] [⟨some 47, (.mv (.t 11)), 3, none, 0⟩, ⟨some 48, (.mv (.t 1)), 25, none, 0⟩, ⟨some 49, (.mv (.t 2)), 3, none, 0⟩, ⟨some 50, (.bin .sub 3 (.t 49) (.c (.int .i64 1))), 3, none, 0⟩, ⟨some 51, (.iaddr 25 (.t 48) (.t 50)), 0, none, 0⟩, ⟨some 52, (.load 23 (.t 51)), 23, none, 0⟩, ⟨some 53, (.mv (.t 3)), 3, none, 0⟩, ⟨some 54, (.iaddr 23 (.t 52) (.t 53)), 0, none, 0⟩, ⟨some 55, (.load 3 (.t 54)), 3, none, 0⟩, ⟨some 56, (.bin .geq 3 (.t 47) (.t 55)), 4, none, 0⟩]
          [⟨some 57, (.mv (.t 56)), 4, none, 0⟩, ⟨some 58, (.mv (.t 11)), 3, some (57, true), 0⟩, ⟨some 59, (.mv (.t 1)), 25, some (57, true), 0⟩, ⟨some 60, (.mv (.t 2)), 3, some (57, true), 0⟩, ⟨some 61, (.iaddr 25 (.t 59) (.t 60)), 0, some (57, true), 0⟩, ⟨some 62, (.load 23 (.t 61)), 23, some (57, true), 0⟩, ⟨some 63, (.mv (.t 3)), 3, some (57, true), 0⟩, ⟨some 64, (.bin .sub 3 (.t 63) (.c (.int .i64 1))), 3, some (57, true), 0⟩, ⟨some 65, (.iaddr 23 (.t 62) (.t 64)), 0, some (57, true), 0⟩, ⟨some 66, (.load 3 (.t 65)), 3, some (57, true), 0⟩, ⟨some 67, (.bin .geq 3 (.t 58) (.t 66)), 4, some (57, true), 0⟩, ⟨some 68, (.pick (.t 57) (.t 67) (.c (.bool false))), 4, none, 0⟩] [0, 1, 2, 3, 10, 11, 68] (by decide))) (some [0, 1, 2, 3, 10, 11, 68]))
          (.cond (.t 68)
            (.seq
              (.region false [⟨some 69, (.mv (.t 1)), 25, none, 0⟩, ⟨some 70, (.call (.f 194) [(.t 69)]), 25, none, 1⟩, ⟨some 12, (.mv (.t 70)), 25, none, 0⟩] (some [0, 1, 2, 3, 10, 11, 12]))
              (.seq
                (.region false [⟨some 71, (.mv (.t 12)), 25, none, 0⟩, ⟨some 72, (.mv (.t 2)), 3, none, 0⟩, ⟨some 73, (.iaddr 25 (.t 71) (.t 72)), 0, none, 0⟩, ⟨some 74, (.load 23 (.t 73)), 23, none, 1⟩, ⟨some 75, (.mv (.t 3)), 3, none, 0⟩, ⟨some 76, (.mv (.t 11)), 3, none, 0⟩, ⟨some 77, (.iaddr 23 (.t 74) (.t 75)), 0, none, 0⟩, ⟨none, (.store 3 (.t 77) (.t 76)), 0, none, 0⟩] (some [0, 1, 2, 3, 10, 11, 12]))
                (.seq
                  (.region false [⟨some 78, (.mv (.t 12)), 25, none, 0⟩, ⟨some 79, (.mv (.t 3)), 3, none, 0⟩, ⟨some 80, (.iaddr 25 (.t 78) (.t 79)), 0, none, 0⟩, ⟨some 81, (.load 23 (.t 80)), 23, none, 1⟩, ⟨some 82, (.mv (.t 2)), 3, none, 0⟩, ⟨some 83, (.mv (.t 11)), 3, none, 0⟩, ⟨some 84, (.iaddr 23 (.t 81) (.t 82)), 0, none, 0⟩, ⟨none, (.store 3 (.t 84) (.t 83)), 0, none, 0⟩] (some [0, 1, 2, 3, 10, 11, 12]))
                  (.region false [⟨some 85, (.mv (.t 10)), 134, none, 0⟩, ⟨some 86, (.mv (.t 0)), 3, none, 0⟩, ⟨some 87, (.mv (.t 12)), 25, none, 2⟩, ⟨some 88, (.mv (.t 2)), 3, none, 0⟩, ⟨some 89, (.mv (.t 3)), 3, none, 0⟩, ⟨some 90, (.bin .add 3 (.t 89) (.c (.int .i64 1))), 3, none, 0⟩, ⟨some 91, (.call (.f 203) [(.t 86), (.t 87), (.t 88), (.t 90)]), 134, none, 3⟩, ⟨some 92, (.app 134 134 (.t 85) (.t 91)), 134, none, 0⟩, ⟨some 10, (.mv (.t 92)), 134, none, 0⟩] (some [0, 1, 2, 3, 10, 11])))))
            .skip)))
      (.region false [⟨some 45, (.mv (.t 11)), 3, none, 0⟩, ⟨some 46, (.bin .add 3 (.t 45) (.c (.int .i64 1))), 3, none, 0⟩, ⟨some 11, (.mv (.t 46)), 3, none, 0⟩] (some [0, 1, 2, 3, 10, 11]))))
def fa_203 : FnA := ⟨94, [.t 8],
  (.seq
    (.region false [⟨some 8, (.mv (.c .nil)), 134, none, 0⟩] (some [0, 1, 2, 3]))
    (.seq
      (.seq
        (.region false [⟨some 13, (.mv (.t 2)), 3, none, 0⟩, ⟨some 14, (.mv (.t 0)), 3, none, 0⟩, ⟨some 15, (.bin .sub 3 (.t 14) (.c (.int .i64 1))), 3, none, 0⟩, ⟨some 16, (.bin .eql 3 (.t 13) (.t 15)), 4, none, 0⟩] (some [0, 1, 2, 3, 16]))
        (.cond (.t 16)
          (.seq
            (.region false [⟨some 17, (.mv (.t 0)), 3, none, 0⟩, ⟨some 18, (.call (.f 189) [(.t 17)]), 23, none, 3⟩, ⟨some 19, (.mv (.t 1)), 25, none, 0⟩, ⟨some 20, (.call (.f 194) [(.t 19)]), 25, none, 3⟩, ⟨some 21, (.build 27 [(0, (.t 18)), (1, (.t 20))]), 27, none, 0⟩, ⟨some 9, (.alloc 27), 0, none, 0⟩, ⟨none, (.store 27 (.t 9) (.t 21)), 0, none, 0⟩] (some [9]))
            (.seq
              (.seq
                (.region false [⟨some 22, (.load 27 (.t 9)), 27, none, 0⟩, ⟨some 23, (.call (.f 111) [(.t 22)]), 4, none, 3⟩] (some [9, 23]))
                (.cond (.t 23)
                  (.seq
                    (.region false [⟨some 24, (.faddr 27 (.t 9) 1), 0, none, 0⟩, ⟨some 25, (.load 25 (.t 24)), 25, none, 0⟩, ⟨some 26, (.bslice 134 1 [(0, (.t 25))]), 134, none, 0⟩, ⟨some 8, (.mv (.t 26)), 134, none, 0⟩] (some [8]))
                    .ret)
                  .skip))
              (.seq
                (.region false [⟨some 27, (.bslice 134 0 []), 134, none, 0⟩, ⟨some 8, (.mv (.t 27)), 134, none, 0⟩] (some [8]))
                .ret)))
          .skip))
      (.seq
        (.seq
          (.region false [⟨some 28, (.mv (.t 3)), 3, none, 0⟩, ⟨some 29, (.mv (.t 0)), 3, none, 0⟩, ⟨some 30, (.bin .sub 3 (.t 29) (.c (.int .i64 1))), 3, none, 0⟩, ⟨some 31, (.bin .eql 3 (.t 28) (.t 30)), 4, none, 0⟩] (some [0, 1, 2, 3, 31]))
          (.cond (.t 31)
            (.seq
              (.region false [⟨some 32, (.mv (.t 0)), 3, none, 0⟩, ⟨some 33, (.mv (.t 1)), 25, none, 0⟩, ⟨some 34, (.mv (.t 2)), 3, none, 0⟩, ⟨some 35, (.bin .add 3 (.t 34) (.c (.int .i64 1))), 3, none, 0⟩, ⟨some 36, (.mv (.t 2)), 3, none, 0⟩, ⟨some 37, (.bin .add 3 (.t 36) (.c (.int .i64 1))), 3, none, 0⟩, ⟨some 38, (.call (.f 203) [(.t 32), (.t 33), (.t 35), (.t 37)]), 134, none, 3⟩, ⟨some 8, (.mv (.t 38)), 134, none, 0⟩] (some [8]))
              .ret)
            .skip))
        (.seq
          (.region false [⟨some 39, (.bslice 134 0 []), 134, none, 1⟩, ⟨some 10, (.mv (.t 39)), 134, none, 0⟩] (some [0, 1, 2, 3, 10]))
          (.seq
            (.seq
              (.region false [⟨some 11, (.mv (.c (.int .i64 0))), 3, none, 0⟩] (some [0, 1, 2, 3, 10, 11]))
              (.block 0
                (.loop [0, 1, 2, 3, 10, 11] [312, 736] lb_203_10)))
            (.seq
              (.region false [⟨some 93, (.mv (.t 10)), 134, none, 2⟩, ⟨some 8, (.mv (.t 93)), 134, none, 0⟩] (some [8]))
              .ret))))))⟩
theorem fok_203 : FnOk Try.prog 203 fa_203 an_203 := ⟨Try.f203, _, Try.func203, rfl, by kernel_rfl, rfl, rfl, by decide, by kernel_rfl⟩
/-- spec.chains -/
def an_200 : Ann := ⟨[(1, 0, 1), (12, 2, 2), (13, 0, 2), (15, 2, 3), (16, 0, 1), (20, 2, 3), (21, 0, 2)], [(0, [0]), (1, [0, 3]), (2, [0, 3, 4]), (3, [0, 3, 4, 13]), (5, [0, 3, 4, 5]), (6, [0, 3, 4, 5]), (7, [0, 3, 4, 5, 26]), (8, [0, 3, 4, 5, 6]), (9, [0, 3, 4, 5, 6, 29]), (11, [0, 3, 4, 5, 6]), (10, [0, 3, 4, 5, 6]), (12, [0, 3, 4]), (4, [0, 3, 4]), (13, [0, 3, 7]), (14, [0, 3, 7, 43]), (15, [0, 7]), (16, [0, 7, 8]), (17, [0, 7, 8, 9]), (18, [0, 7, 8, 9, 51]), (20, [0, 7, 8, 9]), (19, [0, 7, 8, 9]), (21, [2])], [(3, [0, 3, 4], [80, 312]), (9, [0, 3, 4, 5, 6], [80, 136, 312]), (18, [0, 7, 8, 9], [80, 312, 376, 504])], []⟩
def lb_200_9 : AC :=
  (.seq
    (.seq
      (.region false [⟨some 27, (.mv (.t 6)), 3, none, 0⟩, ⟨some 28, (.mv (.t 0)), 3, none, 0⟩, ⟨some 29, (.bin .lss 3 (.t 27) (.t 28)), 4, none, 0⟩] (some [0, 3, 4, 5, 6, 29]))
      (.cond (.t 29)
        .skip
        (.exit 2)))
    (.seq
      (.block 3
        (.region false [⟨some 32, (.mv (.t 5)), 23, none, 0⟩, ⟨some 33, (.mv (.t 6)), 3, none, 0⟩, ⟨some 34, (.mv (.t 6)), 3, none, 0⟩, ⟨some 35, (.iaddr 23 (.t 32) (.t 33)), 0, none, 0⟩, ⟨none, (.store 3 (.t 35) (.t 34)), 0, none, 0⟩] (some [0, 3, 4, 5, 6])))
      (.region false [⟨some 30, (.mv (.t 6)), 3, none, 0⟩, ⟨some 31, (.bin .add 3 (.t 30) (.c (.int .i64 1))), 3, none, 0⟩, ⟨some 6, (.mv (.t 31)), 3, none, 0⟩] (some [0, 3, 4, 5, 6]))))
def lb_200_3 : AC :=
  (.seq
    (.seq
      (.region false [⟨some 11, (.mv (.t 4)), 3, none, 0⟩, ⟨some 12, (.mv (.t 0)), 3, none, 0⟩, ⟨some 13, (.bin .lss 3 (.t 11) (.t 12)), 4, none, 0⟩] (some [0, 3, 4, 13]))
      (.cond (.t 13)
        .skip
        (.exit 0)))
    (.seq
      (.block 1
        (.seq
          (.region false [⟨some 16, (.mv (.t 0)), 3, none, 0⟩, ⟨some 17, (.make 23 (.t 16) (.t 16)), 23, none, 0⟩, ⟨some 5, (.mv (.t 17)), 23, none, 0⟩] (some [0, 3, 4, 5]))
          (.seq
            (.region false [⟨some 18, (.mv (.t 5)), 23, none, 0⟩, ⟨some 19, (.mv (.t 0)), 3, none, 0⟩, ⟨some 20, (.bin .sub 3 (.t 19) (.c (.int .i64 1))), 3, none, 0⟩, ⟨some 21, (.mv (.t 4)), 3, none, 0⟩, ⟨some 22, (.iaddr 23 (.t 18) (.t 20)), 0, none, 0⟩, ⟨none, (.store 3 (.t 22) (.t 21)), 0, none, 0⟩] (some [0, 3, 4, 5]))
            (.seq
              (.seq
                (.region false [⟨some 23, (.mv (.t 4)), 3, none, 0⟩, ⟨some 24, (.mv (.t 0)), 3, none, 0⟩, ⟨some 25, (.bin .sub 3 (.t 24) (.c (.int .i64 1))), 3, none, 0⟩, ⟨some 26, (.bin .eql 3 (.t 23) (.t 25)), 4, none, 0⟩] (some [0, 3, 4, 5, 26]))
                (.cond (.t 26)
                  (.seq
                    (.region false [⟨some 6, (.mv (.c (.int .i64 0))), 3, none, 0⟩] (some [0, 3, 4, 5, 6]))
                    (.block 2
                      (.loop [0, 3, 4, 5, 6] [80, 136, 312] lb_200_9)))
                  .skip))
              (.region false [⟨some 36, (.mv (.t 3)), 25, none, 0⟩, ⟨some 37, (.mv (.t 5)), 23, none, 0⟩, ⟨some 38, (.bslice 25 1 [(0, (.t 37))]), 25, none, 2⟩, ⟨some 39, (.app 25 25 (.t 36) (.t 38)), 25, none, 0⟩, ⟨some 3, (.mv (.t 39)), 25, none, 0⟩] (some [0, 3, 4]))))))
      (.region false [⟨some 14, (.mv (.t 4)), 3, none, 0⟩, ⟨some 15, (.bin .add 3 (.t 14) (.c (.int .i64 1))), 3, none, 0⟩, ⟨some 4, (.mv (.t 15)), 3, none, 0⟩] (some [0, 3, 4]))))
def lb_200_18 : AC :=
  (.seq
    (.seq
      (.region false [⟨some 48, (.mv (.t 9)), 3, none, 0⟩, ⟨some 49, (.mv (.t 7)), 134, none, 0⟩, ⟨some 50, (.len 134 (.t 49)), 3, none, 0⟩, ⟨some 51, (.bin .lss 3 (.t 48) (.t 50)), 4, none, 0⟩] (some [0, 7, 8, 9, 51]))
      (.cond (.t 51)
        .skip
        (.exit 4)))
    (.seq
      (.block 5
        (.region true [⟨some 54, (.mv (.t 8)), 128, none, 0⟩, ⟨some 55, (.mv (.t 0)), 3, none, 0⟩, ⟨some 56, (.call (.f 189) [(.t 55)]), 23, none, 3⟩, ⟨some 57, (.mv (.t 7)), 134, none, 0⟩, ⟨some 58, (.mv (.t 9)), 3, none, 0⟩, ⟨some 59, (.iaddr 134 (.t 57) (.t 58)), 0, none, 0⟩, ⟨some 60, (.load 25 (.t 59)), 25, none, 0⟩, ⟨some 61, (.build 27 [(0, (.t 56)), (1, (.t 60))]), 27, none, 0⟩, ⟨some 62, (.bslice 128 1 [(0, (.t 61))]), 128, none, 0⟩, ⟨some 63, (.app 128 128 (.t 54) (.t 62)), 128, none, 0⟩, ⟨some 8, (.mv (.t 63)), 128, none, 0⟩] (some [0, 7, 8, 9])))
      (.region false [⟨some 52, (.mv (.t 9)), 3, none, 0⟩, ⟨some 53, (.bin .add 3 (.t 52) (.c (.int .i64 1))), 3, none, 0⟩, ⟨some 9, (.mv (.t 53)), 3, none, 0⟩] (some [0, 7, 8, 9]))))
def fa_200 : FnA := ⟨65, [.t 2],
  (.seq
    (.region false [⟨some 2, (.mv (.c .nil)), 128, none, 0⟩] (some [0]))
    (.seq
      (.region false [⟨some 10, (.bslice 25 0 []), 25, none, 1⟩, ⟨some 3, (.mv (.t 10)), 25, none, 0⟩] (some [0, 3]))
      (.seq
        (.seq
          (.region false [⟨some 4, (.mv (.c (.int .i64 0))), 3, none, 0⟩] (some [0, 3, 4]))
          (.block 0
            (.loop [0, 3, 4] [80, 312] lb_200_3)))
        (.seq
          (.region false [⟨some 40, (.mv (.t 3)), 25, none, 2⟩, ⟨some 41, (.bslice 134 1 [(0, (.t 40))]), 134, none, 0⟩, ⟨some 7, (.mv (.t 41)), 134, none, 0⟩] (some [0, 3, 7]))
          (.seq
            (.seq
              (.region false [⟨some 42, (.mv (.t 0)), 3, none, 0⟩, ⟨some 43, (.bin .gtr 3 (.t 42) (.c (.int .i64 2))), 4, none, 0⟩] (some [0, 3, 7, 43]))
              (.cond (.t 43)
                (.region false [⟨some 44, (.mv (.t 0)), 3, none, 0⟩, ⟨some 45, (.mv (.t 3)), 25, none, 0⟩, ⟨some 46, (.call (.f 203) [(.t 44), (.t 45), (.c (.int .i64 1)), (.c (.int .i64 1))]), 134, none, 3⟩, ⟨some 7, (.mv (.t 46)), 134, none, 0⟩] (some [0, 7]))
                .skip))
            (.seq
              (.region false [⟨some 47, (.bslice 128 0 []), 128, none, 1⟩, ⟨some 8, (.mv (.t 47)), 128, none, 0⟩] (some [0, 7, 8]))
              (.seq
                (.seq
                  (.region false [⟨some 9, (.mv (.c (.int .i64 0))), 3, none, 0⟩] (some [0, 7, 8, 9]))
                  (.block 4
                    (.loop [0, 7, 8, 9] [80, 312, 376, 504] lb_200_18)))
                (.seq
                  (.region false [⟨some 64, (.mv (.t 8)), 128, none, 2⟩, ⟨some 2, (.mv (.t 64)), 128, none, 0⟩] (some [2]))
                  .ret))))))))⟩
theorem fok_200 : FnOk Try.prog 200 fa_200 an_200 := ⟨Try.f200, _, Try.func200, rfl, by kernel_rfl, rfl, rfl, by decide, by kernel_rfl⟩
/-- spec.chains -/
def an_200b : Ann := ⟨[(1, 0, 1), (12, 2, 2), (13, 1, 2), (15, 1, 2), (15, 2, 3), (16, 0, 1), (20, 2, 3), (21, 0, 2)], [(0, [0]), (1, [0, 3]), (2, [0, 3, 4]), (3, [0, 3, 4, 13]), (5, [0, 3, 4, 5]), (6, [0, 3, 4, 5]), (7, [0, 3, 4, 5, 26]), (8, [0, 3, 4, 5, 6]), (9, [0, 3, 4, 5, 6, 29]), (11, [0, 3, 4, 5, 6]), (10, [0, 3, 4, 5, 6]), (12, [0, 3, 4]), (4, [0, 3, 4]), (13, [0, 3, 7]), (14, [0, 3, 7, 43]), (15, [0, 7]), (16, [0, 7, 8]), (17, [0, 7, 8, 9]), (18, [0, 7, 8, 9, 51]), (20, [0, 7, 8, 9]), (19, [0, 7, 8, 9]), (21, [2])], [(3, [0, 3, 4], [80, 312]), (9, [0, 3, 4, 5, 6], [80, 136, 312]), (18, [0, 7, 8, 9], [80, 312, 376, 504])], []⟩
def lb_200b_9 : AC :=
  (.seq
    (.seq
      (.region false [⟨some 27, (.mv (.t 6)), 3, none, 0⟩, ⟨some 28, (.mv (.t 0)), 3, none, 0⟩, ⟨some 29, (.bin .lss 3 (.t 27) (.t 28)), 4, none, 0⟩] (some [0, 3, 4, 5, 6, 29]))
      (.cond (.t 29)
        .skip
        (.exit 2)))
    (.seq
      (.block 3
        (.region false [⟨some 32, (.mv (.t 5)), 23, none, 0⟩, ⟨some 33, (.mv (.t 6)), 3, none, 0⟩, ⟨some 34, (.mv (.t 6)), 3, none, 0⟩, ⟨some 35, (.iaddr 23 (.t 32) (.t 33)), 0, none, 0⟩, ⟨none, (.store 3 (.t 35) (.t 34)), 0, none, 0⟩] (some [0, 3, 4, 5, 6])))
      (.region false [⟨some 30, (.mv (.t 6)), 3, none, 0⟩, ⟨some 31, (.bin .add 3 (.t 30) (.c (.int .i64 1))), 3, none, 0⟩, ⟨some 6, (.mv (.t 31)), 3, none, 0⟩] (some [0, 3, 4, 5, 6]))))
def lb_200b_3 : AC :=
  (.seq
    (.seq
      (.region false [⟨some 11, (.mv (.t 4)), 3, none, 0⟩, ⟨some 12, (.mv (.t 0)), 3, none, 0⟩, ⟨some 13, (.bin .lss 3 (.t 11) (.t 12)), 4, none, 0⟩] (some [0, 3, 4, 13]))
      (.cond (.t 13)
        .skip
        (.exit 0)))
    (.seq
      (.block 1
        (.seq
          (.region false [⟨some 16, (.mv (.t 0)), 3, none, 0⟩, ⟨some 17, (.make 23 (.t 16) (.t 16)), 23, none, 0⟩, ⟨some 5, (.mv (.t 17)), 23, none, 0⟩] (some [0, 3, 4, 5]))
          (.seq
            (.region false [⟨some 18, (.mv (.t 5)), 23, none, 0⟩, ⟨some 19, (.mv (.t 0)), 3, none, 0⟩, ⟨some 20, (.bin .sub 3 (.t 19) (.c (.int .i64 1))), 3, none, 0⟩, ⟨some 21, (.mv (.t 4)), 3, none, 0⟩, ⟨some 22, (.iaddr 23 (.t 18) (.t 20)), 0, none, 0⟩, ⟨none, (.store 3 (.t 22) (.t 21)), 0, none, 0⟩] (some [0, 3, 4, 5]))
            (.seq
              (.seq
                (.region false [⟨some 23, (.mv (.t 4)), 3, none, 0⟩, ⟨some 24, (.mv (.t 0)), 3, none, 0⟩, ⟨some 25, (.bin .sub 3 (.t 24) (.c (.int .i64 1))), 3, none, 0⟩, ⟨some 26, (.bin .eql 3 (.t 23) (.t 25)), 4, none, 0⟩] (some [0, 3, 4, 5, 26]))
                (.cond (.t 26)
                  (.seq
                    (.region false [⟨some 6, (.mv (.c (.int .i64 0))), 3, none, 0⟩] (some [0, 3, 4, 5, 6]))
                    (.block 2
                      (.loop [0, 3, 4, 5, 6] [80, 136, 312] lb_200b_9)))
                  .skip))
              (.region false [⟨some 36, (.mv (.t 3)), 25, none, 0⟩, ⟨some 37, (.mv (.t 5)), 23, none, 0⟩, ⟨some 38, (.bslice 25 1 [(0, (.t 37))]), 25, none, 2⟩, ⟨some 39, (.app 25 25 (.t 36) (.t 38)), 25, none, 0⟩, ⟨some 3, (.mv (.t 39)), 25, none, 0⟩] (some [0, 3, 4]))))))
      (.region false [⟨some 14, (.mv (.t 4)), 3, none, 0⟩, ⟨some 15, (.bin .add 3 (.t 14) (.c (.int .i64 1))), 3, none, 0⟩, ⟨some 4, (.mv (.t 15)), 3, none, 0⟩] (some [0, 3, 4]))))
def lb_200b_18 : AC :=
  (.seq
    (.seq
      (.region false [⟨some 48, (.mv (.t 9)), 3, none, 0⟩, ⟨some 49, (.mv (.t 7)), 134, none, 0⟩, ⟨some 50, (.len 134 (.t 49)), 3, none, 0⟩, ⟨some 51, (.bin .lss 3 (.t 48) (.t 50)), 4, none, 0⟩] (some [0, 7, 8, 9, 51]))
      (.cond (.t 51)
        .skip
        (.exit 4)))
    (.seq
      (.block 5
        (.region true [⟨some 54, (.mv (.t 8)), 128, none, 0⟩, ⟨some 55, (.mv (.t 0)), 3, none, 0⟩, ⟨some 56, (.call (.f 189) [(.t 55)]), 23, none, 3⟩, ⟨some 57, (.mv (.t 7)), 134, none, 0⟩, ⟨some 58, (.mv (.t 9)), 3, none, 0⟩, ⟨some 59, (.iaddr 134 (.t 57) (.t 58)), 0, none, 0⟩, ⟨some 60, (.load 25 (.t 59)), 25, none, 0⟩, ⟨some 61, (.build 27 [(0, (.t 56)), (1, (.t 60))]), 27, none, 0⟩, ⟨some 62, (.bslice 128 1 [(0, (.t 61))]), 128, none, 0⟩, ⟨some 63, (.app 128 128 (.t 54) (.t 62)), 128, none, 0⟩, ⟨some 8, (.mv (.t 63)), 128, none, 0⟩] (some [0, 7, 8, 9])))
      (.region false [⟨some 52, (.mv (.t 9)), 3, none, 0⟩, ⟨some 53, (.bin .add 3 (.t 52) (.c (.int .i64 1))), 3, none, 0⟩, ⟨some 9, (.mv (.t 53)), 3, none, 0⟩] (some [0, 7, 8, 9]))))
def fa_200b : FnA := ⟨65, [.t 2],
  (.seq
    (.region false [⟨some 2, (.mv (.c .nil)), 128, none, 0⟩] (some [0]))
    (.seq
      (.region false [⟨some 10, (.bslice 25 0 []), 25, none, 1⟩, ⟨some 3, (.mv (.t 10)), 25, none, 0⟩] (some [0, 3]))
      (.seq
        (.seq
          (.region false [⟨some 4, (.mv (.c (.int .i64 0))), 3, none, 0⟩] (some [0, 3, 4]))
          (.block 0
            (.loop [0, 3, 4] [80, 312] lb_200b_3)))
        (.seq
          (.region false [⟨some 40, (.mv (.t 3)), 25, none, 0⟩, ⟨some 41, (.bslice 134 1 [(0, (.t 40))]), 134, none, 2⟩, ⟨some 7, (.mv (.t 41)), 134, none, 0⟩] (some [0, 3, 7]))
          (.seq
            (.seq
              (.region false [⟨some 42, (.mv (.t 0)), 3, none, 0⟩, ⟨some 43, (.bin .gtr 3 (.t 42) (.c (.int .i64 2))), 4, none, 0⟩] (some [0, 3, 7, 43]))
              (.cond (.t 43)
                (.region false [⟨some 44, (.mv (.t 0)), 3, none, 0⟩, ⟨some 45, (.mv (.t 3)), 25, none, 2⟩, ⟨some 46, (.call (.f 203) [(.t 44), (.t 45), (.c (.int .i64 1)), (.c (.int .i64 1))]), 134, none, 3⟩, ⟨some 7, (.mv (.t 46)), 134, none, 0⟩] (some [0, 7]))
                .skip))
            (.seq
              (.region false [⟨some 47, (.bslice 128 0 []), 128, none, 1⟩, ⟨some 8, (.mv (.t 47)), 128, none, 0⟩] (some [0, 7, 8]))
              (.seq
                (.seq
                  (.region false [⟨some 9, (.mv (.c (.int .i64 0))), 3, none, 0⟩] (some [0, 7, 8, 9]))
                  (.block 4
                    (.loop [0, 7, 8, 9] [80, 312, 376, 504] lb_200b_18)))
                (.seq
                  (.region false [⟨some 64, (.mv (.t 8)), 128, none, 2⟩, ⟨some 2, (.mv (.t 64)), 128, none, 0⟩] (some [2]))
                  .ret))))))))⟩
theorem fok_200b : FnOk Try.prog 200 fa_200b an_200b := ⟨Try.f200, _, Try.func200, rfl, by kernel_rfl, rfl, rfl, by decide, by kernel_rfl⟩
/-- spec.algebraOf -/
def an_181 : Ann := ⟨[(1, 2, 16), (2, 1, 16), (4, 1, 3), (6, 1, 3), (6, 2, 3), (9, 3, 16), (10, 1, 3), (10, 6, 3), (10, 7, 3), (13, 0, 3), (13, 6, 16), (13, 8, 3), (13, 9, 3), (13, 10, 3), (14, 2, 3), (15, 4, 16)], [(0, [0, 1, 4]), (1, [0, 1, 4, 5]), (2, [0, 1, 4, 5, 13]), (3, [0, 1, 4, 5, 13, 14]), (4, [4]), (5, [0, 1, 4, 5, 13, 18]), (6, [4]), (7, [0, 1, 4, 5, 13, 23]), (8, [0, 4, 5, 26]), (9, [4, 5, 6]), (10, [4]), (11, [0, 1, 4, 5, 40]), (12, [0, 1, 4, 5, 43]), (13, [4]), (14, [0, 4, 7]), (15, [4])], [], []⟩
def fa_181 : FnA := ⟨65, [.c 4 27],
  (.seq
    (.region false [⟨some 4, (.alloc 27), 0, none, 0⟩] (some [0, 1, 4]))
    (.seq
      (.region false [⟨some 8, (.mv (.t 0)), 72, none, 0⟩, ⟨some 9, (.mv (.t 1)), 3, none, 0⟩, ⟨some 10, (.call (.f 106) [(.t 8), (.t 9)]), 3, none, 16⟩, ⟨some 11, (.bin .add 3 (.c (.int .i64 1)) (.t 10)), 3, none, 0⟩, ⟨some 5, (.mv (.t 11)), 3, none, 0⟩] (some [0, 1, 4, 5]))
      (.seq
        (.seq
          (.region false [⟨some 12, (.mv (.t 0)), 72, none, 0⟩, ⟨some 13, (.call (.f 106) [(.t 12), (.c (.int .i64 6))]), 3, none, 16⟩] (some [0, 1, 4, 5, 13]))
          (.block 0
            (.seq
              (.region false [⟨some 15, (.bin .eql 3 (.t 13) (.c (.int .i64 0))), 4, none, 0⟩, ⟨some 14, (.mv (.t 15)), 4, none, 0⟩] (some [0, 1, 4, 5, 13, 14]))
              (.cond (.t 14)
                (.seq
                  (.region false [⟨some 16, (.mv (.t 5)), 3, none, 0⟩, ⟨some 17, (.call (.f 198) [(.t 16)]), 27, none, 3⟩, ⟨none, (.store 27 (.t 4) (.t 17)), 0, none, 0⟩] (some [4]))
                  .ret)
                (.seq
                  (.region false [⟨some 19, (.bin .eql 3 (.t 13) (.c (.int .i64 1))), 4, none, 0⟩, ⟨some 18, (.mv (.t 19)), 4, none, 0⟩] (some [0, 1, 4, 5, 13, 18]))
                  (.cond (.t 18)
                    (.seq
                      (.region false [⟨some 20, (.mv (.t 5)), 3, none, 0⟩, ⟨some 21, (.call (.f 189) [(.t 20)]), 23, none, 3⟩, ⟨some 22, (.call (.f 98) [(.t 21)]), 27, none, 3⟩, ⟨none, (.store 27 (.t 4) (.t 22)), 0, none, 0⟩] (some [4]))
                      .ret)
                    (.seq
                      (.region false [⟨some 24, (.bin .eql 3 (.t 13) (.c (.int .i64 2))), 4, none, 0⟩, ⟨some 23, (.mv (.t 24)), 4, none, 0⟩] (some [0, 1, 4, 5, 13, 23]))
                      (.cond (.t 23)
                        (.seq
                          (.region false [⟨some 25, (.mv (.t 5)), 3, none, 0⟩, ⟨some 26, (.bin .gtr 3 (.t 25) (.c (.int .i64 2))), 4, none, 0⟩] (some [0, 4, 5, 26]))
                          (.cond (.t 26)
                            (.seq
                              (.region false [⟨some 27, (.mv (.t 0)), 72, none, 0⟩, ⟨some 28, (.mv (.t 5)), 3, none, 0⟩, ⟨some 29, (.bin .sub 3 (.t 28) (.c (.int .i64 2))), 3, none, 0⟩, ⟨some 30, (.call (.f 106) [(.t 27), (.t 29)]), 3, none, 16⟩, ⟨some 31, (.bin .add 3 (.c (.int .i64 2)) (.t 30)), 3, none, 0⟩, ⟨some 6, (.mv (.t 31)), 3, none, 0⟩] (some [4, 5, 6]))
                              (.seq
                                (.region false [⟨some 32, (.mv (.t 6)), 3, none, 0⟩, ⟨some 33, (.call (.f 198) [(.t 32)]), 27, none, 3⟩, ⟨some 34, (.mv (.t 5)), 3, none, 0⟩, ⟨some 35, (.mv (.t 6)), 3, none, 0⟩, ⟨some 36, (.bin .sub 3 (.t 34) (.t 35)), 3, none, 0⟩, ⟨some 37, (.bin .add 3 (.t 36) (.c (.int .i64 1))), 3, none, 0⟩, ⟨some 38, (.call (.f 198) [(.t 37)]), 27, none, 3⟩, ⟨some 39, (.call (.f 199) [(.t 33), (.t 38)]), 27, none, 3⟩, ⟨none, (.store 27 (.t 4) (.t 39)), 0, none, 0⟩] (some [4]))
                                .ret))
                            .skip))
                        (.seq
                          (.region false [⟨some 41, (.bin .eql 3 (.t 13) (.c (.int .i64 3))), 4, none, 0⟩, ⟨some 40, (.mv (.t 41)), 4, none, 0⟩] (some [0, 1, 4, 5, 40]))
                          (.cond (.t 40)
                            (.seq
                              (.region false [⟨some 42, (.mv (.t 1)), 3, none, 0⟩, ⟨some 43, (.bin .geq 3 (.t 42) (.c (.int .i64 4))), 4, none, 0⟩] (some [0, 1, 4, 5, 43]))
                              (.cond (.t 43)
                                (.seq
                                  (.region false [⟨some 44, (.call (.f 189) [(.c (.int .i64 2))]), 23, none, 3⟩, ⟨some 45, (.mv (.t 0)), 72, none, 0⟩, ⟨some 46, (.mv (.t 1)), 3, none, 0⟩, ⟨some 47, (.bin .quo 3 (.t 46) (.c (.int .i64 2))), 3, none, 0⟩, ⟨some 48, (.bin .sub 3 (.t 47) (.c (.int .i64 1))), 3, none, 0⟩, ⟨some 49, (.min (.t 48) (.c (.int .i64 2))), 3, none, 0⟩, ⟨some 50, (.call (.f 106) [(.t 45), (.t 49)]), 3, none, 16⟩, ⟨some 51, (.bin .add 3 (.c (.int .i64 2)) (.t 50)), 3, none, 0⟩, ⟨some 52, (.call (.f 189) [(.t 51)]), 23, none, 3⟩, ⟨some 53, (.call (.f 190) [(.t 44), (.t 52)]), 23, none, 3⟩, ⟨some 54, (.call (.f 98) [(.t 53)]), 27, none, 3⟩, ⟨none, (.store 27 (.t 4) (.t 54)), 0, none, 0⟩] (some [4]))
                                  .ret)
                                .skip))
                            .skip))))))))))
        (.seq
          (.region false [⟨some 55, (.mv (.t 5)), 3, none, 0⟩, ⟨some 56, (.min (.t 55) (.c (.int .i64 5))), 3, none, 0⟩, ⟨some 57, (.call (.f 200) [(.t 56)]), 128, none, 3⟩, ⟨some 7, (.mv (.t 57)), 128, none, 0⟩] (some [0, 4, 7]))
          (.seq
            (.region false [⟨some 58, (.mv (.t 7)), 128, none, 0⟩, ⟨some 59, (.mv (.t 0)), 72, none, 0⟩, ⟨some 60, (.mv (.t 7)), 128, none, 0⟩, ⟨some 61, (.len 128 (.t 60)), 3, none, 0⟩, ⟨some 62, (.call (.f 106) [(.t 59), (.t 61)]), 3, none, 16⟩, ⟨some 63, (.iaddr 128 (.t 58) (.t 62)), 0, none, 0⟩, ⟨some 64, (.load 27 (.t 63)), 27, none, 0⟩, ⟨none, (.store 27 (.t 4) (.t 64)), 0, none, 0⟩] (some [4]))
            .ret)))))⟩
theorem fok_181 : FnOk Try.prog 181 fa_181 an_181 := ⟨Try.f181, _, Try.func181, rfl, by kernel_rfl, rfl, rfl, by decide, by kernel_rfl⟩
/-- spec.goodAlgebra -/
def an_169 : Ann := ⟨[(1, 1, 16), (3, 1, 16), (4, 1, 16), (5, 2, 3), (9, 0, 3), (9, 1, 3), (9, 2, 3), (9, 3, 3), (9, 5, 16), (9, 6, 3), (12, 1, 16)], [(0, [0, 2]), (1, [0, 2, 10]), (2, [0, 2, 10, 11]), (3, [0, 2, 3]), (4, [0, 2, 3, 4]), (5, [0, 2, 5, 6]), (6, [0, 2, 5, 23]), (7, [2]), (8, [0, 2, 25]), (9, [0, 2, 7, 8]), (10, [0, 2, 7, 37]), (11, [2]), (12, [2])], [], []⟩
def fa_169 : FnA := ⟨41, [.c 2 27],
  (.seq
    (.region false [⟨some 2, (.alloc 27), 0, none, 0⟩] (some [0, 2]))
    (.seq
      (.seq
        (.region false [⟨some 9, (.mv (.t 0)), 72, none, 0⟩, ⟨some 10, (.call (.f 106) [(.t 9), (.c (.int .i64 5))]), 3, none, 16⟩] (some [0, 2, 10]))
        (.block 0
          (.seq
            (.region false [⟨some 12, (.bin .eql 3 (.t 10) (.c (.int .i64 0))), 4, none, 0⟩, ⟨some 11, (.mv (.t 12)), 4, none, 0⟩] (some [0, 2, 10, 11]))
            (.cond (.t 11)
              (.seq
                (.region false [⟨some 13, (.mv (.t 0)), 72, none, 0⟩, ⟨some 14, (.call (.f 181) [(.t 13), (.c (.int .i64 2))]), 27, none, 16⟩, ⟨some 3, (.alloc 27), 0, none, 0⟩, ⟨none, (.store 27 (.t 3) (.t 14)), 0, none, 0⟩] (some [0, 2, 3]))
                (.seq
                  (.region false [⟨some 15, (.mv (.t 0)), 72, none, 0⟩, ⟨some 16, (.call (.f 181) [(.t 15), (.c (.int .i64 3))]), 27, none, 16⟩, ⟨some 4, (.alloc 27), 0, none, 0⟩, ⟨none, (.store 27 (.t 4) (.t 16)), 0, none, 0⟩] (some [0, 2, 3, 4]))
                  (.seq
                    (.region false [⟨some 18, (.load 27 (.t 4)), 27, none, 0⟩, ⟨some 19, (.load 27 (.t 3)), 27, none, 0⟩, ⟨some 20, (.call (.f 195) [(.t 18), (.t 19)]), 28, none, 3⟩, ⟨some 17, (.mv (.t 20)), 28, none, 0⟩, ⟨some 21, (.ext (.t 17) 0), 27, none, 0⟩, ⟨some 22, (.ext (.t 17) 1), 4, none, 0⟩, ⟨some 5, (.alloc 27), 0, none, 0⟩, ⟨none, (.store 27 (.t 5) (.t 21)), 0, none, 0⟩, ⟨some 6, (.mv (.t 22)), 4, none, 0⟩] (some [0, 2, 5, 6]))
                    (.seq
                      (.region false [⟨some 23, (.mv (.t 6)), 4, none, 0⟩] (some [0, 2, 5, 23]))
                      (.cond (.t 23)
                        (.seq
                          (.region false [⟨some 24, (.load 27 (.t 5)), 27, none, 0⟩, ⟨none, (.store 27 (.t 2) (.t 24)), 0, none, 0⟩] (some [2]))
                          .ret)
                        .skip)))))
              (.seq
                (.region false [⟨some 26, (.bin .eql 3 (.t 10) (.c (.int .i64 1))), 4, none, 0⟩, ⟨some 25, (.mv (.t 26)), 4, none, 0⟩] (some [0, 2, 25]))
                (.cond (.t 25)
                  (.seq
                    (.region false [⟨some 28, (.call (.f 189) [(.c (.int .i64 2))]), 23, none, 3⟩, ⟨some 29, (.call (.f 189) [(.c (.int .i64 2))]), 23, none, 3⟩, ⟨some 30, (.call (.f 190) [(.t 28), (.t 29)]), 23, none, 3⟩, ⟨some 31, (.call (.f 98) [(.t 30)]), 27, none, 3⟩, ⟨some 32, (.mv (.t 0)), 72, none, 0⟩, ⟨some 33, (.call (.f 181) [(.t 32), (.c (.int .i64 3))]), 27, none, 16⟩, ⟨some 34, (.call (.f 196) [(.t 31), (.t 33)]), 28, none, 3⟩, ⟨some 27, (.mv (.t 34)), 28, none, 0⟩, ⟨some 35, (.ext (.t 27) 0), 27, none, 0⟩, ⟨some 36, (.ext (.t 27) 1), 4, none, 0⟩, ⟨some 7, (.alloc 27), 0, none, 0⟩, ⟨none, (.store 27 (.t 7) (.t 35)), 0, none, 0⟩, ⟨some 8, (.mv (.t 36)), 4, none, 0⟩] (some [0, 2, 7, 8]))
                    (.seq
                      (.region false [⟨some 37, (.mv (.t 8)), 4, none, 0⟩] (some [0, 2, 7, 37]))
                      (.cond (.t 37)
                        (.seq
                          (.region false [⟨some 38, (.load 27 (.t 7)), 27, none, 0⟩, ⟨none, (.store 27 (.t 2) (.t 38)), 0, none, 0⟩] (some [2]))
                          .ret)
                        .skip)))
                  .skip))))))
      (.seq
        (.region false [⟨some 39, (.mv (.t 0)), 72, none, 0⟩, ⟨some 40, (.call (.f 181) [(.t 39), (.c (.int .i64 6))]), 27, none, 16⟩, ⟨none, (.store 27 (.t 2) (.t 40)), 0, none, 0⟩] (some [2]))
        .ret)))⟩
theorem fok_169 : FnOk Try.prog 169 fa_169 an_169 := ⟨Try.f169, _, Try.func169, rfl, by kernel_rfl, rfl, rfl, by decide, by kernel_rfl⟩
/-- spec.bent -/
def ex_168_8_32767 : Ex := .fin
def ex_168_8_16383 : Ex := (.alt 14 ex_168_8_32767 .stop)
def ex_168_8_8191 : Ex := (.alt 13 ex_168_8_16383 .stop)
def ex_168_8_8175 : Ex := (.alt 4 ex_168_8_8191 .stop)
def ex_168_8_8167 : Ex := (.alt 3 ex_168_8_8175 .stop)
def ex_168_8_8165 : Ex := (.alt 1 ex_168_8_8167 .stop)
def ex_168_8_8164 : Ex := (.alt 0 ex_168_8_8165 .stop)
def ex_168_8_4095 : Ex := (.alt 12 ex_168_8_8191 .stop)
def ex_168_8_4079 : Ex := (.alt 4 ex_168_8_4095 (.alt 12 ex_168_8_8175 .stop))
def ex_168_8_4071 : Ex := (.alt 3 ex_168_8_4079 (.alt 12 ex_168_8_8167 .stop))
def ex_168_8_4069 : Ex := (.alt 1 ex_168_8_4071 (.alt 12 ex_168_8_8165 .stop))
def ex_168_8_4068 : Ex := (.alt 0 ex_168_8_4069 (.alt 12 ex_168_8_8164 .stop))
def ex_168_8_3583 : Ex := (.alt 9 ex_168_8_4095 .stop)
def ex_168_8_3567 : Ex := (.alt 4 ex_168_8_3583 (.alt 9 ex_168_8_4079 .stop))
def ex_168_8_3559 : Ex := (.alt 3 ex_168_8_3567 (.alt 9 ex_168_8_4071 .stop))
def ex_168_8_3557 : Ex := (.alt 1 ex_168_8_3559 (.alt 9 ex_168_8_4069 .stop))
def ex_168_8_3556 : Ex := (.alt 0 ex_168_8_3557 (.alt 9 ex_168_8_4068 .stop))
def ex_168_8_3327 : Ex := (.alt 8 ex_168_8_3583 .stop)
def ex_168_8_3311 : Ex := (.alt 4 ex_168_8_3327 (.alt 8 ex_168_8_3567 .stop))
def ex_168_8_3303 : Ex := (.alt 3 ex_168_8_3311 (.alt 8 ex_168_8_3559 .stop))
def ex_168_8_3301 : Ex := (.alt 1 ex_168_8_3303 (.alt 8 ex_168_8_3557 .stop))
def ex_168_8_3300 : Ex := (.alt 0 ex_168_8_3301 (.alt 8 ex_168_8_3556 .stop))
def ex_168_8_3199 : Ex := (.alt 7 ex_168_8_3327 .stop)
def ex_168_8_3183 : Ex := (.alt 4 ex_168_8_3199 (.alt 7 ex_168_8_3311 .stop))
def ex_168_8_3175 : Ex := (.alt 3 ex_168_8_3183 (.alt 7 ex_168_8_3303 .stop))
def ex_168_8_3173 : Ex := (.alt 1 ex_168_8_3175 (.alt 7 ex_168_8_3301 .stop))
def ex_168_8_3172 : Ex := (.alt 0 ex_168_8_3173 (.alt 7 ex_168_8_3300 .stop))
def ex_168_8_3135 : Ex := (.alt 6 ex_168_8_3199 .stop)
def ex_168_8_3119 : Ex := (.alt 4 ex_168_8_3135 (.alt 6 ex_168_8_3183 .stop))
def ex_168_8_3111 : Ex := (.alt 3 ex_168_8_3119 (.alt 6 ex_168_8_3175 .stop))
def ex_168_8_3109 : Ex := (.alt 1 ex_168_8_3111 (.alt 6 ex_168_8_3173 .stop))
def ex_168_8_3108 : Ex := (.alt 0 ex_168_8_3109 (.alt 6 ex_168_8_3172 .stop))
def ex_168_8_1060 : Ex := .one 11 ex_168_8_3108
def ex_168_8_36 : Ex := .one 10 ex_168_8_1060
def ex_168_8_4 : Ex := .one 5 ex_168_8_36
def ex_168_8_0 : Ex := .one 2 ex_168_8_4
def ro_168_8 : List AOper := [⟨some 33, (.faddr 27 (.t 5) 1), 0, none, 0⟩, ⟨some 34, (.load 25 (.t 33)), 25, none, 0⟩, ⟨some 35, (.mv (.t 6)), 3, none, 0⟩, ⟨some 36, (.iaddr 25 (.t 34) (.t 35)), 0, none, 0⟩, ⟨some 37, (.load 23 (.t 36)), 23, none, 1⟩, ⟨some 38, (.mv (.t 0)), 72, none, 0⟩, ⟨some 39, (.faddr 27 (.t 5) 0), 0, none, 0⟩, ⟨some 40, (.load 23 (.t 39)), 23, none, 0⟩, ⟨some 41, (.len 23 (.t 40)), 3, none, 0⟩, ⟨some 42, (.call (.f 106) [(.t 38), (.t 41)]), 3, none, 16⟩, ⟨some 43, (.mv (.t 0)), 72, none, 0⟩, ⟨some 44, (.bslice 23 4 [(0, (.c (.int .i64 0))), (1, (.c (.int .i64 1))), (2, (.c (.int .i64 (-1)))), (3, (.c (.int .i64 6)))]), 23, none, 0⟩, ⟨some 45, (.call (.f 161) [(.t 43), (.t 44)]), 3, none, 16⟩, ⟨some 46, (.iaddr 23 (.t 37) (.t 42)), 0, none, 0⟩, ⟨none, (.store 3 (.t 46) (.t 45)), 0, none, 0⟩]
theorem ro_168_8_0 : ro_168_8[0]? = some ⟨some 33, (.faddr 27 (.t 5) 1), 0, none, 0⟩ := (rfl)
theorem ro_168_8_1 : ro_168_8[1]? = some ⟨some 34, (.load 25 (.t 33)), 25, none, 0⟩ := (rfl)
theorem ro_168_8_2 : ro_168_8[2]? = some ⟨some 35, (.mv (.t 6)), 3, none, 0⟩ := (rfl)
theorem ro_168_8_3 : ro_168_8[3]? = some ⟨some 36, (.iaddr 25 (.t 34) (.t 35)), 0, none, 0⟩ := (rfl)
theorem ro_168_8_4 : ro_168_8[4]? = some ⟨some 37, (.load 23 (.t 36)), 23, none, 1⟩ := (rfl)
theorem ro_168_8_5 : ro_168_8[5]? = some ⟨some 38, (.mv (.t 0)), 72, none, 0⟩ := (rfl)
theorem ro_168_8_6 : ro_168_8[6]? = some ⟨some 39, (.faddr 27 (.t 5) 0), 0, none, 0⟩ := (rfl)
theorem ro_168_8_7 : ro_168_8[7]? = some ⟨some 40, (.load 23 (.t 39)), 23, none, 0⟩ := (rfl)
theorem ro_168_8_8 : ro_168_8[8]? = some ⟨some 41, (.len 23 (.t 40)), 3, none, 0⟩ := (rfl)
theorem ro_168_8_9 : ro_168_8[9]? = some ⟨some 42, (.call (.f 106) [(.t 38), (.t 41)]), 3, none, 16⟩ := (rfl)
theorem ro_168_8_10 : ro_168_8[10]? = some ⟨some 43, (.mv (.t 0)), 72, none, 0⟩ := (rfl)
theorem ro_168_8_11 : ro_168_8[11]? = some ⟨some 44, (.bslice 23 4 [(0, (.c (.int .i64 0))), (1, (.c (.int .i64 1))), (2, (.c (.int .i64 (-1)))), (3, (.c (.int .i64 6)))]), 23, none, 0⟩ := (rfl)
theorem ro_168_8_12 : ro_168_8[12]? = some ⟨some 45, (.call (.f 161) [(.t 43), (.t 44)]), 3, none, 16⟩ := (rfl)
theorem ro_168_8_13 : ro_168_8[13]? = some ⟨some 46, (.iaddr 23 (.t 37) (.t 42)), 0, none, 0⟩ := (rfl)
theorem ro_168_8_14 : ro_168_8[14]? = some ⟨none, (.store 3 (.t 46) (.t 45)), 0, none, 0⟩ := (rfl)
def ex_168_10_255 : Ex := .fin
def ex_168_10_127 : Ex := (.alt 7 ex_168_10_255 .stop)
def ex_168_10_63 : Ex := (.alt 6 ex_168_10_127 .stop)
def ex_168_10_61 : Ex := (.alt 1 ex_168_10_63 .stop)
def ex_168_10_60 : Ex := (.alt 0 ex_168_10_61 .stop)
def ex_168_10_31 : Ex := (.alt 5 ex_168_10_63 .stop)
def ex_168_10_29 : Ex := (.alt 1 ex_168_10_31 (.alt 5 ex_168_10_61 .stop))
def ex_168_10_28 : Ex := (.alt 0 ex_168_10_29 (.alt 5 ex_168_10_60 .stop))
def ex_168_10_12 : Ex := .one 4 ex_168_10_28
def ex_168_10_4 : Ex := .one 3 ex_168_10_12
def ex_168_10_0 : Ex := .one 2 ex_168_10_4
def ro_168_10 : List AOper := [⟨some 49, (.faddr 27 (.t 5) 0), 0, none, 0⟩, ⟨some 50, (.load 23 (.t 49)), 23, none, 0⟩, ⟨some 51, (.mv (.t 6)), 3, none, 0⟩, ⟨some 52, (.mv (.t 0)), 72, none, 0⟩, ⟨some 53, (.bslice 23 3 [(0, (.c (.int .i64 0))), (1, (.c (.int .i64 3))), (2, (.c (.int .i64 (-1))))]), 23, none, 0⟩, ⟨some 54, (.call (.f 161) [(.t 52), (.t 53)]), 3, none, 16⟩, ⟨some 55, (.iaddr 23 (.t 50) (.t 51)), 0, none, 0⟩, ⟨none, (.store 3 (.t 55) (.t 54)), 0, none, 0⟩]
theorem ro_168_10_0 : ro_168_10[0]? = some ⟨some 49, (.faddr 27 (.t 5) 0), 0, none, 0⟩ := (rfl)
theorem ro_168_10_1 : ro_168_10[1]? = some ⟨some 50, (.load 23 (.t 49)), 23, none, 0⟩ := (rfl)
theorem ro_168_10_2 : ro_168_10[2]? = some ⟨some 51, (.mv (.t 6)), 3, none, 0⟩ := (rfl)
theorem ro_168_10_3 : ro_168_10[3]? = some ⟨some 52, (.mv (.t 0)), 72, none, 0⟩ := (rfl)
theorem ro_168_10_4 : ro_168_10[4]? = some ⟨some 53, (.bslice 23 3 [(0, (.c (.int .i64 0))), (1, (.c (.int .i64 3))), (2, (.c (.int .i64 (-1))))]), 23, none, 0⟩ := (rfl)
theorem ro_168_10_5 : ro_168_10[5]? = some ⟨some 54, (.call (.f 161) [(.t 52), (.t 53)]), 3, none, 16⟩ := (rfl)
theorem ro_168_10_6 : ro_168_10[6]? = some ⟨some 55, (.iaddr 23 (.t 50) (.t 51)), 0, none, 0⟩ := (rfl)
theorem ro_168_10_7 : ro_168_10[7]? = some ⟨none, (.store 3 (.t 55) (.t 54)), 0, none, 0⟩ := (rfl)
def ex_168_14_2047 : Ex := .fin
def ex_168_14_1023 : Ex := (.alt 10 ex_168_14_2047 .stop)
def ex_168_14_511 : Ex := (.alt 9 ex_168_14_1023 .stop)
def ex_168_14_509 : Ex := (.alt 1 ex_168_14_511 .stop)
def ex_168_14_508 : Ex := (.alt 0 ex_168_14_509 .stop)
def ex_168_14_252 : Ex := .one 8 ex_168_14_508
def ex_168_14_253 : Ex := .one 8 ex_168_14_509
def ex_168_14_255 : Ex := .one 8 ex_168_14_511
def ex_168_14_127 : Ex := (.alt 7 ex_168_14_255 .stop)
def ex_168_14_125 : Ex := (.alt 1 ex_168_14_127 (.alt 7 ex_168_14_253 .stop))
def ex_168_14_124 : Ex := (.alt 0 ex_168_14_125 (.alt 7 ex_168_14_252 .stop))
def ex_168_14_63 : Ex := (.alt 6 ex_168_14_127 .stop)
def ex_168_14_61 : Ex := (.alt 1 ex_168_14_63 (.alt 6 ex_168_14_125 .stop))
def ex_168_14_60 : Ex := (.alt 0 ex_168_14_61 (.alt 6 ex_168_14_124 .stop))
def ex_168_14_47 : Ex := (.alt 4 ex_168_14_63 .stop)
def ex_168_14_45 : Ex := (.alt 1 ex_168_14_47 (.alt 4 ex_168_14_61 .stop))
def ex_168_14_44 : Ex := (.alt 0 ex_168_14_45 (.alt 4 ex_168_14_60 .stop))
def ex_168_14_39 : Ex := (.alt 3 ex_168_14_47 .stop)
def ex_168_14_37 : Ex := (.alt 1 ex_168_14_39 (.alt 3 ex_168_14_45 .stop))
def ex_168_14_36 : Ex := (.alt 0 ex_168_14_37 (.alt 3 ex_168_14_44 .stop))
def ex_168_14_4 : Ex := .one 5 ex_168_14_36
def ex_168_14_0 : Ex := .one 2 ex_168_14_4
def ro_168_14 : List AOper := [⟨some 64, (.faddr 27 (.t 5) 1), 0, none, 0⟩, ⟨some 65, (.load 25 (.t 64)), 25, none, 0⟩, ⟨some 66, (.mv (.t 6)), 3, none, 0⟩, ⟨some 67, (.faddr 27 (.t 5) 1), 0, none, 0⟩, ⟨some 68, (.load 25 (.t 67)), 25, none, 0⟩, ⟨some 69, (.mv (.t 6)), 3, none, 0⟩, ⟨some 70, (.iaddr 25 (.t 68) (.t 69)), 0, none, 0⟩, ⟨some 71, (.load 23 (.t 70)), 23, none, 2⟩, ⟨some 72, (.slice 23 (.t 71) (some (.c (.int .i64 1))) none), 23, none, 0⟩, ⟨some 73, (.iaddr 25 (.t 65) (.t 66)), 0, none, 0⟩, ⟨none, (.store 23 (.t 73) (.t 72)), 0, none, 0⟩]
theorem ro_168_14_0 : ro_168_14[0]? = some ⟨some 64, (.faddr 27 (.t 5) 1), 0, none, 0⟩ := (rfl)
theorem ro_168_14_1 : ro_168_14[1]? = some ⟨some 65, (.load 25 (.t 64)), 25, none, 0⟩ := (rfl)
theorem ro_168_14_2 : ro_168_14[2]? = some ⟨some 66, (.mv (.t 6)), 3, none, 0⟩ := (rfl)
theorem ro_168_14_3 : ro_168_14[3]? = some ⟨some 67, (.faddr 27 (.t 5) 1), 0, none, 0⟩ := (rfl)
theorem ro_168_14_4 : ro_168_14[4]? = some ⟨some 68, (.load 25 (.t 67)), 25, none, 0⟩ := (rfl)
theorem ro_168_14_5 : ro_168_14[5]? = some ⟨some 69, (.mv (.t 6)), 3, none, 0⟩ := (rfl)
theorem ro_168_14_6 : ro_168_14[6]? = some ⟨some 70, (.iaddr 25 (.t 68) (.t 69)), 0, none, 0⟩ := (rfl)
theorem ro_168_14_7 : ro_168_14[7]? = some ⟨some 71, (.load 23 (.t 70)), 23, none, 2⟩ := (rfl)
theorem ro_168_14_8 : ro_168_14[8]? = some ⟨some 72, (.slice 23 (.t 71) (some (.c (.int .i64 1))) none), 23, none, 0⟩ := (rfl)
theorem ro_168_14_9 : ro_168_14[9]? = some ⟨some 73, (.iaddr 25 (.t 65) (.t 66)), 0, none, 0⟩ := (rfl)
theorem ro_168_14_10 : ro_168_14[10]? = some ⟨none, (.store 23 (.t 73) (.t 72)), 0, none, 0⟩ := (rfl)
def an_168 : Ann := ⟨[(1, 1, 16), (3, 0, 1), (3, 6, 1), (4, 4, 16), (5, 1, 16), (8, 4, 1), (8, 9, 16), (8, 12, 16), (10, 5, 16), (12, 2, 2), (14, 7, 2)], [(0, [0, 3, 4]), (1, [0, 3, 4, 9]), (2, [4]), (3, [0, 4, 5]), (4, [0, 4, 5, 6]), (5, [0, 4, 5, 6, 25]), (7, [0, 4, 5, 6, 25, 31]), (8, [4, 5]), (9, [0, 4, 5, 6, 25, 47]), (10, [4, 5]), (11, [4, 5, 6, 25, 56]), (12, [4, 5]), (13, [4, 5, 6, 62]), (14, [4, 5]), (6, [4, 5]), (15, [4])], [], [(3, (.imm 1 (.imm 2 (.imm 4 (.imm 5 (.alt 0 (.alt 3 (.alt 6 (.one 7 (.alt 8 (.alt 9 .fin .stop) .stop)) (.alt 8 (.alt 6 (.one 7 (.alt 9 .fin .stop)) .stop) .stop)) (.alt 8 (.alt 3 (.alt 6 (.one 7 (.alt 9 .fin .stop)) .stop) .stop) .stop)) (.alt 8 (.alt 0 (.alt 3 (.alt 6 (.one 7 (.alt 9 .fin .stop)) .stop) .stop) .stop) .stop)))))), [0, 32, 40, 88, 112, 136, 137, 138, 139, 140, 141, 142, 143, 184, 232, 360, 432]), (8, ex_168_8_0, [0, 32, 40, 88, 112, 136, 137, 138, 139, 140, 141, 142, 143, 184, 232, 360, 432]), (10, ex_168_10_0, [0, 32, 40, 88, 112, 136, 137, 138, 139, 140, 141, 142, 143, 184, 232, 360, 432]), (14, ex_168_14_0, [0, 32, 40, 88, 112, 136, 137, 138, 139, 140, 141, 142, 143, 184, 232, 360, 432])]⟩
def fa_168 : FnA := ⟨75, [.c 4 27],
  (.seq
    (.region false [⟨some 3, (.box 27 (.t 1)), 0, none, 0⟩, ⟨some 4, (.alloc 27), 0, none, 0⟩] (some [0, 3, 4]))
    (.seq
      (.seq
        (.region false [⟨some 7, (.mv (.t 0)), 72, none, 0⟩, ⟨some 8, (.call (.f 106) [(.t 7), (.c (.int .i64 16))]), 3, none, 16⟩, ⟨some 9, (.bin .gtr 3 (.t 8) (.c (.int .i64 0))), 4, none, 0⟩] (some [0, 3, 4, 9]))
        (.cond (.t 9)
          (.seq
            (.region false [⟨some 10, (.load 27 (.t 3)), 27, none, 0⟩, ⟨none, (.store 27 (.t 4) (.t 10)), 0, none, 0⟩] (some [4]))
            .ret)
          .skip))
      (.seq
        (.expl [⟨some 11, (.bslice 23 0 []), 23, none, 1⟩, ⟨some 12, (.faddr 27 (.t 3) 0), 0, none, 0⟩, ⟨some 13, (.load 23 (.t 12)), 23, none, 0⟩, ⟨some 14, (.app 23 23 (.t 11) (.t 13)), 23, none, 0⟩, ⟨some 15, (.faddr 27 (.t 3) 1), 0, none, 0⟩, ⟨some 16, (.load 25 (.t 15)), 25, none, 0⟩, ⟨some 17, (.call (.f 194) [(.t 16)]), 25, none, 1⟩, ⟨some 18, (.build 27 [(0, (.t 14)), (1, (.t 17))]), 27, none, 0⟩, ⟨some 5, (.alloc 27), 0, none, 0⟩, ⟨none, (.store 27 (.t 5) (.t 18)), 0, none, 0⟩] (.imm 1 (.imm 2 (.imm 4 (.imm 5 (.alt 0 (.alt 3 (.alt 6 (.one 7 (.alt 8 (.alt 9 .fin .stop) .stop)) (.alt 8 (.alt 6 (.one 7 (.alt 9 .fin .stop)) .stop) .stop)) (.alt 8 (.alt 3 (.alt 6 (.one 7 (.alt 9 .fin .stop)) .stop) .stop) .stop)) (.alt 8 (.alt 0 (.alt 3 (.alt 6 (.one 7 (.alt 9 .fin .stop)) .stop) .stop) .stop) .stop)))))) [0, 4, 5] [0, 32, 40, 88, 112, 136, 137, 138, 139, 140, 141, 142, 143, 184, 232, 360, 432])
        (.seq
          (.region false [⟨some 19, (.mv (.t 0)), 72, none, 0⟩, ⟨some 20, (.faddr 27 (.t 5) 0), 0, none, 0⟩, ⟨some 21, (.load 23 (.t 20)), 23, none, 0⟩, ⟨some 22, (.len 23 (.t 21)), 3, none, 0⟩, ⟨some 23, (.call (.f 106) [(.t 19), (.t 22)]), 3, none, 16⟩, ⟨some 6, (.mv (.t 23)), 3, none, 0⟩] (some [0, 4, 5, 6]))
          (.seq
            (.seq
              (.region false [⟨some 24, (.mv (.t 0)), 72, none, 0⟩, ⟨some 25, (.call (.f 106) [(.t 24), (.c (.int .i64 5))]), 3, none, 16⟩] (some [0, 4, 5, 6, 25]))
              (.block 0
                (.seq
                  (.region false [⟨some 32, (.bin .eql 3 (.t 25) (.c (.int .i64 0))), 4, none, 0⟩, ⟨some 31, (.mv (.t 32)), 4, none, 0⟩] (some [0, 4, 5, 6, 25, 31]))
                  (.cond (.t 31)
                    (.expl ro_168_8 ex_168_8_0 [4, 5] [0, 32, 40, 88, 112, 136, 137, 138, 139, 140, 141, 142, 143, 184, 232, 360, 432])
                    (.seq
                      (.region false [⟨some 48, (.bin .eql 3 (.t 25) (.c (.int .i64 1))), 4, none, 0⟩, ⟨some 47, (.mv (.t 48)), 4, none, 0⟩] (some [0, 4, 5, 6, 25, 47]))
                      (.cond (.t 47)
                        (.expl ro_168_10 ex_168_10_0 [4, 5] [0, 32, 40, 88, 112, 136, 137, 138, 139, 140, 141, 142, 143, 184, 232, 360, 432])
                        (.seq
                          (.region false [⟨some 57, (.bin .eql 3 (.t 25) (.c (.int .i64 2))), 4, none, 0⟩, ⟨some 56, (.mv (.t 57)), 4, none, 0⟩] (some [4, 5, 6, 25, 56]))
                          (.cond (.t 56)
                            (.region false [⟨some 58, (.faddr 27 (.t 5) 1), 0, none, 0⟩, ⟨some 59, (.load 25 (.t 58)), 25, none, 0⟩, ⟨some 60, (.slice 25 (.t 59) (some (.c (.int .i64 1))) none), 25, none, 2⟩, ⟨some 61, (.faddr 27 (.t 5) 1), 0, none, 0⟩, ⟨none, (.store 25 (.t 61) (.t 60)), 0, none, 0⟩] (some [4, 5]))
                            (.seq
                              (.region false [⟨some 63, (.bin .eql 3 (.t 25) (.c (.int .i64 3))), 4, none, 0⟩, ⟨some 62, (.mv (.t 63)), 4, none, 0⟩] (some [4, 5, 6, 62]))
                              (.cond (.t 62)
                                (.expl ro_168_14 ex_168_14_0 [4, 5] [0, 32, 40, 88, 112, 136, 137, 138, 139, 140, 141, 142, 143, 184, 232, 360, 432])
                                (.region false [⟨some 26, (.faddr 27 (.t 5) 0), 0, none, 0⟩, ⟨some 27, (.load 23 (.t 26)), 23, none, 0⟩, ⟨some 28, (.bslice 23 1 [(0, (.c (.int .i64 64)))]), 23, none, 0⟩, ⟨some 29, (.app 23 23 (.t 27) (.t 28)), 23, none, 0⟩, ⟨some 30, (.faddr 27 (.t 5) 0), 0, none, 0⟩, ⟨none, (.store 23 (.t 30) (.t 29)), 0, none, 0⟩] (some [4, 5]))))))))))))
            (.seq
              (.region false [⟨some 74, (.load 27 (.t 5)), 27, none, 0⟩, ⟨none, (.store 27 (.t 4) (.t 74)), 0, none, 0⟩] (some [4]))
              .ret))))))⟩
theorem fok_168 : FnOk Try.prog 168 fa_168 an_168 := ⟨Try.f168, _, Try.func168, rfl, by kernel_rfl, rfl, rfl, by decide, by kernel_rfl⟩
/-- spec.someAlgebra -/
def an_105 : Ann := ⟨[(1, 2, 16), (1, 3, 16)], [(0, [0, 2]), (1, [2])], [], []⟩
def fa_105 : FnA := ⟨7, [.c 2 27],
  (.seq
    (.region false [⟨some 2, (.alloc 27), 0, none, 0⟩] (some [0, 2]))
    (.seq
      (.region false [⟨some 3, (.mv (.t 0)), 72, none, 0⟩, ⟨some 4, (.mv (.t 0)), 72, none, 0⟩, ⟨some 5, (.call (.f 169) [(.t 4)]), 27, none, 16⟩, ⟨some 6, (.call (.f 168) [(.t 3), (.t 5)]), 27, none, 16⟩, ⟨none, (.store 27 (.t 2) (.t 6)), 0, none, 0⟩] (some [2]))
      .ret))⟩
theorem fok_105 : FnOk Try.prog 105 fa_105 an_105 := ⟨Try.f105, _, Try.func105, rfl, by kernel_rfl, rfl, rfl, by decide, by kernel_rfl⟩
end Go.PS
end

section
-- Regions in all orders, by what they come to.
set_option linter.unusedVariables false
set_option linter.unusedSimpArgs false
namespace Go.PS

def exQ {α : Type} (ks kh : List Nat) (T : α → List (Nat × D)) (H : α → List Ent) (σ : St) : Prop := ∃ x, keepT ks σ.t = T x ∧ keepH kh σ.h = H x
@[simp] theorem exQ_app {α : Type} {ks kh : List Nat} {T : α → List (Nat × D)} {H : α → List Ent} {σ : St} : exQ ks kh T H σ = (∃ x, keepT ks σ.t = T x ∧ keepH kh σ.h = H x) := (rfl)
theorem cutE {C : Ctx} {kb : Nat} {i : Nat → List D → List Ent → Nat → (D → List Ent → Nat → Prop) → Prop} {σ : St} {Q : AExit → St → Prop} {α : Type} {ops : List AOper} {tr : Ex} {ks kh : List Nat} (T : α → List (Nat × D)) (H : α → List Ent)
    (h1 : exT C kb i ops (exQ ks kh T H) tr σ) (h2 : ∀ x g, Q .normal ⟨T x, H x, g⟩) : run C kb i (.expl ops tr ks kh) Q σ := by
  rw [run_expl]
  refine exT_mono (fun σ' h => ?_) tr σ h1
  obtain ⟨x, e1, e2⟩ := h
  show Q .normal ⟨keepT ks σ'.t, keepH kh σ'.h, σ'.g⟩
  rw [e1, e2]
  exact h2 x _
end Go.PS
end

section
-- Functions that write to one block: what is proved by a clean run of one; their tables in clean runs.
set_option linter.unusedVariables false
set_option linter.unusedSimpArgs false
namespace Go.PS

/-- The end of a call that hands back what it was given or what is new. -/
def endK2 (R : D → List D → Prop) (cs : List D) (h : List Ent) (d : D) : Prop := (keys 5 d).Nodup ∧ R (own h 5 d) cs
def retK2 (tt : Nat → Ty) (res : List RV) (R : D → List D → Prop) (σ : St) : Prop :=
  blkK (find σ.h 0 0) (fun cs => pureL cs ∧ resK tt res σ (endK2 R cs σ.h)) (fun _ _ => False)
def retQ2 (tt : Nat → Ty) (res : List RV) (R : D → List D → Prop) : AExit → St → Prop
  | .exit _, _ => False
  | _, σ => retK2 tt res R σ
@[simp] theorem retQ2_normal {tt : Nat → Ty} {res : List RV} {R : D → List D → Prop} {σ : St} : retQ2 tt res R .normal σ = retK2 tt res R σ := (rfl)
@[simp] theorem retQ2_ret {tt : Nat → Ty} {res : List RV} {R : D → List D → Prop} {σ : St} : retQ2 tt res R .ret σ = retK2 tt res R σ := (rfl)
attribute [simp] retK2 endK2

theorem blkK_ex {o : Option Blk} {K : List D → Prop} {K2 : Nat → List D → Prop} (h : blkK o K (fun _ _ => False)) : ∃ cs, o = some (.cells cs) ∧ K cs := by
  unfold blkK at h
  split at h
  · rename_i cs; exact ⟨cs, rfl, h⟩
  · exact h.elim
  · exact h.elim

theorem pc_of_run2 {C : Ctx} (hty : TyOk C.P C.tt) (hm : C.P.follows .mixedOrders = true) {kb : Nat} {inlK : Nat → List D → List Ent → Nat → (D → List Ent → Nat → Prop) → Prop} (hin : InlOk C inlK) {f : Nat} {fa : FnA} {A : Ann} (hf : FnOk C.P f fa A)
    {ds : List D} {cs0 : List D} {R : D → List D → Prop} (hrun : run C kb inlK fa.ac (retQ2 C.tt fa.res R) ⟨args0 0 ds, [⟨0, 0, .cells cs0⟩], 1⟩) : PC C.P f ds (some cs0) false R := by
  refine ⟨hf.enters, fun w vs F B hF hl hr hio => ?_⟩
  have start : ∃ (μ : Nat → Value) (own : List Nat), HInv w F B w [⟨0, 0, .cells cs0⟩] μ 1 own ∧ (∀ c, FF own F c → F c) ∧ (∀ b, B = some b → μ 0 = .pointer (some ⟨b, 0, none⟩)) := by
    obtain ⟨b, bv, E, hB, hFb, hb, hlen, hcs⟩ := hio
    have hFF : ∀ c, FF [b] F c → F c := fun c hc => hc.elim (fun h => by simp at h; rw [h]; exact hFb) id
    refine ⟨fun _ => .pointer (some ⟨b, 0, none⟩), [b], ⟨⟨rfl, rfl, rfl, Nat.le_refl _, fun _ _ _ => rfl⟩, hF, ⟨[b], [], rfl, ⟨Nat.zero_lt_one, ?_⟩, rfl⟩, by simp, by simp⟩, hFF, (fun b' hb' => by rw [hB] at hb'; injection hb' with hb'; rw [hb'])⟩
    refine ⟨b, bv, E, rfl, hb, hlen, ?_, ?_, rfl, .inr hB⟩
    · intro v hv
      obtain ⟨i, hi⟩ := List.mem_iff_getElem?.1 hv
      have hil : i < cs0.length := by have := (List.getElem?_eq_some_iff.1 hi).1; omega
      exact (hcs i _ v (List.getElem?_eq_getElem hil) hi).1
    · intro i d v hd hv
      exact .imm _ _ ((hcs i d v hd hv).2.weak (fun c hc _ => hFF c hc))
  obtain ⟨μ, own, I, hFF, hμ⟩ := start
  refine body_sound hty hm hin hf I (by simpa using hl) (fun i d v hd hv => ?_) hrun
    (K := fun σ d => ∃ cs, find σ.h 0 0 = some (.cells cs) ∧ pureL cs ∧ endK2 R cs σ.h d) (fun e σ' q => ?_) (fun σ' w' μ' o' d v q1 q2 q3 => ?_)
  · rcases hr i d v hd hv with h | ⟨rfl, b, hb, rfl⟩
    · exact .imm _ _ (h.weak (fun c hc _ => hFF c hc))
    · exact .ptr 0 0 0 _ Nat.zero_lt_one (fun _ => ⟨b, .inl (hμ b hb), rfl⟩)
  · have hne : ∀ id, e ≠ .exit id := by
      intro id he
      subst he
      exact q
    refine ⟨hne, ?_⟩
    have q' : retK2 C.tt fa.res R σ' := by
      cases e with
      | exit id => exact absurd rfl (hne id)
      | normal => exact q
      | ret => exact q
    obtain ⟨cs, hfind, hp, hq⟩ := blkK_ex (K2 := fun _ _ => False) q'
    exact resK_mono (fun d hd => ⟨cs, hfind, hp, hd⟩) hq
  · obtain ⟨cs, hfind, hpu, hk⟩ := q1
    have I' := q2.1
    obtain ⟨k1, k3⟩ := hk
    obtain ⟨o1, rest, p1, p2, p3, p4⟩ := own_at 5 _ _ q3 σ'.h o' I'.hok I'.nodup (fun _ _ _ => rfl) k1
    obtain ⟨b, bv, E, hB, hFb, hb, hlen, hcs⟩ := hio
    obtain ⟨o2, he, _⟩ := HOk.has σ'.h o' q2.1.hok hfind
    obtain ⟨b', bv', E', r1, r2, r3, r4, r5, r6, r7⟩ := he.cellsOf
    have hmu : μ' 0 = μ 0 := q2.2.mu 0 Nat.zero_lt_one
    rw [hmu, hμ b hB] at r1
    injection r1 with r1; injection r1 with r1; injection r1 with r1
    subst r1
    refine ⟨v, _, cs, o1, rfl, k3, (fun h => by cases h), I'.grown, ?_, (List.nodup_append.1 p3).1, ⟨b, bv', E', hB, r2, r3, fun i d v hd hv => ⟨r4 v (List.mem_of_getElem? hv), ?_⟩⟩⟩
    · exact p1.evo ⟨fun c hc _ => .inr (by simpa using hc), fun _ _ _ => rfl, Nat.le_refl _⟩ (fun _ _ => rfl) (fun c hc => (p1.lt c hc).1)
    · exact ((r5 i d v hd hv).pure 5 (hpu d (List.mem_of_getElem? hd))).weak (fun c hc _ => .inr hc)

section
variable {P : Program} {C : Ctx} {T : List (Fam P)} {TW : List (FamW P)} {n kb kb' id : Nat} {caps args : List D} {σ : St} {d : Option Nat} {aops : List AOper} {Q : St → Prop}

theorem callO3W' (hi : C.inl id = none) (hw : (findW id TW).isNone = true) : callO C kb' (inlW C T TW n kb) d 3 (.fn id caps) args σ aops Q = tab2 (findF id T) (args ++ caps) σ.h (fun v => opsK C kb' (inlW C T TW n kb) aops ⟨put σ.t d (imm 5 v), σ.h, σ.g⟩ Q) :=
  callO3W hi (by simpa using hw)
theorem callDO3W' (hi : C.inl id = none) (hw : (findW id TW).isNone = true) : callDO C kb' (inlW C T TW n kb) d 3 (.fn id caps) args σ aops Q = tab2 (findF id T) (args ++ caps) σ.h (fun v => opsKc C kb' (inlW C T TW n kb) aops ⟨put σ.t d (imm 5 v), σ.h, σ.g⟩ Q) :=
  callDO3W hi (by simpa using hw)
theorem callO16W' (hi : C.inl id = none) (hw : (findW id TW).isSome = true) : callO C kb' (inlW C T TW n kb) d 16 (.fn id caps) args σ aops Q = tabW2 (findW id TW) (args ++ caps) σ.h (fun v h => opsK C kb' (inlW C T TW n kb) aops ⟨put σ.t d (imm 5 v), h, σ.g⟩ Q) := by
  obtain ⟨f, hf⟩ := Option.isSome_iff_exists.1 hw
  rw [callO16W hi hf, hf]
theorem callDO16W' (hi : C.inl id = none) (hw : (findW id TW).isSome = true) : callDO C kb' (inlW C T TW n kb) d 16 (.fn id caps) args σ aops Q = tabW2 (findW id TW) (args ++ caps) σ.h (fun v h => opsKc C kb' (inlW C T TW n kb) aops ⟨put σ.t d (imm 5 v), h, σ.g⟩ Q) := by
  obtain ⟨f, hf⟩ := Option.isSome_iff_exists.1 hw
  rw [callDO16W hi hf, hf]
variable {ks KS : List Nat} {rest : List AOper} {ok : segOk ks rest KS = true} {Q1 : AExit → St → Prop}
end
end Go.PS
end

section
-- Contracts: what is drawn, number by number.
set_option maxRecDepth 100000
set_option linter.unusedVariables false
set_option linter.unusedSimpArgs false
namespace Go.PS
open Go.Proofs

def u8s (xs : List Int) : List D := xs.map (D.int .u8)
abbrev BL (xs : List Int) : D := .list 1 (u8s xs)
@[simp] theorem u8s_length {xs : List Int} : (u8s xs).length = xs.length := by simp [u8s]
@[simp] theorem idxK_u8s {xs : List Int} {n : Int} {K : D → Prop} : idxK (u8s xs) n K ↔ 0 ≤ n ∧ n < xs.length ∧ K (.int .u8 (gi xs n.toNat)) := by rw [← gi_getD]; exact idxK_map
@[simp] theorem u8s_inj {xs ys : List Int} : u8s xs = u8s ys ↔ xs = ys := by
  constructor
  · intro h
    have := congrArg (List.map (fun d : D => match d with | .int _ n => n | _ => 0)) h
    simpa [u8s, Function.comp_def] using this
  · rintro rfl; rfl
@[simp] theorem u8s_take {xs : List Int} {n : Nat} : (u8s xs).take n = u8s (xs.take n) := by simp [u8s, List.map_take]

/-- A reader's cells: what it reads, and how many numbers have been drawn. -/
def RS (b : List Int) (p : Nat) : List D := [BL b, I64 (p : Int)]
@[simp] theorem RS_inj {b b' : List Int} {p p' : Nat} : RS b p = RS b' p' ↔ b = b' ∧ p = p' := by
  unfold RS
  simp
  intro _
  omega
@[simp] theorem RS_pure {b : List Int} {p : Nat} : (∀ c ∈ RS b p, pureD 5 c = true) ↔ True := by simp [RS]
theorem RS_zero {b : List Int} : [BL b, I64 0] = RS b 0 := rfl
theorem pcW (T : List (Fam Try.prog)) (TW : List (FamW Try.prog)) {f : Nat} {fa : FnA} {A : Ann} (hf : FnOk Try.prog f fa A) {ds cs : List D} {R : D → List D → Prop}
    (h : run C0 0 (inlW C0 T TW 0 0) fa.ac (retQ2 C0.tt fa.res R) ⟨args0 0 ds, [⟨0, 0, .cells cs⟩], 1⟩) : PC Try.prog f ds (some cs) false R :=
  pc_of_run2 (C := C0) (kb := 0) hty0 Try.checked.mixed (inlW_ok (C := C0) hty0 Try.checked.mixed (by intro f fa h; cases h) T TW 0 0) hf h
section
variable {T : List (Fam Try.prog)} {TW : List (FamW Try.prog)} {n kb kb' id : Nat} {caps args : List D} {σ : St} {d : Option Nat} {ops : List AOper} {Q : St → Prop}
theorem callOW (hw : (findW id TW).isSome = true) : callO C0 kb' (inlW C0 T TW n kb) d 16 (.fn id caps) args σ ops Q = tabW2 (findW id TW) (args ++ caps) σ.h (fun v h => opsK C0 kb' (inlW C0 T TW n kb) ops ⟨put σ.t d (imm 5 v), h, σ.g⟩ Q) := callO16W' rfl hw
theorem callDOW (hw : (findW id TW).isSome = true) : callDO C0 kb' (inlW C0 T TW n kb) d 16 (.fn id caps) args σ ops Q = tabW2 (findW id TW) (args ++ caps) σ.h (fun v h => opsKc C0 kb' (inlW C0 T TW n kb) ops ⟨put σ.t d (imm 5 v), h, σ.g⟩ Q) := callDO16W' rfl hw
theorem callOT (hw : (findW id TW).isNone = true) : callO C0 kb' (inlW C0 T TW n kb) d 3 (.fn id caps) args σ ops Q = tab2 (findF id T) (args ++ caps) σ.h (fun v => opsK C0 kb' (inlW C0 T TW n kb) ops ⟨put σ.t d (imm 5 v), σ.h, σ.g⟩ Q) := callO3W' rfl hw
theorem callDOT (hw : (findW id TW).isNone = true) : callDO C0 kb' (inlW C0 T TW n kb) d 3 (.fn id caps) args σ ops Q = tab2 (findF id T) (args ++ caps) σ.h (fun v => opsKc C0 kb' (inlW C0 T TW n kb) ops ⟨put σ.t d (imm 5 v), σ.h, σ.g⟩ Q) := callDO3W' rfl hw
end
attribute [simp] ioOf dio

theorem pick_pc (b : List Int) (p : Nat) (n : Int) (hb : BB b) (hp : p ≤ 1000000) (hn : n ≤ 1099511627776) : PC Try.prog 106 (.ptr 0 0 0 :: [I64 n]) (some (RS b p)) false (fun r c => imm 5 r = imm 5 (I64 (pkM b p n)) ∧ c = (RS b (p + 1))) := by
  have hbl := hb.len
  have hw : IntKind.i64.wrap ((p : Int) + 1) = p + 1 := wrap64 (by omega) (by omega)
  refine pcW [] [] fok_106 ?_
  simp [fa_106, hw, RS]
  refine cutW (inlW_mono _ _ _ _ _) [(24, .bool (decide (n < 1) || decide (b.length = 0)))] (by
    rcases Int.lt_or_le n 1 with h | h
    · simp [h]
    · simp [show ¬ n < 1 by omega]) ?_
  simp
  refine ⟨fun h => ?_, fun h h2 => ?_⟩
  · unfold pkM
    rw [if_pos (h.imp id fun h => by simp [h])]
  have hl : 0 < b.length := by cases b with | nil => exact absurd rfl h2 | cons _ _ => simp
  have hw2 : IntKind.i64.wrap (p : Int) = p := wrap64 (by omega) (by omega)
  simp [hw2]
  refine ⟨fun h3 => ?_, fun h3 => ?_⟩
  · have hg := hb.gi p
    have hw3 : IntKind.i64.wrap (gi b p) = gi b p := wrap64 (by omega) (by omega)
    simp [h3, hw3]
    refine ⟨by omega, ?_⟩
    unfold pkM
    rw [if_neg (by omega), if_pos h3]
  · have e1 : (p : Int).tmod b.length = ((p % b.length : Nat) : Int) := (Int.ofNat_tmod _ _).symm
    have e2 : IntKind.i64.wrap (IntKind.i64.wrap ((p : Int) * 7) + 3) = ((p * 7 + 3 : Nat) : Int) := by
      rw [wrap64 (n := (p : Int) * 7) (by omega) (by omega), wrap64 (by omega) (by omega)]; push_cast; rfl
    have e3 : ((p * 7 + 3 : Nat) : Int).tmod b.length = (((p * 7 + 3) % b.length : Nat) : Int) := (Int.ofNat_tmod _ _).symm
    have g1 := hb.gi (p % b.length)
    have g2 := hb.gi ((p * 7 + 3) % b.length)
    have m1 := Nat.mod_lt p hl
    have m2 := Nat.mod_lt (p * 7 + 3) hl
    have hd : p / b.length ≤ p := Nat.div_le_self _ _
    have e4 : (p : Int) / b.length = ((p / b.length : Nat) : Int) := (Int.natCast_ediv _ _).symm
    have hx := pkX_rng hb (p := p) (by omega)
    have hq : 0 ≤ (pkX b p).tdiv 64 ∧ (pkX b p).tdiv 64 ≤ pkX b p := by
      rw [Int.tdiv_eq_ediv_of_nonneg hx.1]
      omega
    have ex : IntKind.i64.wrap (IntKind.i64.wrap (IntKind.i64.wrap (IntKind.i64.wrap (IntKind.i64.wrap (gi b (p % b.length)) * 131) + IntKind.i64.wrap (IntKind.i64.wrap (gi b ((p * 7 + 3) % b.length)) * 1117)) + IntKind.i64.wrap ((p : Int) * 29)) + IntKind.i64.wrap (IntKind.i64.wrap ((p / b.length : Nat) : Int) * 53)) = pkX b p := by
      rw [wrap64 (n := gi b (p % b.length)) (by omega) (by omega), wrap64 (n := gi b (p % b.length) * 131) (by omega) (by omega), wrap64 (n := gi b ((p * 7 + 3) % b.length)) (by omega) (by omega), wrap64 (n := gi b ((p * 7 + 3) % b.length) * 1117) (by omega) (by omega),
        wrap64 (n := gi b (p % b.length) * 131 + _) (by omega) (by omega), wrap64 (n := (p : Int) * 29) (by omega) (by omega), wrap64 (n := gi b (p % b.length) * 131 + _ + _) (by omega) (by omega), wrap64 (n := ((p / b.length : Nat) : Int)) (by generalize p / b.length = e at *; omega) (by generalize p / b.length = e at *; omega),
        wrap64 (n := ((p / b.length : Nat) : Int) * 53) (by generalize p / b.length = e at *; omega) (by generalize p / b.length = e at *; omega), wrap64 (by generalize p / b.length = e at *; omega) (by generalize p / b.length = e at *; omega)]
      rfl
    simp only [e2, e1, e3, e4, Int.toNat_natCast, ex, wrap64 (n := (pkX b p).tdiv 64) (by omega) (by omega)]
    refine ⟨h2, by omega, by omega, h2, by omega, by omega, h2, by omega, ?_⟩
    unfold pkM
    rw [if_neg (by omega), if_neg (by omega)]
noncomputable def fw_pick : FamW Try.prog := mkFamW (X := List Int × Nat × Int) 106 (fun (b, p, n) => (.ptr 0 0 0 :: [I64 n])) (fun (b, p, n) => (RS b p)) (fun (b, p, n) => (BB b) ∧ (p ≤ 1000000) ∧ (n ≤ 1099511627776)) (fun (b, p, n) => I64 (pkM b p n)) (fun (b, p, n) => (RS b (p + 1))) (by
  rintro ⟨b, p, n⟩ ⟨hb, hp, hn⟩
  exact pick_pc b p n hb hp hn)
@[simp] theorem fw_pick_id : fw_pick.id = 106 := rfl
@[simp] theorem fw_pick_look (b : List Int) (p : Nat) (n : Int) (hb : BB b) (hp : p ≤ 1000000) (hn : n ≤ 1099511627776) : fw_pick.look (.ptr 0 0 0 :: [I64 n]) (RS b p) = some (I64 (pkM b p n), (RS b (p + 1))) :=
  lookG_of (X := List Int × Nat × Int) (args := fun (b, p, n) => (.ptr 0 0 0 :: [I64 n])) (cell := fun (b, p, n) => (RS b p)) (pre := fun (b, p, n) => (BB b) ∧ (p ≤ 1000000) ∧ (n ≤ 1099511627776)) (val := fun (b, p, n) => I64 (pkM b p n)) (cell' := fun (b, p, n) => (RS b (p + 1))) (by
  rintro ⟨b, p, n⟩ ⟨b', p', n'⟩ h h2
  simp at h h2
  try simp only [and_assoc] at h
  obtain ⟨rfl, rfl⟩ := h2
  subst h
  exact ⟨rfl, rfl⟩) (b, p, n) ⟨hb, hp, hn⟩
attribute [irreducible] fw_pick

theorem rg1 : List.range 1 = [0] := (rfl)
theorem rg2 : List.range 2 = [0, 1] := (rfl)
theorem rg3 : List.range 3 = [0, 1, 2] := (rfl)
theorem rg4 : List.range 4 = [0, 1, 2, 3] := (rfl)
theorem rg5 : List.range 5 = [0, 1, 2, 3, 4] := (rfl)
theorem rg6 : List.range 6 = [0, 1, 2, 3, 4, 5] := (rfl)
theorem rg7 : List.range 7 = [0, 1, 2, 3, 4, 5, 6] := (rfl)
theorem rg8 : List.range 8 = [0, 1, 2, 3, 4, 5, 6, 7] := (rfl)

theorem one_pc (b : List Int) (p : Nat) (l : List Int) (hb : BB b) (hp : p ≤ 1000000) (hl : Big l.length) (h1 : 0 < l.length) : PC Try.prog 161 (.ptr 0 0 0 :: [IL l]) (some (RS b p)) false (fun r c => imm 5 r = imm 5 (I64 (gi l (pkM b p l.length).toNat)) ∧ c = (RS b (p + 1))) := by
  have hl := hl.le
  have hr := pkM_rng hb (p := p) (by omega) (n := l.length) (by omega)
  refine pcW [] [fw_pick] fok_161 ?_
  simp [fa_161, callOW, hb, hp, hr, show (l.length : Int) ≤ 1099511627776 by omega]
noncomputable def fw_one : FamW Try.prog := mkFamW (X := List Int × Nat × List Int) 161 (fun (b, p, l) => (.ptr 0 0 0 :: [IL l])) (fun (b, p, l) => (RS b p)) (fun (b, p, l) => (BB b) ∧ (p ≤ 1000000) ∧ (Big l.length) ∧ (0 < l.length)) (fun (b, p, l) => I64 (gi l (pkM b p l.length).toNat)) (fun (b, p, l) => (RS b (p + 1))) (by
  rintro ⟨b, p, l⟩ ⟨hb, hp, hl, h1⟩
  exact one_pc b p l hb hp hl h1)
@[simp] theorem fw_one_id : fw_one.id = 161 := rfl
@[simp] theorem fw_one_look (b : List Int) (p : Nat) (l : List Int) (hb : BB b) (hp : p ≤ 1000000) (hl : Big l.length) (h1 : 0 < l.length) : fw_one.look (.ptr 0 0 0 :: [IL l]) (RS b p) = some (I64 (gi l (pkM b p l.length).toNat), (RS b (p + 1))) :=
  lookG_of (X := List Int × Nat × List Int) (args := fun (b, p, l) => (.ptr 0 0 0 :: [IL l])) (cell := fun (b, p, l) => (RS b p)) (pre := fun (b, p, l) => (BB b) ∧ (p ≤ 1000000) ∧ (Big l.length) ∧ (0 < l.length)) (val := fun (b, p, l) => I64 (gi l (pkM b p l.length).toNat)) (cell' := fun (b, p, l) => (RS b (p + 1))) (by
  rintro ⟨b, p, l⟩ ⟨b', p', l'⟩ h h2
  simp at h h2
  try simp only [and_assoc] at h
  obtain ⟨rfl, rfl⟩ := h2
  subst h
  exact ⟨rfl, rfl⟩) (b, p, l) ⟨hb, hp, hl, h1⟩
attribute [irreducible] fw_one

/-- A number that is an element, most often. -/
def elM (b : List Int) (p : Nat) (n : Int) : Int := if pkM b p 24 = 0 then gi [-1, n, 6] (pkM b (p + 1) 3).toNat else pkM b (p + 1) n
theorem element_pc (b : List Int) (p : Nat) (n : Int) (hb : BB b) (hp : p ≤ 1000000) (hn : n ≤ 1099511627776) (hp2 : p ≤ 999000) : PC Try.prog 123 (.ptr 0 0 0 :: [I64 n]) (some (RS b p)) false (fun r c => imm 5 r = imm 5 (I64 (elM b p n)) ∧ c = (RS b (p + 2))) := by
  have l1 : fw_one.look [.ptr 0 0 0, .list 1 [.int .i64 (-1), .int .i64 n, .int .i64 6]] (RS b (p + 1)) = some (I64 (gi [-1, n, 6] (pkM b (p + 1) 3).toNat), RS b (p + 2)) := fw_one_look b (p + 1) [-1, n, 6] hb (by omega) (by unfold Big; simp) (by simp)
  refine pcW [] [fw_pick, fw_one] fok_123 ?_
  simp [fa_123, callOW, hb, hp, hn, l1, rg3, show p + 1 ≤ 1000000 by omega]
  exact ⟨fun h => by simp [elM, h], fun h => by simp [elM, h]⟩
noncomputable def fw_element : FamW Try.prog := mkFamW (X := List Int × Nat × Int) 123 (fun (b, p, n) => (.ptr 0 0 0 :: [I64 n])) (fun (b, p, n) => (RS b p)) (fun (b, p, n) => (BB b) ∧ (p ≤ 1000000) ∧ (n ≤ 1099511627776) ∧ (p ≤ 999000)) (fun (b, p, n) => I64 (elM b p n)) (fun (b, p, n) => (RS b (p + 2))) (by
  rintro ⟨b, p, n⟩ ⟨hb, hp, hn, hp2⟩
  exact element_pc b p n hb hp hn hp2)
@[simp] theorem fw_element_id : fw_element.id = 123 := rfl
@[simp] theorem fw_element_look (b : List Int) (p : Nat) (n : Int) (hb : BB b) (hp : p ≤ 1000000) (hn : n ≤ 1099511627776) (hp2 : p ≤ 999000) : fw_element.look (.ptr 0 0 0 :: [I64 n]) (RS b p) = some (I64 (elM b p n), (RS b (p + 2))) :=
  lookG_of (X := List Int × Nat × Int) (args := fun (b, p, n) => (.ptr 0 0 0 :: [I64 n])) (cell := fun (b, p, n) => (RS b p)) (pre := fun (b, p, n) => (BB b) ∧ (p ≤ 1000000) ∧ (n ≤ 1099511627776) ∧ (p ≤ 999000)) (val := fun (b, p, n) => I64 (elM b p n)) (cell' := fun (b, p, n) => (RS b (p + 2))) (by
  rintro ⟨b, p, n⟩ ⟨b', p', n'⟩ h h2
  simp at h h2
  try simp only [and_assoc] at h
  obtain ⟨rfl, rfl⟩ := h2
  subst h
  exact ⟨rfl, rfl⟩) (b, p, n) ⟨hb, hp, hn, hp2⟩
attribute [irreducible] fw_element
theorem elM_rng {b : List Int} (hb : BB b) {p : Nat} (hp : p ≤ 1000000) {n : Int} (h1 : 0 ≤ n) (h2 : n ≤ 100) : -1 ≤ elM b p n ∧ elM b p n ≤ 100 := by
  unfold elM
  split
  · have h := pkM_rng hb (p := p + 1) (by omega) (n := 3) (by omega)
    generalize pkM b (p + 1) 3 = k at *
    have : k = 0 ∨ k = 1 ∨ k = 2 := by omega
    rcases this with rfl | rfl | rfl <;> simp [gi] <;> omega
  · rcases Int.lt_or_le n 1 with h | h
    · rw [pkM_small h]; omega
    · have h := pkM_rng hb (p := p + 1) (by omega) h
      omega

theorem pow_le60 {k : Nat} (h : k ≤ 60) : (0 : Int) < 2 ^ k ∧ (2 : Int) ^ k ≤ 1152921504606846976 := by
  refine ⟨Int.pow_pos (by omega), ?_⟩
  have := Nat.pow_le_pow_right (n := 2) (by omega) h
  have h2 : (2 : Int) ^ k ≤ 2 ^ 60 := by exact_mod_cast this
  have e : (2 : Int) ^ 60 = 1152921504606846976 := by decide
  rw [e] at h2
  exact h2
theorem le_big {n : Nat} (h : n ≤ 1099511627776) : n ≤ big := h
theorem chainS_pc (n : Int) (h0 : 0 ≤ n) (h : n ≤ 60) : PC Try.prog 189 [I64 n] none true (fun r _ => r = IO1 (chL n.toNat)) := by
  obtain ⟨n, rfl⟩ := Int.eq_ofNat_of_zero_le h0
  have hn : n ≤ 60 := by omega
  refine pcT [fm_power] fok_189 ?_
  simp [fa_189]
  refine loopX (tabK_mono _) n (fun i γ => [(3, .arr 40 γ), (4, I64 i)]) (fun i γ => [⟨40, γ, .arr 1 (ints (tl i fun x => 2 ^ n - 2 ^ x))⟩]) (fun _ _ => True) 1 (by simp) (by simp [tl_zero, ints_nil]) trivial (fun i γ g hi _ => ?_)
  simp [lb_189_3]
  refine ⟨fun h => ?_, fun h => ?_⟩
  · have p1 := pow_le60 hn
    have p2 := pow_le60 (show i ≤ 60 by omega)
    simp [h, show (n : Int) ≤ 61 by omega, show (i : Int) ≤ 61 by omega, wrap64 (n := (2 : Int) ^ n - 2 ^ i) (by omega) (by omega), wrap_succ hi (show n ≤ 1099511627776 by omega), tl_succ]
    exact le_big (by omega)
  · obtain rfl : i = n := by omega
    simp [chL]
noncomputable def fm_chainS : Fam Try.prog := mkFam (X := Int) 189 true (fun n => [I64 n]) (fun n => (0 ≤ n) ∧ (n ≤ 60)) (fun n => IO1 (chL n.toNat)) (by
  rintro n ⟨h0, h⟩
  exact chainS_pc n h0 h)
@[simp] theorem fm_chainS_id : fm_chainS.id = 189 := rfl
@[simp] theorem fm_chainS_fresh : fm_chainS.fresh = true := rfl
@[simp] theorem fm_chainS_look (n : Int) (h0 : 0 ≤ n) (h : n ≤ 60) : fm_chainS.look [I64 n] = some (IO1 (chL n.toNat)) :=
  lookF_of (X := Int) (args := fun n => [I64 n]) (pre := fun n => (0 ≤ n) ∧ (n ≤ 60)) (val := fun n => IO1 (chL n.toNat)) (by
  intro n n' h
  simp at h
  subst h
  rfl) n ⟨h0, h⟩
attribute [irreducible] fm_chainS
theorem chL_length {n : Nat} : (chL n).length = n := by simp [chL]

theorem copyTabS_pc (t : List (List Int)) (ht : BigR t) : PC Try.prog 194 [RL t] none true (fun r _ => r = RO t) := by
  have hl := ht.1.le
  refine pcT [] fok_194 ?_
  simp [fa_194]
  refine loopX (tabK_mono _) t.length (fun i γ => [(3, .arr 40 γ), (4, I64 i)]) (fun i γ => [⟨40, γ, .arr 1 (orowsD (t.take i))⟩]) (fun _ _ => True) 1 (by simp) (by simp [orowsD]) trivial (fun i γ g hi _ => ?_)
  simp [lb_194_3]
  refine ⟨fun h => ?_, fun h => ?_⟩
  · have hr := (ht.row h).le
    have e1 : t.take (i + 1) = t.take i ++ [gr t i] := by
      rw [List.take_succ_eq_append_getElem h]
      simp [gr, List.getElem?_eq_getElem h]
    simp [h, wrap_succ hi hl, e1]
    exact ⟨le_big (by omega), le_big (by omega)⟩
  · rw [List.take_of_length_le (by omega)]
noncomputable def fm_copyTabS : Fam Try.prog := mkFam (X := List (List Int)) 194 true (fun t => [RL t]) (fun t => (BigR t)) (fun t => RO t) (by
  rintro t ht
  exact copyTabS_pc t ht)
@[simp] theorem fm_copyTabS_id : fm_copyTabS.id = 194 := rfl
@[simp] theorem fm_copyTabS_fresh : fm_copyTabS.fresh = true := rfl
@[simp] theorem fm_copyTabS_look (t : List (List Int)) (ht : BigR t) : fm_copyTabS.look [RL t] = some (RO t) :=
  lookF_of (X := List (List Int)) (args := fun t => [RL t]) (pre := fun t => (BigR t)) (val := fun t => RO t) (by
  intro t t' h
  simp at h
  subst h
  rfl) t ht
attribute [irreducible] fm_copyTabS

theorem sumV_if {X : Int} {n x j : Nat} (hX : X = (x : Int) + j) (hn : n ≤ 60) (hx : x ≤ 60) (hj : j ≤ 60) :
    (if IntKind.i64.wrap (IntKind.i64.wrap (IntKind.i64.wrap X - n) + 1) < 0 then 0 else IntKind.i64.wrap (IntKind.i64.wrap (IntKind.i64.wrap X - n) + 1)) = sumV n x j := by
  subst hX
  rw [wrap64 (n := (x : Int) + j) (by omega) (by omega), wrap64 (n := (x : Int) + j - n) (by omega) (by omega), wrap64 (by omega) (by omega)]
  unfold sumV
  split <;> omega
theorem tr_one {f : Nat → List Int} : tr 1 f = [f 0] := rfl

theorem sumS_pc (n : Int) (h0 : 0 ≤ n) (h : n ≤ 60) : PC Try.prog 198 [I64 n] none true (fun r _ => r = .agg [IO1 (chL n.toNat), RO (sumT n.toNat)]) := by
  obtain ⟨n, rfl⟩ := Int.eq_ofNat_of_zero_le h0
  have hn : n ≤ 60 := by omega
  refine pcT [fm_chainS] fok_198 ?_
  simp [fa_198]
  refine callO1 fm_chainS (by simp) (by simp) (v := IO1 (chL n)) (by simpa using fm_chainS_look n (by omega) (by omega)) ?_
  simp
  refine loopX (tabK_mono _) n (fun i γ => [(4, I64 i)]) (fun i γ => match i with
      | 0 => [⟨16, 1, .cells [.nil, .nil]⟩, ⟨24, 3, .cells [.arr 64 2, .nil]⟩, ⟨64, 2, .arr 1 (ints (chL n))⟩]
      | i + 1 => [⟨16, 1, .cells [.nil, .nil]⟩, ⟨24, 3, .cells [.arr 64 2, .arr 280 γ]⟩, ⟨64, 2, .arr 1 (ints (chL n))⟩, ⟨280, γ, .arr 1 (orowsD (tr (i + 1) fun x => tl n (sumV n x)))⟩]) (fun _ _ => True) 0 (by simp) (by simp) trivial (fun i γ g hi _ => ?_)
  rcases Nat.lt_or_ge i n with h | h
  · rcases i with _ | i
    · simp [lb_198_3, h]
      refine loopX (tabK_mono _) n (fun j δ => [(5, .arr 120 δ), (6, I64 j)]) (fun j δ => [⟨16, 1, .cells [.nil, .nil]⟩, ⟨24, 3, .cells [.arr 64 2, .nil]⟩, ⟨64, 2, .arr 1 (ints (chL n))⟩, ⟨120, δ, .arr 1 (ints (tl j (sumV n 0)))⟩]) (fun _ _ => True) _ (by simp; rfl) (by simp [tl_zero, ints_nil]) trivial (fun j δ g2 hj _ => ?_)
      simp [lb_198_7]
      refine ⟨fun h2 => ?_, fun h2 => ?_⟩
      · simp [h2, tl_succ]
        exact ⟨le_big (by omega), g2, ⟨rfl, wrap_succ hj (by omega)⟩, rfl, sumV_if (by simp) hn (by omega) (by omega)⟩
      · obtain rfl : j = n := by omega
        exact ⟨le_big (by omega), h, rfl, orowsD_one⟩
    · simp [lb_198_3, show ((i : Int) + 1 < n) by omega]
      refine loopX (tabK_mono _) n (fun j δ => [(5, .arr 120 δ), (6, I64 j)]) (fun j δ => [⟨16, 1, .cells [.nil, .nil]⟩, ⟨24, 3, .cells [.arr 64 2, .arr 280 γ]⟩, ⟨64, 2, .arr 1 (ints (chL n))⟩, ⟨120, δ, .arr 1 (ints (tl j (sumV n (i + 1))))⟩, ⟨280, γ, .arr 1 (orowsD (tr (i + 1) fun x => tl n (sumV n x)))⟩]) (fun _ _ => True) _ (by simp; rfl) (by simp [tl_zero, ints_nil]) trivial (fun j δ g2 hj _ => ?_)
      simp [lb_198_7]
      refine ⟨fun h2 => ?_, fun h2 => ?_⟩
      · simp [h2, tl_succ]
        exact ⟨le_big (by omega), g2, ⟨rfl, wrap_succ hj (by omega)⟩, rfl, sumV_if (by push_cast; rfl) hn (by omega) (by omega)⟩
      · obtain rfl : j = n := by omega
        exact ⟨le_big (by omega), h, wrap64 (by omega) (by omega), tr_succ.symm⟩
  · obtain rfl : i = n := by omega
    rcases i with _ | i
    · simp [lb_198_3, sumT, tr_zero]
      exact ⟨by rintro x (rfl | rfl) <;> simp, by simp [orowsD]⟩
    · simp [lb_198_3, sumT]
      rintro x (rfl | rfl) <;> simp
noncomputable def fm_sumS : Fam Try.prog := mkFam (X := Int) 198 true (fun n => [I64 n]) (fun n => (0 ≤ n) ∧ (n ≤ 60)) (fun n => .agg [IO1 (chL n.toNat), RO (sumT n.toNat)]) (by
  rintro n ⟨h0, h⟩
  exact sumS_pc n h0 h)
@[simp] theorem fm_sumS_id : fm_sumS.id = 198 := rfl
@[simp] theorem fm_sumS_fresh : fm_sumS.fresh = true := rfl
@[simp] theorem fm_sumS_look (n : Int) (h0 : 0 ≤ n) (h : n ≤ 60) : fm_sumS.look [I64 n] = some (.agg [IO1 (chL n.toNat), RO (sumT n.toNat)]) :=
  lookF_of (X := Int) (args := fun n => [I64 n]) (pre := fun n => (0 ≤ n) ∧ (n ≤ 60)) (val := fun n => .agg [IO1 (chL n.toNat), RO (sumT n.toNat)]) (by
  intro n n' h
  simp at h
  subst h
  rfl) n ⟨h0, h⟩
attribute [irreducible] fm_sumS
end Go.PS
end

section
-- Contracts: algebras that the reference makes for its draws.
set_option maxRecDepth 100000
set_option linter.unusedVariables false
set_option linter.unusedSimpArgs false
namespace Go.PS
open Go.Proofs

set_option maxHeartbeats 1000000 in
theorem mtAlgS_pc (u : List Int) (s : Sm u) : PC Try.prog 98 [IL u] none true (fun r _ => r = .agg [IO1 u, RO (mtT u)]) := by
  have h6 := s.six
  refine pcT [fm_meetS] fok_98 ?_
  simp [fa_98, le_big (show u.length ≤ 1099511627776 by omega)]
  refine loopX (tabK_mono _) u.length (fun i γ => [(4, I64 i)]) (fun i γ => match i with
      | 0 => [⟨16, 1, .cells [.nil, .nil]⟩, ⟨24, 4, .cells [.arr 56 3, .nil]⟩, ⟨56, 3, .arr 1 (ints u)⟩]
      | i + 1 => [⟨16, 1, .cells [.nil, .nil]⟩, ⟨24, 4, .cells [.arr 56 3, .arr 280 γ]⟩, ⟨56, 3, .arr 1 (ints u)⟩, ⟨280, γ, .arr 1 (orowsD (tr (i + 1) fun x => tl u.length (meetM u x)))⟩]) (fun _ _ => True) 0 (by simp) (by simp) trivial (fun i γ g hi _ => ?_)
  rcases Nat.lt_or_ge i u.length with h | h
  · rcases i with _ | i
    · simp [lb_98_3, h]
      refine loopX (tabK_mono _) u.length (fun j δ => [(5, .arr 136 δ), (6, I64 j)]) (fun j δ => [⟨16, 1, .cells [.nil, .nil]⟩, ⟨24, 4, .cells [.arr 56 3, .nil]⟩, ⟨56, 3, .arr 1 (ints u)⟩, ⟨136, δ, .arr 1 (ints (tl j (meetM u 0)))⟩]) (fun _ _ => True) _ (by simp; rfl) (by simp [tl_zero, ints_nil]) trivial (fun j δ g2 hj _ => ?_)
      simp [lb_98_7]
      refine ⟨fun h2 => ?_, fun h2 => ?_⟩
      · simp [h, h2, s, tl_succ]
        exact ⟨le_big (by omega), wrap_succ hj (by omega)⟩
      · obtain rfl : j = u.length := by omega
        exact ⟨le_big (by omega), by simpa using h, rfl, orowsD_one⟩
    · simp [lb_98_3, show ((i : Int) + 1 < u.length) by omega]
      refine loopX (tabK_mono _) u.length (fun j δ => [(5, .arr 136 δ), (6, I64 j)]) (fun j δ => [⟨16, 1, .cells [.nil, .nil]⟩, ⟨24, 4, .cells [.arr 56 3, .arr 280 γ]⟩, ⟨56, 3, .arr 1 (ints u)⟩, ⟨136, δ, .arr 1 (ints (tl j (meetM u (i + 1))))⟩, ⟨280, γ, .arr 1 (orowsD (tr (i + 1) fun x => tl u.length (meetM u x)))⟩]) (fun _ _ => True) _ (by simp; rfl) (by simp [tl_zero, ints_nil]) trivial (fun j δ g2 hj _ => ?_)
      simp [lb_98_7]
      refine ⟨fun h2 => ?_, fun h2 => ?_⟩
      · simp [h2, s, tl_succ, show (0 : Int) ≤ (i : Int) + 1 by omega, show ((i : Int) + 1).toNat = i + 1 by omega, h]
        exact ⟨le_big (by omega), wrap_succ hj (by omega)⟩
      · obtain rfl : j = u.length := by omega
        exact ⟨le_big (by omega), h, wrap64 (by omega) (by omega), tr_succ.symm⟩
  · obtain rfl : i = u.length := by omega
    rcases hn : u.length with _ | k
    · simp [lb_98_3, mtT, hn, tr_zero]
      exact ⟨by rintro x (rfl | rfl) <;> simp, by simp [orowsD]⟩
    · simp [lb_98_3, mtT, hn]
      rintro x (rfl | rfl) <;> simp
noncomputable def fm_mtAlgS : Fam Try.prog := mkFam (X := List Int) 98 true (fun u => [IL u]) (fun u => (Sm u)) (fun u => .agg [IO1 u, RO (mtT u)]) (by
  rintro u s
  exact mtAlgS_pc u s)
@[simp] theorem fm_mtAlgS_id : fm_mtAlgS.id = 98 := rfl
@[simp] theorem fm_mtAlgS_fresh : fm_mtAlgS.fresh = true := rfl
@[simp] theorem fm_mtAlgS_look (u : List Int) (s : Sm u) : fm_mtAlgS.look [IL u] = some (.agg [IO1 u, RO (mtT u)]) :=
  lookF_of (X := List Int) (args := fun u => [IL u]) (pre := fun u => (Sm u)) (val := fun u => .agg [IO1 u, RO (mtT u)]) (by
  intro u u' h
  simp at h
  subst h
  rfl) u s
attribute [irreducible] fm_mtAlgS

theorem crR_succ {a b : List Int} {p n : Nat} : crR a b p (n + 1) = if tb a (p / b.length) (n / b.length) && tb b (p % b.length) (n % b.length) then crR a b p n + 2 ^ n else crR a b p n := by simp [crR, List.range_succ]
theorem crR_rng {a b : List Int} {p : Nat} : ∀ n, 0 ≤ crR a b p n ∧ crR a b p n < 2 ^ n
  | 0 => by simp [crR]
  | n + 1 => by
    have ih := crR_rng (a := a) (b := b) (p := p) n
    rw [crR_succ, Int.pow_succ]
    split <;> omega

theorem mulw {a b : Nat} (h : a * b ≤ 1000000) : IntKind.i64.wrap ((a : Int) * b) = ((a * b : Nat) : Int) := by
  rw [← Int.natCast_mul]
  exact wrap64 (by omega) (by omega)

/-- Places of pairs. -/
theorem pr_ex {a m N i : Nat} (hM : a * m = N) (hN : N ≤ 1000000) (h : i < N) : ∃ x y : Nat, i / m = x ∧ i % m = y ∧ x < a ∧ y < m ∧ (i : Int) / m = x ∧ (i : Int).tmod m = y ∧ IntKind.i64.wrap (x : Int) = x ∧ ¬ m = 0 := by
  have hm : m ≠ 0 := by rintro rfl; simp at hM; omega
  have hd : i / m ≤ i := Nat.div_le_self _ _
  refine ⟨i / m, i % m, rfl, rfl, ?_, Nat.mod_lt _ (by omega), (Int.natCast_ediv _ _).symm, (Int.ofNat_tmod _ _).symm, ?_, hm⟩
  · rw [Nat.div_lt_iff_lt_mul (by omega), hM]; exact h
  · generalize i / m = e at *
    exact wrap64 (by omega) (by omega)

set_option maxHeartbeats 1000000 in
theorem crossS_pc (a b : List Int) (sa : Sm a) (sb : Sm b) : PC Try.prog 190 [IL a, IL b] none true (fun r _ => r = IO1 (crU a b)) := by
  have h6 := sa.six
  have h62 := sb.six
  have hN : a.length * b.length ≤ 36 := Nat.mul_le_mul h6 h62
  have hw := mulw (a := a.length) (b := b.length) (by omega)
  refine pcT [fm_belowS, fm_power] fok_190 ?_
  simp [fa_190]
  generalize hM : a.length * b.length = N at *
  refine loopX (tabK_mono _) N (fun i γ => [(5, .arr 80 γ), (7, I64 i)]) (fun i γ => [⟨80, γ, .arr 1 (ints (tl i fun p => crR a b p N))⟩]) (fun _ _ => True) 1 (by simp) (by simp [tl_zero, ints_nil]) trivial (fun i γ g hi _ => ?_)
  simp [lb_190_4, hw]
  refine ⟨fun h => ?_, fun h => ?_⟩
  · refine loopX (tabK_mono _) N (fun j δ => [(8, I64 (crR a b i j)), (9, I64 j)]) (fun j δ => [⟨80, γ, .arr 1 (ints (tl i fun p => crR a b p N))⟩]) (fun _ _ => True) 1 (by simp [crR]) (by simp) trivial (fun j δ g2 hj _ => ?_)
    simp [lb_190_8, hw]
    refine ⟨fun h2 => ?_, fun h2 => ?_⟩
    · obtain ⟨x1, y1, n1, o1, d1, m1, e1, f1, w1, hz⟩ := pr_ex hM (by omega) h
      obtain ⟨x2, y2, n2, o2, d2, m2, e2, f2, w2, _⟩ := pr_ex hM (by omega) h2
      have hz' : ¬ b = [] := fun e => hz (by simp [e])
      refine cutWc (tabK_mono _) [(46, .bool (tb a x1 x2 && tb b y1 y2))] (by
        cases hc : tb a x1 x2
        · simp [e1, f1, w1, e2, f2, w2, sa, sb, d1, d2, m1, m2, hz', hc]
        · simp [e1, f1, w1, e2, f2, w2, sa, sb, d1, d2, m1, m2, hz', hc]) ?_
      have hs := crR_succ (a := a) (b := b) (p := i) (n := j)
      rw [n1, n2, o1, o2] at hs
      have hr := crR_rng (a := a) (b := b) (p := i) j
      have hp := pow_le60 (k := j) (by omega)
      simp [show (j : Int) ≤ 61 by omega, wrap64 (n := crR a b i j + 2 ^ j) (by omega) (by omega), wrap_succ hj (show N ≤ 1099511627776 by omega), hs, h2]
      cases tb a x1 x2 <;> cases tb b y1 y2 <;> simp
    · obtain rfl : j = N := by omega
      exact ⟨le_big (by omega), h, g2, ⟨rfl, wrap_succ hi (by omega)⟩, rfl, tl_succ.symm⟩
  · obtain rfl : i = N := by omega
    simp [crU, hM]
noncomputable def fm_crossS : Fam Try.prog := mkFam (X := List Int × List Int) 190 true (fun (a, b) => [IL a, IL b]) (fun (a, b) => (Sm a) ∧ (Sm b)) (fun (a, b) => IO1 (crU a b)) (by
  rintro ⟨a, b⟩ ⟨sa, sb⟩
  exact crossS_pc a b sa sb)
@[simp] theorem fm_crossS_id : fm_crossS.id = 190 := rfl
@[simp] theorem fm_crossS_fresh : fm_crossS.fresh = true := rfl
@[simp] theorem fm_crossS_look (a b : List Int) (sa : Sm a) (sb : Sm b) : fm_crossS.look [IL a, IL b] = some (IO1 (crU a b)) :=
  lookF_of (X := List Int × List Int) (args := fun (a, b) => [IL a, IL b]) (pre := fun (a, b) => (Sm a) ∧ (Sm b)) (val := fun (a, b) => IO1 (crU a b)) (by
  rintro ⟨a, b⟩ ⟨a', b'⟩ h
  simp at h
  try simp only [and_assoc] at h
  obtain ⟨rfl, rfl⟩ := h
  rfl) (a, b) ⟨sa, sb⟩
attribute [irreducible] fm_crossS
/-- The form of an algebra. -/
structure SH (u : List Int) (t : List (List Int)) : Prop where
  sm : Sm u
  pos : 0 < u.length
  len : t.length = u.length
  rows : ∀ x, x < u.length → (gr t x).length = u.length
  nn : ∀ x y, x < u.length → y < u.length → -1 ≤ tm t x y
  lt : ∀ x y, x < u.length → y < u.length → tm t x y ≤ 100

theorem skR_succ {u v : List Int} {x n : Nat} : skR u v x (n + 1) = if skB u v x n then skR u v x n + 2 ^ n else skR u v x n := by simp [skR, List.range_succ]
theorem skR_rng {u v : List Int} {x : Nat} : ∀ n, 0 ≤ skR u v x n ∧ skR u v x n < 2 ^ n
  | 0 => by simp [skR]
  | n + 1 => by
    have ih := skR_rng (u := u) (v := v) (x := x) n
    rw [skR_succ, Int.pow_succ]
    split <;> omega

set_option maxHeartbeats 4000000 in
theorem stackS_pc (u : List Int) (t : List (List Int)) (v : List Int) (s : List (List Int)) (a : SH u t) (b : SH v s) : PC Try.prog 199 [AL u t, AL v s] none true (fun r _ => r = .agg [IO1 (skU u v), RO (skT u t v s)]) := by
  have h6 := a.sm.six
  have h62 := b.sm.six
  obtain ⟨m, hm⟩ : ∃ m, u.length = m + 1 := ⟨u.length - 1, by have := a.pos; omega⟩
  have hw1 : IntKind.i64.wrap ((u.length : Int) - 1) = m := by rw [wrap64 (by omega) (by omega)]; omega
  have hw2 : IntKind.i64.wrap ((m : Int) + v.length) = ((m + v.length : Nat) : Int) := by rw [wrap64 (by omega) (by omega)]; push_cast; rfl
  obtain ⟨N, hN⟩ : ∃ N, m + v.length = N := ⟨_, rfl⟩
  rw [hN] at hw2
  have hmu : u.length - 1 = m := by omega
  refine pcT [fm_belowS, fm_power] fok_199 ?_
  simp [fa_199, hw1, hw2]
  refine loopX (tabK_mono _) N (fun i γ => [(8, I64 i)]) (fun i (γ : Nat × Nat) => match i with
      | 0 => [⟨32, 1, .cells [.nil, .nil]⟩, ⟨56, 2, .cells [.nil, .nil]⟩]
      | i + 1 => [⟨32, 1, .cells [.nil, .nil]⟩, ⟨56, 2, .cells [.arr 1112 γ.2, .arr 1064 γ.1]⟩, ⟨1064, γ.1, .arr 1 (orowsD (tr (i + 1) fun x => tl N (skV u t s x)))⟩, ⟨1112, γ.2, .arr 1 (ints (tl (i + 1) fun x => skR u v x N))⟩]) (fun _ _ => True) (0, 0) (by simp) (by simp) trivial (fun i γ g hi _ => ?_)
  obtain ⟨γ1, γ2⟩ := γ
  rcases Nat.lt_or_ge i N with h | h
  · rcases i with _ | i
    · simp [lb_199_5, h]
      refine loopX (tabK_mono _) N (fun j δ => [(9, .arr 224 δ), (10, I64 (skR u v 0 j)), (11, I64 j)]) (fun j δ => [⟨32, 1, .cells [.nil, .nil]⟩, ⟨56, 2, .cells [.nil, .nil]⟩, ⟨224, δ, .arr 1 (ints (tl j (skV u t s 0)))⟩]) (fun _ _ => True) g (by simp [skR]) (by simp [tl_zero, ints_nil]) trivial (fun j δ g2 hj _ => ?_)
      simp [lb_199_10]
      refine ⟨fun h2 => ?_, fun h2 => ?_⟩
      · have hr := skR_rng (u := u) (v := v) (x := 0) j
        have hp := pow_le60 (k := j) (by omega)
        have hw3 : IntKind.i64.wrap (skR u v (0) j + 2 ^ j) = skR u v (0) j + 2 ^ j := wrap64 (by omega) (by omega)
        have hw4 : IntKind.i64.wrap ((j : Int) + 1) = j + 1 := wrap_succ hj (by omega)
        have hs := skR_succ (u := u) (v := v) (x := 0) (n := j)
        rcases Nat.lt_or_ge 0 m with cx | cx
        · rcases Nat.lt_or_ge j m with cj | cj
          · have e1 : skV u t s (0) j = tm t (0) j := by unfold skV; rw [if_pos ⟨by omega, by omega⟩]
            have e2 : skB u v (0) j = tb u (0) j := by simp [skB, hmu, show ¬ m ≤ j by omega, cx, cj]; try omega
            rw [e2] at hs
            cases hb : tb u (0) j
            · simp [gops, hb, show ((0 : Int) < m) by omega, show ¬ ((m : Int) ≤ 0) by omega, cx, cj, show ¬ m ≤ j by omega, a.len, a.rows, a.sm, show 0 < u.length by omega, show (0 : Int) < u.length by omega, show (0 : Int) ≤ 0 by omega, show ((0 : Int)).toNat = 0 by omega, show j < u.length by omega, tl_succ, e1, hw3, hw4, hs, h2]
              exact le_big (by omega)
            · simp [gops, hb, show ((0 : Int) < m) by omega, show ¬ ((m : Int) ≤ 0) by omega, cx, cj, show ¬ m ≤ j by omega, a.len, a.rows, a.sm, show 0 < u.length by omega, show (0 : Int) < u.length by omega, show (0 : Int) ≤ 0 by omega, show ((0 : Int)).toNat = 0 by omega, show j < u.length by omega, tl_succ, e1, hw3, hw4, hs, h2, show (j : Int) ≤ 61 by omega]
              exact le_big (by omega)
          · have e1 : skV u t s (0) j = (if (j : Int) < 0 then (j : Int) else 0) := by
              unfold skV; rw [if_neg (by omega), if_neg (by omega)]; split <;> omega
            have e2 : skB u v (0) j = true := by simp [skB, hmu, cx, cj]; try omega
            rw [e2] at hs
            simp [gops, show ((0 : Int) < m) by omega, show ¬ ((m : Int) ≤ 0) by omega, cx, cj, show ¬ j < m by omega, tl_succ, e1, hw3, hw4, hs, h2, show (j : Int) ≤ 61 by omega]
            exact ⟨fun h => absurd h (by omega), fun _ => le_big (by omega)⟩
        · rcases Nat.lt_or_ge j m with cj | cj
          · omega
          · obtain rfl : m = 0 := by omega
            have hjv : j < v.length := by omega
            have w0 : IntKind.i64.wrap 0 = 0 := rfl
            have w2 : IntKind.i64.wrap (j : Int) = j := wrap64 (by omega) (by omega)
            have q1 := b.nn 0 j b.pos hjv
            have q2 := b.lt 0 j b.pos hjv
            have w3 : IntKind.i64.wrap (tm s 0 j) = tm s 0 j := wrap64 (by omega) (by omega)
            have e1 : skV u t s (0) j = tm s 0 j := by
              unfold skV; rw [if_neg (by omega), if_pos ⟨by omega, by omega⟩, hmu]; simp
            have e2 : skB u v (0) j = tb v 0 j := by simp [skB, hmu]
            rw [e2] at hs
            cases hb : tb v 0 j
            · simp [gops, hb, w0, w2, w3, b.len, b.rows, b.sm, b.pos, hjv, tl_succ, e1, hw3, hw4, hs, h2]
              exact le_big (by omega)
            · simp [gops, hb, w0, w2, w3, b.len, b.rows, b.sm, b.pos, hjv, tl_succ, e1, hw3, hw4, hs, h2, show (j : Int) ≤ 61 by omega]
              exact le_big (by omega)
      · obtain rfl : j = N := by omega
        exact ⟨le_big (by omega), h, rfl, g2, g2 + 1, ⟨rfl, rfl⟩, ⟨rfl, orowsD_one⟩, rfl, ints_one⟩
    · simp [lb_199_5, show ((i : Int) + 1 < N) by omega]
      refine loopX (tabK_mono _) N (fun j δ => [(9, .arr 224 δ), (10, I64 (skR u v (i + 1) j)), (11, I64 j)]) (fun j δ => [⟨32, 1, .cells [.nil, .nil]⟩, ⟨56, 2, .cells [.arr 1112 γ2, .arr 1064 γ1]⟩, ⟨224, δ, .arr 1 (ints (tl j (skV u t s (i + 1))))⟩, ⟨1064, γ1, .arr 1 (orowsD (tr (i + 1) fun x => tl N (skV u t s x)))⟩, ⟨1112, γ2, .arr 1 (ints (tl (i + 1) fun x => skR u v x N))⟩]) (fun _ _ => True) g (by simp [skR]) (by simp [tl_zero, ints_nil]) trivial (fun j δ g2 hj _ => ?_)
      simp [lb_199_10]
      refine ⟨fun h2 => ?_, fun h2 => ?_⟩
      · have hr := skR_rng (u := u) (v := v) (x := (i + 1)) j
        have hp := pow_le60 (k := j) (by omega)
        have hw3 : IntKind.i64.wrap (skR u v ((i + 1)) j + 2 ^ j) = skR u v ((i + 1)) j + 2 ^ j := wrap64 (by omega) (by omega)
        have hw4 : IntKind.i64.wrap ((j : Int) + 1) = j + 1 := wrap_succ hj (by omega)
        have hs := skR_succ (u := u) (v := v) (x := (i + 1)) (n := j)
        rcases Nat.lt_or_ge (i + 1) m with cx | cx
        · rcases Nat.lt_or_ge j m with cj | cj
          · have e1 : skV u t s ((i + 1)) j = tm t ((i + 1)) j := by unfold skV; rw [if_pos ⟨by omega, by omega⟩]
            have e2 : skB u v ((i + 1)) j = tb u ((i + 1)) j := by simp [skB, hmu, show ¬ m ≤ j by omega, cx, cj]; try omega
            rw [e2] at hs
            cases hb : tb u ((i + 1)) j
            · simp [gops, hb, show (((i + 1) : Int) < m) by omega, show ¬ ((m : Int) ≤ (i + 1)) by omega, cx, cj, show ¬ m ≤ j by omega, a.len, a.rows, a.sm, show (i + 1) < u.length by omega, show ((i + 1) : Int) < u.length by omega, show (0 : Int) ≤ (i + 1) by omega, show (((i + 1) : Int)).toNat = (i + 1) by omega, show j < u.length by omega, tl_succ, e1, hw3, hw4, hs, h2]
              exact le_big (by omega)
            · simp [gops, hb, show (((i + 1) : Int) < m) by omega, show ¬ ((m : Int) ≤ (i + 1)) by omega, cx, cj, show ¬ m ≤ j by omega, a.len, a.rows, a.sm, show (i + 1) < u.length by omega, show ((i + 1) : Int) < u.length by omega, show (0 : Int) ≤ (i + 1) by omega, show (((i + 1) : Int)).toNat = (i + 1) by omega, show j < u.length by omega, tl_succ, e1, hw3, hw4, hs, h2, show (j : Int) ≤ 61 by omega]
              exact le_big (by omega)
          · have e1 : skV u t s ((i + 1)) j = (if (j : Int) < (i + 1) then (j : Int) else (i + 1)) := by
              unfold skV; rw [if_neg (by omega), if_neg (by omega)]; split <;> omega
            have e2 : skB u v ((i + 1)) j = true := by simp [skB, hmu, cx, cj]; try omega
            rw [e2] at hs
            simp [gops, show (((i + 1) : Int) < m) by omega, show ¬ ((m : Int) ≤ (i + 1)) by omega, cx, cj, show ¬ j < m by omega, tl_succ, e1, hw3, hw4, hs, h2, show (j : Int) ≤ 61 by omega]
            exact le_big (by omega)
        · rcases Nat.lt_or_ge j m with cj | cj
          · have e1 : skV u t s ((i + 1)) j = (if (j : Int) < (i + 1) then (j : Int) else (i + 1)) := by
              unfold skV; rw [if_neg (by omega), if_neg (by omega)]; split <;> omega
            have e2 : skB u v ((i + 1)) j = false := by simp [skB, hmu, cj, show ¬ (i + 1) < m by omega]; try omega
            rw [e2] at hs
            simp [gops, show ¬ (((i + 1) : Int) < m) by omega, show ((m : Int) ≤ (i + 1)) by omega, cj, show ¬ m ≤ j by omega, tl_succ, e1, hw3, hw4, hs, h2]
            exact le_big (by omega)
          · obtain ⟨d, hd⟩ : ∃ d, (i + 1) - m = d := ⟨_, rfl⟩
            obtain ⟨c, hc⟩ : ∃ c, j - m = c := ⟨_, rfl⟩
            have hdv : d < v.length := by omega
            have hcv : c < v.length := by omega
            have w1 : IntKind.i64.wrap (((i + 1) : Int) - m) = d := by rw [wrap64 (by omega) (by omega)]; omega
            have w2 : IntKind.i64.wrap ((j : Int) - m) = c := by rw [wrap64 (by omega) (by omega)]; omega
            have q1 := b.nn d c hdv hcv
            have q2 := b.lt d c hdv hcv
            have w3 : IntKind.i64.wrap ((m : Int) + tm s d c) = m + tm s d c := wrap64 (by omega) (by omega)
            have e1 : skV u t s ((i + 1)) j = m + tm s d c := by
              unfold skV; rw [if_neg (by omega), if_pos ⟨by omega, by omega⟩, hmu, hd, hc]
            have e2 : skB u v ((i + 1)) j = tb v d c := by simp [skB, hmu, cj, show ¬ (i + 1) < m by omega, show ¬ j < m by omega, hd, hc]; try omega
            rw [e2] at hs
            cases hb : tb v d c
            · simp [gops, hb, show ¬ (((i + 1) : Int) < m) by omega, show ((m : Int) ≤ (i + 1)) by omega, cj, show ¬ j < m by omega, w1, w2, w3, b.len, b.rows, b.sm, hdv, hcv, tl_succ, e1, hw3, hw4, hs, h2]
              exact le_big (by omega)
            · simp [gops, hb, show ¬ (((i + 1) : Int) < m) by omega, show ((m : Int) ≤ (i + 1)) by omega, cj, show ¬ j < m by omega, w1, w2, w3, b.len, b.rows, b.sm, hdv, hcv, tl_succ, e1, hw3, hw4, hs, h2, show (j : Int) ≤ 61 by omega]
              exact le_big (by omega)
      · obtain rfl : j = N := by omega
        exact ⟨le_big (by omega), h, wrap64 (by omega) (by omega), g2, g2 + 1, ⟨rfl, rfl⟩, ⟨rfl, tr_succ.symm⟩, rfl, tl_succ.symm⟩
  · obtain rfl : i = N := by omega
    rcases i with _ | i
    · exact absurd b.pos (by omega)
    · simp [lb_199_5, skU, skT, hmu, hN]
      rintro x (rfl | rfl) <;> simp
noncomputable def fm_stackS : Fam Try.prog := mkFam (X := List Int × List (List Int) × List Int × List (List Int)) 199 true (fun (u, t, v, s) => [AL u t, AL v s]) (fun (u, t, v, s) => (SH u t) ∧ (SH v s)) (fun (u, t, v, s) => .agg [IO1 (skU u v), RO (skT u t v s)]) (by
  rintro ⟨u, t, v, s⟩ ⟨a, b⟩
  exact stackS_pc u t v s a b)
@[simp] theorem fm_stackS_id : fm_stackS.id = 199 := rfl
@[simp] theorem fm_stackS_fresh : fm_stackS.fresh = true := rfl
@[simp] theorem fm_stackS_look (u : List Int) (t : List (List Int)) (v : List Int) (s : List (List Int)) (a : SH u t) (b : SH v s) : fm_stackS.look [AL u t, AL v s] = some (.agg [IO1 (skU u v), RO (skT u t v s)]) :=
  lookF_of (X := List Int × List (List Int) × List Int × List (List Int)) (args := fun (u, t, v, s) => [AL u t, AL v s]) (pre := fun (u, t, v, s) => (SH u t) ∧ (SH v s)) (val := fun (u, t, v, s) => .agg [IO1 (skU u v), RO (skT u t v s)]) (by
  rintro ⟨u, t, v, s⟩ ⟨u', t', v', s'⟩ h
  simp at h
  try simp only [and_assoc] at h
  obtain ⟨rfl, rfl, rfl, rfl⟩ := h
  rfl) (u, t, v, s) ⟨a, b⟩
attribute [irreducible] fm_stackS
end Go.PS
end

section
-- Contracts: stacks and pairs of algebras, of the reference.
set_option maxRecDepth 100000
set_option linter.unusedVariables false
set_option linter.unusedSimpArgs false
namespace Go.PS
open Go.Proofs

theorem VA.sh {u : List Int} {t : List (List Int)} (a : VA u t) : SH u t :=
  ⟨a.lat.sm, a.lat.pos, a.len, a.rows, fun x y hx hy => by have := a.tf.nn x y hx hy; omega, fun x y hx hy => by have := a.tf.lt x y hx hy; have := a.lat.six; omega⟩

set_option maxHeartbeats 1000000 in
theorem stackAlgS_pc (u : List Int) (t : List (List Int)) (v : List Int) (s : List (List Int)) (hu : Big u.length) (ht : BigR t) (hv : Big v.length) (hs : BigR s) : PC Try.prog 196 [AL u t, AL v s] none true (fun r _ => r = .tup [if VA u t ∧ VA v s ∧ u.length + v.length ≤ 7 then .agg [IO1 (skU u v), RO (skT u t v s)] else .agg [IO1 [], RO []], .bool (decide (VA u t ∧ VA v s ∧ u.length + v.length ≤ 7))]) := by
  have hul := hu.le
  have hvl := hv.le
  have w1 : IntKind.i64.wrap ((u.length : Int) + v.length) = (u.length : Int) + v.length := wrap64 (by omega) (by omega)
  have w2 : IntKind.i64.wrap ((u.length : Int) + v.length - 1) = (u.length : Int) + v.length - 1 := wrap64 (by omega) (by omega)
  refine pcT [fm_validAlgebraS, fm_stackS] fok_196 ?_
  simp [fa_196]
  refine cutW (tabK_mono _) [(24, .bool (!decide (VA u t ∧ VA v s ∧ u.length + v.length ≤ 7)))] (by
    cases hb : decide (VA u t)
    · simp [hu, ht, hb, of_decide_eq_false hb]
    · cases hb2 : decide (VA v s)
      · simp [hu, ht, hv, hs, hb, hb2, of_decide_eq_false hb2]
      · simp [hu, ht, hv, hs, hb, hb2, w1, w2, of_decide_eq_true hb, of_decide_eq_true hb2]
        rw [Bool.eq_iff_iff]
        simp
        omega) ?_
  cases hb : decide (VA u t ∧ VA v s ∧ u.length + v.length ≤ 7)
  · have h := of_decide_eq_false hb
    simp [h, ints, orowsD]
    intro h1 h2
    exact Nat.lt_of_not_le fun h3 => h ⟨h1, h2, h3⟩
  · have h := of_decide_eq_true hb
    simp [h]
    refine callO1 fm_stackS (by simp) (by simp) (v := .agg [IO1 (skU u v), RO (skT u t v s)]) (by simpa using fm_stackS_look u t v s h.1.sh h.2.1.sh) ?_
    simp
noncomputable def fm_stackAlgS : Fam Try.prog := mkFam (X := List Int × List (List Int) × List Int × List (List Int)) 196 true (fun (u, t, v, s) => [AL u t, AL v s]) (fun (u, t, v, s) => (Big u.length) ∧ (BigR t) ∧ (Big v.length) ∧ (BigR s)) (fun (u, t, v, s) => .tup [if VA u t ∧ VA v s ∧ u.length + v.length ≤ 7 then .agg [IO1 (skU u v), RO (skT u t v s)] else .agg [IO1 [], RO []], .bool (decide (VA u t ∧ VA v s ∧ u.length + v.length ≤ 7))]) (by
  rintro ⟨u, t, v, s⟩ ⟨hu, ht, hv, hs⟩
  exact stackAlgS_pc u t v s hu ht hv hs)
@[simp] theorem fm_stackAlgS_id : fm_stackAlgS.id = 196 := rfl
@[simp] theorem fm_stackAlgS_fresh : fm_stackAlgS.fresh = true := rfl
@[simp] theorem fm_stackAlgS_look (u : List Int) (t : List (List Int)) (v : List Int) (s : List (List Int)) (hu : Big u.length) (ht : BigR t) (hv : Big v.length) (hs : BigR s) : fm_stackAlgS.look [AL u t, AL v s] = some (.tup [if VA u t ∧ VA v s ∧ u.length + v.length ≤ 7 then .agg [IO1 (skU u v), RO (skT u t v s)] else .agg [IO1 [], RO []], .bool (decide (VA u t ∧ VA v s ∧ u.length + v.length ≤ 7))]) :=
  lookF_of (X := List Int × List (List Int) × List Int × List (List Int)) (args := fun (u, t, v, s) => [AL u t, AL v s]) (pre := fun (u, t, v, s) => (Big u.length) ∧ (BigR t) ∧ (Big v.length) ∧ (BigR s)) (val := fun (u, t, v, s) => .tup [if VA u t ∧ VA v s ∧ u.length + v.length ≤ 7 then .agg [IO1 (skU u v), RO (skT u t v s)] else .agg [IO1 [], RO []], .bool (decide (VA u t ∧ VA v s ∧ u.length + v.length ≤ 7))]) (by
  rintro ⟨u, t, v, s⟩ ⟨u', t', v', s'⟩ h
  simp at h
  try simp only [and_assoc] at h
  obtain ⟨rfl, rfl, rfl, rfl⟩ := h
  rfl) (u, t, v, s) ⟨hu, ht, hv, hs⟩
attribute [irreducible] fm_stackAlgS

set_option maxHeartbeats 1000000 in
theorem crossAlgS_pc (u : List Int) (t : List (List Int)) (v : List Int) (s : List (List Int)) (hu : u.length ≤ 1000000) (ht : BigR t) (hv : v.length ≤ 1000000) (hs : BigR s) : PC Try.prog 195 [AL u t, AL v s] none true (fun r _ => r = .tup [if VA u t ∧ VA v s ∧ u.length * v.length ≤ 6 then .agg [IO1 (crU u v), RO (crT u t v s)] else .agg [IO1 [], RO []], .bool (decide (VA u t ∧ VA v s ∧ u.length * v.length ≤ 6))]) := by
  have hm : u.length * v.length ≤ 1000000 * 1000000 := Nat.mul_le_mul hu hv
  have w1 : IntKind.i64.wrap ((u.length : Int) * v.length) = ((u.length * v.length : Nat) : Int) := by
    rw [← Int.natCast_mul]
    generalize u.length * v.length = k at *
    exact wrap64 (by omega) (by omega)
  generalize hk : u.length * v.length = k at *
  have hub : Big u.length := by unfold Big; omega
  have hvb : Big v.length := by unfold Big; omega
  refine pcT [fm_validAlgebraS, fm_crossS] fok_195 ?_
  simp [fa_195]
  refine cutW (tabK_mono _) [(28, .bool (!decide (VA u t ∧ VA v s ∧ k ≤ 6)))] (by
    cases hb : decide (VA u t)
    · simp [hub, ht, hb, of_decide_eq_false hb]
    · cases hb2 : decide (VA v s)
      · simp [hub, ht, hvb, hs, hb, hb2, of_decide_eq_false hb2]
      · simp [hub, ht, hvb, hs, hb, hb2, w1, of_decide_eq_true hb, of_decide_eq_true hb2]
        rw [Bool.eq_iff_iff]
        simp
        omega) ?_
  cases hb : decide (VA u t ∧ VA v s ∧ k ≤ 6)
  · have h := of_decide_eq_false hb
    simp [h, ints, orowsD]
    intro h1 h2
    exact Nat.lt_of_not_le fun h3 => h ⟨h1, h2, h3⟩
  · have h := of_decide_eq_true hb
    have a := h.1.sh
    have b := h.2.1.sh
    simp [h]
    refine callO1 fm_crossS (by simp) (by simp) (v := IO1 (crU u v)) (by simpa using fm_crossS_look u v a.sm b.sm) ?_
    simp
    have hkk : k ≤ 6 := h.2.2
    have eL : (crU u v).length = k := by simp [crU, hk]
    refine loopX (tabK_mono _) k (fun i γ => [(8, I64 i)]) (fun i γ => match i with
      | 0 => [⟨32, 1, .cells [.nil, .nil]⟩, ⟨48, 3, .cells [.arr 272 2, .nil]⟩, ⟨272, 2, .arr 1 (ints (crU u v))⟩]
      | i + 1 => [⟨32, 1, .cells [.nil, .nil]⟩, ⟨48, 3, .cells [.arr 272 2, .arr 704 γ]⟩, ⟨272, 2, .arr 1 (ints (crU u v))⟩, ⟨704, γ, .arr 1 (orowsD (tr (i + 1) fun x => tl k (crV u t v s x)))⟩]) (fun _ _ => True) 0 (by simp) (by simp) trivial (fun i γ g hi _ => ?_)
    rcases Nat.lt_or_ge i k with hik | hik
    · obtain ⟨x1, y1, n1, o1, d1, m1, e1, f1, w1', hz⟩ := pr_ex hk (by omega) hik
      have hz' : ¬ v = [] := fun e => hz (by simp [e])
      have hne : ¬ ints (crU u v) = [] := fun e => by
        have := congrArg List.length e
        simp [eL] at this
        omega
      rcases i with _ | i
      · obtain rfl : x1 = 0 := by simpa using n1.symm
        obtain rfl : y1 = 0 := by simpa using o1.symm
        have w0 : IntKind.i64.wrap 0 = 0 := rfl
        simp [lb_195_6, eL, hik, hne]
        refine loopX (tabK_mono _) k (fun j δ => [(9, .arr 368 δ), (10, I64 j)]) (fun j δ => [⟨32, 1, .cells [.nil, .nil]⟩, ⟨48, 3, .cells [.arr 272 2, .nil]⟩, ⟨272, 2, .arr 1 (ints (crU u v))⟩, ⟨368, δ, .arr 1 (ints (tl j (crV u t v s 0)))⟩]) (fun _ _ => True) g (by simp) (by simp [tl_zero, ints_nil]) trivial (fun j δ g2 hj _ => ?_)
        simp [lb_195_10, eL]
        refine ⟨fun h2 => ?_, fun h2 => ?_⟩
        · obtain ⟨x2, y2, n2, o2, d2, m2, e2, f2, w2, _⟩ := pr_ex hk (by omega) h2
          have q1 := a.nn 0 x2 d1 d2
          have q2 := a.lt 0 x2 d1 d2
          have q3 := b.nn 0 y2 m1 m2
          have q4 := b.lt 0 y2 m1 m2
          have q5 : -1000 ≤ tm t 0 x2 * v.length ∧ tm t 0 x2 * v.length ≤ 1000 := by
            have hv6 : v.length ≤ 6 := b.sm.six
            have c6 : v.length = 0 ∨ v.length = 1 ∨ v.length = 2 ∨ v.length = 3 ∨ v.length = 4 ∨ v.length = 5 ∨ v.length = 6 := by omega
            rcases c6 with c | c | c | c | c | c | c <;> rw [c] <;> omega
          have w3 : IntKind.i64.wrap (tm t 0 x2 * v.length) = tm t 0 x2 * v.length := wrap64 (by omega) (by omega)
          have w4 : IntKind.i64.wrap (tm t 0 x2 * v.length + tm s 0 y2) = tm t 0 x2 * v.length + tm s 0 y2 := wrap64 (by omega) (by omega)
          have eV : crV u t v s 0 j = tm t 0 x2 * v.length + tm s 0 y2 := by
            unfold crV; rw [n1, n2, o1, o2]
          simp [e1, f1, w1', w0, e2, f2, w2, d1, d2, m1, m2, hz', hz, a.len, a.rows, b.len, b.rows, h2, w3, w4, eV, tl_succ]
          exact ⟨le_big (by omega), wrap_succ hj (by omega)⟩
        · obtain rfl : j = k := by omega
          exact ⟨le_big (by omega), hik, rfl, orowsD_one⟩
      · simp [lb_195_6, eL, show ((i : Int) + 1 < k) by omega, show ¬ ((k : Int) ≤ (i : Int) + 1) by omega, hne]
        push_cast at e1 f1
        have e1' : ((i : Int) + 1).tdiv v.length = x1 := (Int.tdiv_eq_ediv_of_nonneg (by omega)).trans e1
        refine loopX (tabK_mono _) k (fun j δ => [(9, .arr 368 δ), (10, I64 j)]) (fun j δ => [⟨32, 1, .cells [.nil, .nil]⟩, ⟨48, 3, .cells [.arr 272 2, .arr 704 γ]⟩, ⟨272, 2, .arr 1 (ints (crU u v))⟩, ⟨368, δ, .arr 1 (ints (tl j (crV u t v s (i + 1))))⟩, ⟨704, γ, .arr 1 (orowsD (tr (i + 1) fun x => tl k (crV u t v s x)))⟩]) (fun _ _ => True) g (by simp) (by simp [tl_zero, ints_nil]) trivial (fun j δ g2 hj _ => ?_)
        simp [lb_195_10, eL]
        refine ⟨fun h2 => ?_, fun h2 => ?_⟩
        · obtain ⟨x2, y2, n2, o2, d2, m2, e2, f2, w2, _⟩ := pr_ex hk (by omega) h2
          have q1 := a.nn x1 x2 d1 d2
          have q2 := a.lt x1 x2 d1 d2
          have q3 := b.nn y1 y2 m1 m2
          have q4 := b.lt y1 y2 m1 m2
          have q5 : -1000 ≤ tm t x1 x2 * v.length ∧ tm t x1 x2 * v.length ≤ 1000 := by
            have hv6 : v.length ≤ 6 := b.sm.six
            have c6 : v.length = 0 ∨ v.length = 1 ∨ v.length = 2 ∨ v.length = 3 ∨ v.length = 4 ∨ v.length = 5 ∨ v.length = 6 := by omega
            rcases c6 with c | c | c | c | c | c | c <;> rw [c] <;> omega
          have w3 : IntKind.i64.wrap (tm t x1 x2 * v.length) = tm t x1 x2 * v.length := wrap64 (by omega) (by omega)
          have w4 : IntKind.i64.wrap (tm t x1 x2 * v.length + tm s y1 y2) = tm t x1 x2 * v.length + tm s y1 y2 := wrap64 (by omega) (by omega)
          have eV : crV u t v s (i + 1) j = tm t x1 x2 * v.length + tm s y1 y2 := by
            unfold crV; rw [n1, n2, o1, o2]
          simp [e1', f1, w1', e2, f2, w2, d1, d2, m1, m2, hz', hz, a.len, a.rows, b.len, b.rows, h2, w3, w4, eV, tl_succ]
          exact ⟨le_big (by omega), wrap_succ hj (by omega)⟩
        · obtain rfl : j = k := by omega
          exact ⟨le_big (by omega), hik, wrap64 (by omega) (by omega), tr_succ.symm⟩
    · obtain rfl : i = k := by omega
      rcases i with _ | i
      · exact absurd hk (by have := Nat.mul_pos a.pos b.pos; omega)
      · simp [lb_195_6, eL, crT, hk]
        rintro x (rfl | rfl) <;> simp
noncomputable def fm_crossAlgS : Fam Try.prog := mkFam (X := List Int × List (List Int) × List Int × List (List Int)) 195 true (fun (u, t, v, s) => [AL u t, AL v s]) (fun (u, t, v, s) => (u.length ≤ 1000000) ∧ (BigR t) ∧ (v.length ≤ 1000000) ∧ (BigR s)) (fun (u, t, v, s) => .tup [if VA u t ∧ VA v s ∧ u.length * v.length ≤ 6 then .agg [IO1 (crU u v), RO (crT u t v s)] else .agg [IO1 [], RO []], .bool (decide (VA u t ∧ VA v s ∧ u.length * v.length ≤ 6))]) (by
  rintro ⟨u, t, v, s⟩ ⟨hu, ht, hv, hs⟩
  exact crossAlgS_pc u t v s hu ht hv hs)
@[simp] theorem fm_crossAlgS_id : fm_crossAlgS.id = 195 := rfl
@[simp] theorem fm_crossAlgS_fresh : fm_crossAlgS.fresh = true := rfl
@[simp] theorem fm_crossAlgS_look (u : List Int) (t : List (List Int)) (v : List Int) (s : List (List Int)) (hu : u.length ≤ 1000000) (ht : BigR t) (hv : v.length ≤ 1000000) (hs : BigR s) : fm_crossAlgS.look [AL u t, AL v s] = some (.tup [if VA u t ∧ VA v s ∧ u.length * v.length ≤ 6 then .agg [IO1 (crU u v), RO (crT u t v s)] else .agg [IO1 [], RO []], .bool (decide (VA u t ∧ VA v s ∧ u.length * v.length ≤ 6))]) :=
  lookF_of (X := List Int × List (List Int) × List Int × List (List Int)) (args := fun (u, t, v, s) => [AL u t, AL v s]) (pre := fun (u, t, v, s) => (u.length ≤ 1000000) ∧ (BigR t) ∧ (v.length ≤ 1000000) ∧ (BigR s)) (val := fun (u, t, v, s) => .tup [if VA u t ∧ VA v s ∧ u.length * v.length ≤ 6 then .agg [IO1 (crU u v), RO (crT u t v s)] else .agg [IO1 [], RO []], .bool (decide (VA u t ∧ VA v s ∧ u.length * v.length ≤ 6))]) (by
  rintro ⟨u, t, v, s⟩ ⟨u', t', v', s'⟩ h
  simp at h
  try simp only [and_assoc] at h
  obtain ⟨rfl, rfl, rfl, rfl⟩ := h
  rfl) (u, t, v, s) ⟨hu, ht, hv, hs⟩
attribute [irreducible] fm_crossAlgS
end Go.PS
end

section
-- Contracts: all algebras of a chain, of the reference.
set_option maxRecDepth 100000
set_option linter.unusedVariables false
set_option linter.unusedSimpArgs false
namespace Go.PS
open Go.Proofs

/-- Tables as a list. -/
def tabsD (ts : List (List (List Int))) : List D := ts.map RL
abbrev TL (ts : List (List (List Int))) : D := .list 1 (tabsD ts)
@[simp] theorem tabsD_length {ts : List (List (List Int))} : (tabsD ts).length = ts.length := by simp [tabsD]
@[simp] theorem tabsD_append {a b : List (List (List Int))} : tabsD a ++ tabsD b = tabsD (a ++ b) := by simp [tabsD]
@[simp] theorem tabsD_imm {n : Nat} {ts : List (List (List Int))} : (tabsD ts).map (imm n) = tabsD ts := by cases n <;> simp [tabsD, Function.comp_def]
theorem tabsD_nil : tabsD [] = [] := rfl
theorem tabsD_one {t : List (List Int)} : [RL t] = tabsD [t] := rfl

theorem orowsD_ge {r : List (List Int)} {x : Nat} (h' : x < (orowsD r).length) : (orowsD r)[x] = IO1 (gr r x) := by
  have h : x < r.length := by simpa using h'
  have := orowsD_get h
  rw [List.getElem?_eq_getElem h'] at this
  exact Option.some.inj this

/-- A table out of a list. -/
def gt (ts : List (List (List Int))) (n : Nat) : List (List Int) := ts[n]?.getD []
@[simp] theorem idxK_tabs {ts : List (List (List Int))} {n : Int} {K : D → Prop} : idxK (tabsD ts) n K ↔ 0 ≤ n ∧ n < ts.length ∧ K (RL (gt ts n.toNat)) := by
  have e : gt ts n.toNat = ts.getD n.toNat default := by unfold gt; rw [List.getD_eq_getElem?_getD]; rfl
  rw [e]; exact idxK_map

/-- A square table. -/
structure SQ (n : Nat) (t : List (List Int)) : Prop where
  len : t.length = n
  rows : ∀ x, x < n → (gr t x).length = n
theorem SQ.big {n : Nat} {t : List (List Int)} (s : SQ n t) (hn : n ≤ 60) : BigR t := by
  refine ⟨by unfold Big; rw [s.len]; omega, fun r hr => ?_⟩
  obtain ⟨i, hi, rfl⟩ := List.mem_iff_getElem.1 hr
  have := s.rows i (by rw [← s.len]; exact hi)
  simp [gr, List.getElem?_eq_getElem hi] at this
  unfold Big; omega
theorem gr_set {t : List (List Int)} {x z : Nat} {r : List Int} : gr (t.set x r) z = if x = z ∧ x < t.length then r else gr t z := by
  unfold gr
  rw [List.getElem?_set]
  by_cases h : x = z
  · subst h
    by_cases h2 : x < t.length
    · simp [h2]
    · simp [h2, List.getElem?_eq_none (Nat.le_of_not_lt h2)]
  · simp [h]
theorem SQ.set {n : Nat} {t : List (List Int)} (s : SQ n t) {x y : Nat} {z : Int} : SQ n (set2 t x y z) := by
  refine ⟨by simp [set2, s.len], fun w hw => ?_⟩
  unfold set2
  rw [gr_set]
  split
  · rename_i h
    rw [List.length_set, h.1]
    exact s.rows w hw
  · exact s.rows w hw

/-- What the loop over the products has found before one. -/
def filA (n k : Nat) (t : List (List Int)) (x y i : Nat) : List (List (List Int)) := (List.range i).flatMap fun (z : Nat) => if tm t (x - 1) y ≤ z ∧ tm t x (y - 1) ≤ z then filM n k (set2 (set2 t x y z) y x z) x (y + 1) else []
theorem filA_succ {n k : Nat} {t : List (List Int)} {x y i : Nat} : filA n k t x y (i + 1) = filA n k t x y i ++ (if tm t (x - 1) y ≤ i ∧ tm t x (y - 1) ≤ i then filM n k (set2 (set2 t x y i) y x i) x (y + 1) else []) := by
  simp [filA, List.range_succ, List.flatMap_append]
theorem pow5 {a b : Nat} (h : a ≤ b) : 5 ^ a ≤ 5 ^ b := Nat.pow_le_pow_right (by omega) h
theorem filA_len' {n k : Nat} {t : List (List Int)} {x y B : Nat} (hB : ∀ t', (filM n k t' x (y + 1)).length ≤ B) : ∀ i, (filA n k t x y i).length ≤ i * B
  | 0 => by simp [filA]
  | i + 1 => by
    rw [filA_succ, List.length_append, Nat.succ_mul]
    have ih := filA_len' hB (t := t) i
    split
    · have := hB (set2 (set2 t x y i) y x i); omega
    · simp; omega
theorem filM_len {n : Nat} (hn : n ≤ 5) : ∀ (k : Nat) (t : List (List Int)) (x y : Nat), x ≤ y → y < n → (filM n k t x y).length ≤ 5 ^ ((n - 1 - y) + 4 * (n - 1 - x))
  | 0, t, x, y, _, _ => by simp [filM]
  | k + 1, t, x, y, hxy, hy => by
    have hp : 1 ≤ 5 ^ ((n - 1 - y) + 4 * (n - 1 - x)) := Nat.pow_pos (by omega)
    by_cases c1 : x = n - 1
    · rw [filM, if_pos c1]
      split <;> simp <;> omega
    · by_cases c2 : y = n - 1
      · rw [filM, if_neg c1, if_pos c2]
        exact Nat.le_trans (filM_len hn k t (x + 1) (x + 1) (by omega) (by omega)) (pow5 (by omega))
      · rw [filM, if_neg c1, if_neg c2, Nat.min_eq_left hxy]
        have h1 := filA_len' (k := k) (t := t) (B := 5 ^ ((n - 1 - (y + 1)) + 4 * (n - 1 - x))) (fun t' => filM_len hn k t' x (y + 1) (by omega) (by omega)) (x + 1)
        refine Nat.le_trans h1 (Nat.le_trans (Nat.mul_le_mul_right _ (show x + 1 ≤ 5 by omega)) ?_)
        rw [show (n - 1 - y) + 4 * (n - 1 - x) = ((n - 1 - (y + 1)) + 4 * (n - 1 - x)) + 1 by omega, Nat.pow_succ, Nat.mul_comm]
        exact Nat.le_refl _
theorem filA_big {n : Nat} (hn : n ≤ 5) {k : Nat} {t : List (List Int)} {x y i : Nat} (h1 : 1 ≤ x) (hxy : x ≤ y) (hy : y + 1 < n) (hi : i ≤ 5) : (filA n k t x y i).length ≤ 1000000000000 := by
  have h1 := filA_len' (k := k) (t := t) (B := 5 ^ 15) (fun t' => Nat.le_trans (filM_len hn k t' x (y + 1) (by omega) (by omega)) (pow5 (by omega))) i
  have : i * 5 ^ 15 ≤ 5 * 5 ^ 15 := Nat.mul_le_mul_right _ hi
  have e : 5 * 5 ^ 15 = 152587890625 := by decide
  omega

set_option maxHeartbeats 2000000 in
theorem fill_aux {n : Nat} (hn : n ≤ 5) : ∀ (k : Nat) (t : List (List Int)) (x y : Nat), SQ n t → 1 ≤ x → x ≤ y → y < n → (n - 1 - x) * 8 + (n - 1 - y) < k →
    PC Try.prog 203 [I64 n, RL t, I64 x, I64 y] none false (fun r _ => r = TL (filM n k t x y))
  | 0, t, x, y, _, _, _, _, h => by omega
  | k + 1, t, x, y, sq, h1, hxy, hy, hk => by
    obtain ⟨fm, hid, hfr, hlk'⟩ := famE (P := Try.prog) (X := (List (List Int)) × Nat × Nat) 203 false (fun q => [I64 n, RL q.1, I64 q.2.1, I64 q.2.2]) (fun q => SQ n q.1 ∧ 1 ≤ q.2.1 ∧ q.2.1 ≤ q.2.2 ∧ q.2.2 < n ∧ (n - 1 - q.2.1) * 8 + (n - 1 - q.2.2) < k) (fun q => TL (filM n k q.1 q.2.1 q.2.2)) (by
      rintro ⟨a, b, c⟩ ⟨a', b', c'⟩ h
      simp at h
      obtain ⟨rfl, hb, hc⟩ := h
      obtain rfl : b = b' := by omega
      obtain rfl : c = c' := by omega
      rfl) (fun q hq => fill_aux hn k q.1 q.2.1 q.2.2 hq.1 hq.2.1 hq.2.2.1 hq.2.2.2.1 hq.2.2.2.2)
    have hlk : ∀ (t : List (List Int)) (x y : Nat), SQ n t → 1 ≤ x → x ≤ y → y < n → (n - 1 - x) * 8 + (n - 1 - y) < k → fm.look [I64 n, RL t, I64 x, I64 y] = some (TL (filM n k t x y)) := fun t x y a b c d e => hlk' (t, x, y) ⟨a, b, c, d, e⟩
    have w1 : IntKind.i64.wrap ((n : Int) - 1) = n - 1 := wrap64 (by omega) (by omega)
    have w2 : IntKind.i64.wrap ((x : Int) + 1) = x + 1 := wrap64 (by omega) (by omega)
    have w3 : IntKind.i64.wrap ((y : Int) + 1) = y + 1 := wrap64 (by omega) (by omega)
    have w4 : IntKind.i64.wrap ((x : Int) - 1) = ((x - 1 : Nat) : Int) := by rw [wrap64 (by omega) (by omega)]; omega
    have w5 : IntKind.i64.wrap ((y : Int) - 1) = ((y - 1 : Nat) : Int) := by rw [wrap64 (by omega) (by omega)]; omega
    refine pcT [fm, fm_chainS, fm_copyTabS, fm_validAlgebraS] fok_203 ?_
    by_cases c1 : x = n - 1
    · have e1 : filM n (k + 1) t x y = if vaB (chL n) t then [t] else [] := by rw [filM, if_pos c1]
      have lc := fm_chainS_look n (by omega) (by omega)
      have lt := fm_copyTabS_look t (sq.big (by omega))
      have lv := fm_validAlgebraS_look (chL n) t (by unfold Big; rw [chL_length]; omega) (sq.big (by omega))
      rw [decide_VA] at lv
      rw [e1]
      cases hv : vaB (chL n) t
      · simp [fa_203, w1, show ((x : Int) = n - 1) by omega, lc, lt, lv, hv, hid]
        rfl
      · simp [fa_203, w1, show ((x : Int) = n - 1) by omega, lc, lt, lv, hv, hid]
        rfl
    · by_cases c2 : y = n - 1
      · have e1 : filM n (k + 1) t x y = filM n k t (x + 1) (x + 1) := by rw [filM, if_neg c1, if_pos c2]
        have l1 := hlk t (x + 1) (x + 1) sq (by omega) (by omega) (by omega) (by omega)
        push_cast at l1
        rw [e1]
        simp [fa_203, w1, w2, hid, hfr, show ¬ ((x : Int) = n - 1) by omega, show ((y : Int) = n - 1) by omega, l1]
      · have e1 : filM n (k + 1) t x y = filA n k t x y (x + 1) := by rw [filM, if_neg c1, if_neg c2, Nat.min_eq_left hxy]; rfl
        rw [e1]
        simp [fa_203, w1, show ¬ ((x : Int) = n - 1) by omega, show ¬ ((y : Int) = n - 1) by omega]
        refine loopX (tabK_mono _) (x + 1) (fun i γ => [(10, .arr 312 γ), (11, I64 i)]) (fun i γ => [⟨312, γ, .arr 1 (tabsD (filA n k t x y i))⟩]) (fun _ _ => True) 1 (by simp) (by simp [filA, tabsD]) trivial (fun i γ g hi _ => ?_)
        simp [lb_203_10]
        refine ⟨fun h => ?_, fun h => ?_⟩
        · have hlt : i < x + 1 := by split at h <;> omega
          have hg := filA_succ (n := n) (k := k) (t := t) (x := x) (y := y) (i := i)
          refine cutW (tabK_mono _) [(68, .bool (decide (tm t (x - 1) y ≤ i ∧ tm t x (y - 1) ≤ i)))] (by
            rcases Int.lt_or_le i (tm t (x - 1) y) with c | c
            · simp [w4, sq.len, sq.rows, show x - 1 < n by omega, hy, show ¬ (tm t (x - 1) y ≤ (i : Int)) by omega]
            · simp [w4, w5, sq.len, sq.rows, show x - 1 < n by omega, hy, c, show x < n by omega, show y - 1 < n by omega]) ?_
          cases hc : decide (tm t (x - 1) y ≤ i ∧ tm t x (y - 1) ≤ i)
          · rw [if_neg (of_decide_eq_false hc), List.append_nil] at hg
            simp [hg]
            exact ⟨hlt, wrap64 (by omega) (by omega)⟩
          · rw [if_pos (of_decide_eq_true hc)] at hg
            simp [hg]
            refine callO1 fm_copyTabS (by simp) (by simp) (v := RO t) (by simpa using fm_copyTabS_look t (sq.big (by omega))) ?_
            have hs1 : t.set x ((gr t x).set y (i : Int)) = set2 t x y i := rfl
            have hs2 : (set2 t x y i).set y ((gr (set2 t x y i) y).set x (i : Int)) = set2 (set2 t x y i) y x i := rfl
            have q1 : SQ n (set2 t x y i) := sq.set
            have q2 : SQ n (set2 (set2 t x y i) y x i) := q1.set
            have l1 := hlk (set2 (set2 t x y i) y x i) x (y + 1) q2 h1 (by omega) (by omega) (by omega)
            push_cast at l1
            have hb := filA_big hn (k := k) (t := t) (x := x) (y := y) (i := i + 1) h1 hxy (by omega) (by omega)
            rw [hg, List.length_append] at hb
            simp [sq.len, sq.rows, q1.len, q1.rows, show x < n by omega, hy, orowsD_ge, rowAt, rowB, hs1, hs2, w3, hid, hfr, l1]
            exact ⟨le_big (by omega), hlt, _, ⟨rfl, wrap64 (by omega) (by omega)⟩, rfl, by rw [hg]⟩
        · obtain rfl : i = x + 1 := by omega
          rfl
theorem fillS_pc (n : Int) (t : List (List Int)) (h2 : 2 < n) (hn : n ≤ 5) (sq : SQ n.toNat t) : PC Try.prog 203 [I64 n, RL t, I64 1, I64 1] none false (fun r _ => r = TL (filM n.toNat 40 t 1 1)) := by
  obtain ⟨n, rfl⟩ := Int.eq_ofNat_of_zero_le (show 0 ≤ n by omega)
  exact fill_aux (by omega) 40 t 1 1 sq (by omega) (by omega) (by omega) (by omega)
noncomputable def fm_fillS : Fam Try.prog := mkFam (X := Int × List (List Int)) 203 false (fun (n, t) => [I64 n, RL t, I64 1, I64 1]) (fun (n, t) => (2 < n) ∧ (n ≤ 5) ∧ (SQ n.toNat t)) (fun (n, t) => TL (filM n.toNat 40 t 1 1)) (by
  rintro ⟨n, t⟩ ⟨h2, hn, sq⟩
  exact fillS_pc n t h2 hn sq)
@[simp] theorem fm_fillS_id : fm_fillS.id = 203 := rfl
@[simp] theorem fm_fillS_fresh : fm_fillS.fresh = false := rfl
@[simp] theorem fm_fillS_look (n : Int) (t : List (List Int)) (h2 : 2 < n) (hn : n ≤ 5) (sq : SQ n.toNat t) : fm_fillS.look [I64 n, RL t, I64 1, I64 1] = some (TL (filM n.toNat 40 t 1 1)) :=
  lookF_of (X := Int × List (List Int)) (args := fun (n, t) => [I64 n, RL t, I64 1, I64 1]) (pre := fun (n, t) => (2 < n) ∧ (n ≤ 5) ∧ (SQ n.toNat t)) (val := fun (n, t) => TL (filM n.toNat 40 t 1 1)) (by
  rintro ⟨n, t⟩ ⟨n', t'⟩ h
  simp at h
  try simp only [and_assoc] at h
  obtain ⟨rfl, rfl⟩ := h
  rfl) (n, t) ⟨h2, hn, sq⟩
attribute [irreducible] fm_fillS

/-- Algebras as a list. -/
def asD (l : List (List Int × List (List Int))) : List D := l.map fun p => AL p.1 p.2
abbrev AA (l : List (List Int × List (List Int))) : D := .list 2 (asD l)
@[simp] theorem asD_length {l : List (List Int × List (List Int))} : (asD l).length = l.length := by simp [asD]
@[simp] theorem asD_imm {n : Nat} {l : List (List Int × List (List Int))} : (asD l).map (imm (n + 1)) = asD l := by simp [asD, imm, Function.comp_def]
@[simp] theorem asD_append {a b : List (List Int × List (List Int))} : asD a ++ asD b = asD (a ++ b) := by simp [asD]
theorem asD_push {a : List (List Int × List (List Int))} {u : List Int} {t : List (List Int)} : asD a ++ [AL u t] = asD (a ++ [(u, t)]) := by simp [asD]

theorem gi_set {l : List Int} {i j : Nat} {v : Int} : gi (l.set i v) j = if i = j ∧ i < l.length then v else gi l j := by
  unfold gi
  rw [List.getElem?_set]
  by_cases h : i = j
  · subst h
    by_cases h2 : i < l.length
    · simp [h2]
    · simp [h2, List.getElem?_eq_none (Nat.le_of_not_lt h2)]
  · simp [h]
/-- A row of the first table. -/
def rowJ (n x j : Nat) : List Int := tl n fun y => if y < j then (y : Int) else if y = n - 1 then (x : Int) else 0
def rowC (n x : Nat) : List Int := tl n fun y => if x = n - 1 then (y : Int) else if y = n - 1 then (x : Int) else 0
theorem gi_replicate {n j : Nat} : gi (List.replicate n 0) j = 0 := by
  unfold gi
  rw [List.getElem?_replicate]
  split <;> rfl
theorem rowJ_zero {n x : Nat} (h : 1 ≤ n) : (List.replicate n (0 : Int)).set (n - 1) x = rowJ n x 0 := by
  refine gi_ext (by simp [rowJ]) (fun j hj => ?_)
  have hj : j < n := by simpa using hj
  rw [gi_set, gi_replicate, rowJ, gi_tl hj]
  by_cases e : j = n - 1
  · simp [e]; omega
  · simp [e, show ¬ n - 1 = j by omega]
theorem rowJ_succ {n x j : Nat} (h : j < n) : (rowJ n x j).set j (j : Int) = rowJ n x (j + 1) := by
  refine gi_ext (by simp [rowJ]) (fun y hy => ?_)
  have hy : y < n := by simpa [rowJ] using hy
  rw [gi_set, rowJ, rowJ, gi_tl hy, gi_tl hy]
  by_cases e : j = y
  · subst e; simp [h]
  · by_cases c : y < j
    · simp [e, c, show y < j + 1 by omega]
    · simp [e, c, show ¬ y < j + 1 by omega]
theorem rowJ_top {n x : Nat} (h : 1 ≤ n) (hx : x = n - 1) : rowJ n x n = rowC n x := by
  refine gi_ext (by simp [rowJ, rowC]) (fun y hy => ?_)
  have hy : y < n := by simpa [rowJ] using hy
  rw [rowJ, rowC, gi_tl hy, gi_tl hy]
  simp [hx, hy]
theorem rowJ_bot {n x : Nat} (hx : ¬ x = n - 1) : rowJ n x 0 = rowC n x := by
  unfold rowJ rowC
  simp [hx]
theorem tab0_eq {n : Nat} : tab0 n = tr n (rowC n) := rfl
theorem tab0_sq {n : Nat} : SQ n (tab0 n) := ⟨by simp [tab0], fun x hx => by rw [tab0, gr_tr hx]; simp⟩

theorem chT_len {n : Nat} (hn : n ≤ 5) : (chT n).length ≤ 1000000000000 := by
  unfold chT
  split
  · have := Nat.le_trans (filM_len hn 40 (tab0 n) 1 1 (by omega) (by omega)) (pow5 (show (n - 1 - 1) + 4 * (n - 1 - 1) ≤ 15 by omega))
    have e : 5 ^ 15 = 30517578125 := by decide
    omega
  · simp

set_option maxHeartbeats 2000000 in
theorem chains_pc (n : Nat) (h1 : 1 ≤ n) (h5 : n ≤ 5) (hc : n ≤ 2) : PC Try.prog 200 [I64 n] none false (fun r _ => r = AA ((chT n).map fun t => (chL n, t))) := by
  have w1 : IntKind.i64.wrap ((n : Int) - 1) = ((n - 1 : Nat) : Int) := by rw [wrap64 (by omega) (by omega)]; omega
  refine pcT [fm_chainS, fm_fillS] fok_200 ?_
  simp [fa_200]
  refine loopX (tabK_mono _) n (fun i γ => [(3, .arr 80 γ), (4, I64 i)]) (fun i γ => [⟨80, γ, .arr 1 (orowsD (tr i (rowC n)))⟩]) (fun _ _ => True) 1 (by simp) (by simp [tr_zero, orowsD]) trivial (fun i γ g hi _ => ?_)
  simp [lb_200_3, w1, le_big (show n ≤ 1099511627776 by omega), show n - 1 < n by omega]
  refine ⟨fun h => ?_, fun h => ?_⟩
  · refine ⟨fun c => ?_, fun c => ?_⟩
    · refine loopX (tabK_mono _) n (fun j δ => [(6, I64 j)]) (fun j δ => [⟨80, γ, .arr 1 (orowsD (tr i (rowC n)))⟩, ⟨136, g, .arr 1 (ints (rowJ n i j))⟩]) (fun _ _ => True) 1 (by simp) (by simp [rowJ_zero h1]) trivial (fun j δ g2 hj _ => ?_)
      simp [lb_200_9]
      refine ⟨fun h2 => ?_, fun h2 => ?_⟩
      · simp [h2, rowJ_succ h2]
        exact ⟨by simpa [rowJ] using h2, wrap64 (by omega) (by omega)⟩
      · obtain rfl : j = n := by omega
        exact ⟨le_big (by omega), h, g2, ⟨rfl, wrap64 (by omega) (by omega)⟩, rfl, by rw [rowJ_top h1 (by omega), ← tr_succ]⟩
    · have e := rowJ_zero (x := i) h1
      rw [e, rowJ_bot (by omega)]
      exact ⟨le_big (by omega), h, g + 1, ⟨rfl, wrap64 (by omega) (by omega)⟩, rfl, tr_succ.symm⟩
  · obtain rfl : i = n := by omega
    rw [← tab0_eq]
    have hn5 : i ≤ 5 := h5
    refine ⟨fun h => by omega, fun _ => ?_⟩
    have hT : D.list 1 [D.list 1 (rowsD (tab0 i))] = TL (chT i) := by simp [chT, show ¬ 2 < i by omega, tabsD]
    rw [hT]
    have hl : (chT i).length ≤ 1000000000000 := chT_len hn5
    have lc := fm_chainS_look i (by omega) (by omega)
    rw [Int.toNat_natCast] at lc
    obtain ⟨ms, hms⟩ : ∃ ms, (chT i).map (fun t => (chL i, t)) = ms := ⟨_, rfl⟩
    have hml : ms.length = (chT i).length := by rw [← hms]; simp
    have hmj : ∀ j, j < (chT i).length → ms.take (j + 1) = ms.take j ++ [(chL i, gt (chT i) j)] := fun j hj => by
      rw [List.take_succ_eq_append_getElem (by omega)]
      subst hms
      simp [gt, List.getElem?_eq_getElem hj]
    rw [hms]
    refine loopX (tabK_mono _) (chT i).length (fun j γ => [(8, .arr 376 γ), (9, I64 j)]) (fun j γ => [⟨376, γ, .arr 2 (asD (ms.take j))⟩]) (fun _ _ => True) _ (by simp; rfl) (by simp [asD]) trivial (fun j γ2 g2 hj _ => ?_)
    simp [lb_200_18]
    refine ⟨fun h2 => ?_, fun h2 => ?_⟩
    · simp [lc, h2, hmj j h2, asD_push]
      exact ⟨le_big (by omega), wrap64 (by omega) (by omega)⟩
    · rw [List.take_of_length_le (by omega)]
set_option maxHeartbeats 2000000 in
theorem chainsb_pc (n : Nat) (h1 : 1 ≤ n) (h5 : n ≤ 5) (hc : 2 < n) : PC Try.prog 200 [I64 n] none false (fun r _ => r = AA ((chT n).map fun t => (chL n, t))) := by
  have w1 : IntKind.i64.wrap ((n : Int) - 1) = ((n - 1 : Nat) : Int) := by rw [wrap64 (by omega) (by omega)]; omega
  refine pcT [fm_chainS, fm_fillS] fok_200b ?_
  simp [fa_200b]
  refine loopX (tabK_mono _) n (fun i γ => [(3, .arr 80 γ), (4, I64 i)]) (fun i γ => [⟨80, γ, .arr 1 (orowsD (tr i (rowC n)))⟩]) (fun _ _ => True) 1 (by simp) (by simp [tr_zero, orowsD]) trivial (fun i γ g hi _ => ?_)
  simp [lb_200b_3, w1, le_big (show n ≤ 1099511627776 by omega), show n - 1 < n by omega]
  refine ⟨fun h => ?_, fun h => ?_⟩
  · refine ⟨fun c => ?_, fun c => ?_⟩
    · refine loopX (tabK_mono _) n (fun j δ => [(6, I64 j)]) (fun j δ => [⟨80, γ, .arr 1 (orowsD (tr i (rowC n)))⟩, ⟨136, g, .arr 1 (ints (rowJ n i j))⟩]) (fun _ _ => True) 1 (by simp) (by simp [rowJ_zero h1]) trivial (fun j δ g2 hj _ => ?_)
      simp [lb_200b_9]
      refine ⟨fun h2 => ?_, fun h2 => ?_⟩
      · simp [h2, rowJ_succ h2]
        exact ⟨by simpa [rowJ] using h2, wrap64 (by omega) (by omega)⟩
      · obtain rfl : j = n := by omega
        exact ⟨le_big (by omega), h, g2, ⟨rfl, wrap64 (by omega) (by omega)⟩, rfl, by rw [rowJ_top h1 (by omega), ← tr_succ]⟩
    · have e := rowJ_zero (x := i) h1
      rw [e, rowJ_bot (by omega)]
      exact ⟨le_big (by omega), h, g + 1, ⟨rfl, wrap64 (by omega) (by omega)⟩, rfl, tr_succ.symm⟩
  · obtain rfl : i = n := by omega
    rw [← tab0_eq]
    have hn5 : i ≤ 5 := h5
    refine ⟨fun _ => ?_, fun h => by omega⟩
    have l1 := fm_fillS_look i (tab0 i) (by omega) (by omega) tab0_sq
    have eT : filM i 40 (tab0 i) 1 1 = chT i := by rw [chT, if_pos hc]
    rw [Int.toNat_natCast, eT] at l1
    simp [l1]
    have hl : (chT i).length ≤ 1000000000000 := chT_len hn5
    have lc := fm_chainS_look i (by omega) (by omega)
    rw [Int.toNat_natCast] at lc
    obtain ⟨ms, hms⟩ : ∃ ms, (chT i).map (fun t => (chL i, t)) = ms := ⟨_, rfl⟩
    have hml : ms.length = (chT i).length := by rw [← hms]; simp
    have hmj : ∀ j, j < (chT i).length → ms.take (j + 1) = ms.take j ++ [(chL i, gt (chT i) j)] := fun j hj => by
      rw [List.take_succ_eq_append_getElem (by omega)]
      subst hms
      simp [gt, List.getElem?_eq_getElem hj]
    rw [hms]
    refine loopX (tabK_mono _) (chT i).length (fun j γ => [(8, .arr 376 γ), (9, I64 j)]) (fun j γ => [⟨376, γ, .arr 2 (asD (ms.take j))⟩]) (fun _ _ => True) _ (by simp; rfl) (by simp [asD]) trivial (fun j γ2 g2 hj _ => ?_)
    simp [lb_200b_18]
    refine ⟨fun h2 => ?_, fun h2 => ?_⟩
    · simp [lc, h2, hmj j h2, asD_push]
      exact ⟨le_big (by omega), wrap64 (by omega) (by omega)⟩
    · rw [List.take_of_length_le (by omega)]

theorem chainsS_pc (n : Int) (h1 : 1 ≤ n) (h5 : n ≤ 5) : PC Try.prog 200 [I64 n] none false (fun r _ => r = AA ((chT n.toNat).map fun t => (chL n.toNat, t))) := by
  obtain ⟨n, rfl⟩ := Int.eq_ofNat_of_zero_le (show 0 ≤ n by omega)
  rcases Nat.lt_or_ge 2 n with c | c
  · exact chainsb_pc n (by omega) (by omega) c
  · exact chains_pc n (by omega) (by omega) c
noncomputable def fm_chainsS : Fam Try.prog := mkFam (X := Int) 200 false (fun n => [I64 n]) (fun n => (1 ≤ n) ∧ (n ≤ 5)) (fun n => AA ((chT n.toNat).map fun t => (chL n.toNat, t))) (by
  rintro n ⟨h1, h5⟩
  exact chainsS_pc n h1 h5)
@[simp] theorem fm_chainsS_id : fm_chainsS.id = 200 := rfl
@[simp] theorem fm_chainsS_fresh : fm_chainsS.fresh = false := rfl
@[simp] theorem fm_chainsS_look (n : Int) (h1 : 1 ≤ n) (h5 : n ≤ 5) : fm_chainsS.look [I64 n] = some (AA ((chT n.toNat).map fun t => (chL n.toNat, t))) :=
  lookF_of (X := Int) (args := fun n => [I64 n]) (pre := fun n => (1 ≤ n) ∧ (n ≤ 5)) (val := fun n => AA ((chT n.toNat).map fun t => (chL n.toNat, t))) (by
  intro n n' h
  simp at h
  subst h
  rfl) n ⟨h1, h5⟩
attribute [irreducible] fm_chainsS
end Go.PS
end

section
-- All algebras of small chains: what they are, asked by a computation.
set_option maxRecDepth 100000
set_option linter.unusedVariables false
set_option linter.unusedSimpArgs false
namespace Go.PS
theorem ch3 : (chT 3).length = 2 := by decide +kernel
theorem ch4 : (chT 4).length = 6 := by decide +kernel
theorem ch5 : (chT 5).length = 22 := by decide +kernel
theorem ch1 : (chT 1).length = 1 := by decide
theorem ch2 : (chT 2).length = 1 := by decide
theorem chT_ne (k : Nat) (h1 : 1 ≤ k) (h5 : k ≤ 5) : chT k ≠ [] := by
  intro e
  have c : k = 1 ∨ k = 2 ∨ k = 3 ∨ k = 4 ∨ k = 5 := by omega
  rcases c with rfl | rfl | rfl | rfl | rfl
  · have := ch1; rw [e] at this; cases this
  · have := ch2; rw [e] at this; cases this
  · have := ch3; rw [e] at this; cases this
  · have := ch4; rw [e] at this; cases this
  · have := ch5; rw [e] at this; cases this
theorem mem_filM {n : Nat} : ∀ {k : Nat} {t0 t : List (List Int)} {x y : Nat}, t ∈ filM n k t0 x y → vaB (chL n) t = true
  | 0, t0, t, x, y, h => by simp [filM] at h
  | k + 1, t0, t, x, y, h => by
    rw [filM] at h
    split at h
    · split at h
      · rename_i hv
        simp at h
        rw [h]; exact hv
      · cases h
    · split at h
      · exact mem_filM h
      · obtain ⟨z, _, h⟩ := List.mem_flatMap.1 h
        split at h
        · exact mem_filM h
        · cases h
theorem chT_va {n : Nat} (h1 : 1 ≤ n) {t : List (List Int)} (h : t ∈ chT n) : VA (chL n) t := by
  rw [chT] at h
  split at h
  · exact vaB_iff.1 (mem_filM h)
  · have c : n = 1 ∨ n = 2 := by omega
    simp at h
    subst h
    rcases c with rfl | rfl
    · exact vaB_iff.1 (by decide +kernel)
    · exact vaB_iff.1 (by decide +kernel)
end Go.PS
end

section
-- Contracts: algebras that are drawn.
set_option maxRecDepth 100000
set_option linter.unusedVariables false
set_option linter.unusedSimpArgs false
namespace Go.PS
open Go.Proofs

abbrev Alg := List Int × List (List Int)
@[simp] theorem idxK_as {l : List Alg} {n : Int} {K : D → Prop} : idxK (asD l) n K ↔ 0 ≤ n ∧ n < l.length ∧ K (AL (l.getD n.toNat default).1 (l.getD n.toNat default).2) := idxK_map (f := fun p : Alg => AL p.1 p.2)

theorem chL_sm {n : Nat} (h : n ≤ 6) : Sm (chL n) := by
  refine ⟨by rw [chL_length]; exact h, fun x hx => ?_⟩
  rw [chL_length] at hx ⊢
  rw [chL, gi_tl hx]
  have h1 : (0 : Int) < 2 ^ x := Int.pow_pos (by omega)
  have h2 : (2 : Int) ^ x ≤ 2 ^ n := by
    have := Nat.pow_le_pow_right (n := 2) (by omega) (Nat.le_of_lt hx)
    exact_mod_cast this
  omega
theorem sumT_sh {n : Nat} (h1 : 1 ≤ n) (h : n ≤ 6) : SH (chL n) (sumT n) := by
  have hg : ∀ x y, x < n → y < n → tm (sumT n) x y = sumV n x y := fun x y hx hy => by rw [tm, sumT, gr_tr hx, gi_tl hy]
  refine ⟨chL_sm h, by rw [chL_length]; exact h1, by simp [sumT, chL_length], fun x hx => ?_, fun x y hx hy => ?_, fun x y hx hy => ?_⟩
  · rw [chL_length] at hx ⊢
    rw [sumT, gr_tr hx]; simp
  · rw [chL_length] at hx hy
    rw [hg x y hx hy]; unfold sumV; omega
  · rw [chL_length] at hx hy
    rw [hg x y hx hy]; unfold sumV; omega
theorem crU_sm {a b : List Int} (h : a.length * b.length ≤ 6) : Sm (crU a b) := by
  refine ⟨by simp [crU]; exact h, fun x hx => ?_⟩
  simp only [crU, tl_length] at hx ⊢
  rw [gi_tl hx]
  exact crR_rng _

/-- An algebra as it is drawn, and how many numbers have been drawn. -/
def aofM (b : List Int) (p : Nat) (m : Int) : Alg × Nat :=
  let n := (1 + pkM b p m).toNat
  let c := pkM b (p + 1) 6
  if c = 0 then ((chL n, sumT n), p + 2)
  else if c = 1 then ((chL n, mtT (chL n)), p + 2)
  else if c = 2 ∧ 2 < n then (let k := (2 + pkM b (p + 2) (n - 2)).toNat; ((skU (chL k) (chL (n - k + 1)), skT (chL k) (sumT k) (chL (n - k + 1)) (sumT (n - k + 1))), p + 3))
  else if c = 3 ∧ 4 ≤ m then (let w := crU (chL 2) (chL (2 + pkM b (p + 2) (min (m / 2 - 1) 2)).toNat); ((w, mtT w), p + 3))
  else (let k := min n 5; ((((chT k).map fun t => (chL k, t)).getD (pkM b (p + 2) (chT k).length).toNat default), p + 3))

set_option maxHeartbeats 2000000 in
theorem algOf_pc (b : List Int) (p : Nat) (m : Int) (hb : BB b) (hp : p ≤ 1000000) (h1 : 1 ≤ m) (h6 : m ≤ 6) (hp2 : p ≤ 990000) : PC Try.prog 181 (.ptr 0 0 0 :: [I64 m]) (some (RS b p)) false (fun r c => imm 5 r = imm 5 (AL (aofM b p m).1.1 (aofM b p m).1.2) ∧ c = (RS b ((aofM b p m).2))) := by
  have r0 := pkM_rng hb (p := p) (by omega) h1
  have r1 := pkM_rng hb (p := p + 1) (by omega) (n := 6) (by omega)
  obtain ⟨n, hn⟩ : ∃ n : Nat, 1 + pkM b p m = n := ⟨(1 + pkM b p m).toNat, by omega⟩
  have w1 : IntKind.i64.wrap (n : Int) = n := wrap64 (by omega) (by omega)
  have hn1 : 1 ≤ n := by omega
  have hn6 : n ≤ 6 := by omega
  have a1 := fm_sumS_look n (by omega) (by omega)
  have a2 := fm_chainS_look n (by omega) (by omega)
  have a3 := fm_mtAlgS_look (chL n) (chL_sm hn6)
  rw [Int.toNat_natCast] at a1 a2
  refine pcW [fm_chainS, fm_sumS, fm_mtAlgS, fm_crossS, fm_stackS, fm_chainsS] [fw_pick] fok_181 ?_
  by_cases c0 : pkM b (p + 1) 6 = 0
  · have e : aofM b p m = ((chL n, sumT n), p + 2) := by simp [aofM, c0, hn]
    rw [e]
    simp [fa_181, callOW, callOT, hb, hp, show m ≤ 1099511627776 by omega, hn, w1, show p + 1 ≤ 1000000 by omega, c0, a1]
  · by_cases c1 : pkM b (p + 1) 6 = 1
    · have e : aofM b p m = ((chL n, mtT (chL n)), p + 2) := by simp [aofM, c1, hn]
      rw [e]
      simp [fa_181, callOW, callOT, hb, hp, show m ≤ 1099511627776 by omega, hn, w1, show p + 1 ≤ 1000000 by omega, c1, a2, a3]
    · have lastE : ¬ (pkM b (p + 1) 6 = 2 ∧ 2 < n) → ¬ (pkM b (p + 1) 6 = 3 ∧ 4 ≤ m) → aofM b p m = ((((chT (min n 5)).map fun t => (chL (min n 5), t)).getD (pkM b (p + 2) (chT (min n 5)).length).toNat default), p + 3) := by
        intro q1 q2
        simp only [aofM, hn, Int.toNat_natCast, if_neg c0, if_neg c1, if_neg q1, if_neg q2]
      obtain ⟨k, hk⟩ : ∃ k : Nat, min n 5 = k := ⟨_, rfl⟩
      have w5 : (if (5 : Int) < n then (5 : Int) else n) = k := by split <;> omega
      have w5' : (if (n : Int) < 5 then (n : Int) else 5) = k := by split <;> omega
      have l1 := fm_chainsS_look k (by omega) (by omega)
      rw [Int.toNat_natCast] at l1
      have hl := chT_len (n := k) (by omega)
      have hpos : 0 < (chT k).length := by
        have := chT_ne k (by omega) (by omega)
        cases h : chT k with
        | nil => exact absurd h this
        | cons _ _ => simp
      have r2 := pkM_rng hb (p := p + 2) (by omega) (n := (chT k).length) (by omega)
      by_cases c2 : pkM b (p + 1) 6 = 2
      · by_cases hn2 : 2 < n
        · have r3 := pkM_rng hb (p := p + 2) (by omega) (n := (n : Int) - 2) (by omega)
          obtain ⟨q, hq⟩ : ∃ q : Nat, 2 + pkM b (p + 2) ((n : Int) - 2) = q := ⟨(2 + pkM b (p + 2) ((n : Int) - 2)).toNat, by omega⟩
          have w2 : IntKind.i64.wrap ((n : Int) - 2) = n - 2 := wrap64 (by omega) (by omega)
          have w3 : IntKind.i64.wrap (q : Int) = q := wrap64 (by omega) (by omega)
          have w4 : IntKind.i64.wrap ((n : Int) - q) = n - q := wrap64 (by omega) (by omega)
          obtain ⟨r, hr⟩ : ∃ r, n - q + 1 = r := ⟨_, rfl⟩
          have w6 : IntKind.i64.wrap ((n : Int) - q + 1) = r := by rw [wrap64 (by omega) (by omega)]; omega
          have a4 := fm_sumS_look q (by omega) (by omega)
          have a5 := fm_sumS_look r (by omega) (by omega)
          rw [Int.toNat_natCast] at a4 a5
          have a6 := fm_stackS_look (chL q) (sumT q) (chL r) (sumT r) (sumT_sh (by omega) (by omega)) (sumT_sh (by omega) (by omega))
          have e : aofM b p m = ((skU (chL q) (chL r), skT (chL q) (sumT q) (chL r) (sumT r)), p + 3) := by
            simp only [aofM, hn, Int.toNat_natCast, if_neg c0, if_neg c1, if_pos (show pkM b (p + 1) 6 = 2 ∧ 2 < n from ⟨c2, hn2⟩), hq, hr]
          rw [e]
          simp [fa_181, callOW, callOT, hb, hp, show m ≤ 1099511627776 by omega, hn, w1, show p + 1 ≤ 1000000 by omega, show p + 2 ≤ 1000000 by omega, c2, show ((2 : Int) < n) by omega, show ¬ ((n : Int) ≤ 2) by omega, w2, show (n : Int) ≤ 1099511627778 by omega, show (n : Int) - 2 ≤ 1099511627776 by omega, hq, w3, w4, w6, a4, a5, a6]
        · rw [lastE (fun h => hn2 h.2) (fun h => by omega)]
          rw [hk]
          simp [fa_181, callOW, callOT, hb, hp, show m ≤ 1099511627776 by omega, hn, w1, show p + 1 ≤ 1000000 by omega, show p + 2 ≤ 1000000 by omega, c2, show ¬ ((2 : Int) < n) by omega, show ((n : Int) ≤ 2) by omega, w5, w5', l1, show ((chT k).length : Int) ≤ 1099511627776 by omega, r2]
      · by_cases c3 : pkM b (p + 1) 6 = 3
        · by_cases hm : 4 ≤ m
          · obtain ⟨z, hz⟩ : ∃ z : Nat, min (m / 2 - 1) 2 = (z : Int) := ⟨(min (m / 2 - 1) 2).toNat, by omega⟩
            have r3 := pkM_rng hb (p := p + 2) (by omega) (n := (z : Int)) (by omega)
            obtain ⟨q, hq⟩ : ∃ q : Nat, 2 + pkM b (p + 2) z = q := ⟨(2 + pkM b (p + 2) z).toNat, by omega⟩
            have v1 : m.tdiv 2 = m / 2 := Int.tdiv_eq_ediv_of_nonneg (by omega)
            have v2 : IntKind.i64.wrap (m / 2) = m / 2 := wrap64 (by omega) (by omega)
            have v3 : IntKind.i64.wrap (m / 2 - 1) = m / 2 - 1 := wrap64 (by omega) (by omega)
            have v4 : (if 2 < m / 2 - 1 then 2 else m / 2 - 1) = (z : Int) := by split <;> omega
            have v4' : (if m / 2 - 1 < 2 then m / 2 - 1 else 2) = (z : Int) := by split <;> omega
            have v5 : IntKind.i64.wrap (q : Int) = q := wrap64 (by omega) (by omega)
            have a4 := fm_chainS_look q (by omega) (by omega)
            rw [Int.toNat_natCast] at a4
            have s2 := chL_sm (n := 2) (by omega)
            have sq := chL_sm (n := q) (by omega)
            have a5 := fm_crossS_look (chL 2) (chL q) s2 sq
            have a6 := fm_mtAlgS_look (crU (chL 2) (chL q)) (crU_sm (by rw [chL_length, chL_length]; omega))
            have a7 : fm_chainS.look [I64 2] = some (IO1 (chL 2)) := fm_chainS_look 2 (by omega) (by omega)
            have e : aofM b p m = ((crU (chL 2) (chL q), mtT (crU (chL 2) (chL q))), p + 3) := by
              simp only [aofM, hn, Int.toNat_natCast, if_neg c0, if_neg c1, if_neg (show ¬ (pkM b (p + 1) 6 = 2 ∧ 2 < n) from fun h => c2 h.1), if_pos (show pkM b (p + 1) 6 = 3 ∧ 4 ≤ m from ⟨c3, hm⟩), hz, hq]
            rw [e]
            simp [fa_181, callOW, callOT, hb, hp, show m ≤ 1099511627776 by omega, hn, w1, show p + 1 ≤ 1000000 by omega, show p + 2 ≤ 1000000 by omega, c3, hm, v1, v2, v3, v4, v4', v5, hq, a4, a5, a6, a7, show (z : Int) ≤ 1099511627776 by omega]
          · rw [lastE (fun h => c2 h.1) (fun h => hm h.2)]
            rw [hk]
            simp [fa_181, callOW, callOT, hb, hp, show m ≤ 1099511627776 by omega, hn, w1, show p + 1 ≤ 1000000 by omega, show p + 2 ≤ 1000000 by omega, c3, hm, w5, w5', l1, show ((chT k).length : Int) ≤ 1099511627776 by omega, r2]
        · rw [lastE (fun h => c2 h.1) (fun h => c3 h.1)]
          rw [hk]
          simp [fa_181, callOW, callOT, hb, hp, show m ≤ 1099511627776 by omega, hn, w1, show p + 1 ≤ 1000000 by omega, show p + 2 ≤ 1000000 by omega, c0, c1, c2, c3, w5, w5', l1, show ((chT k).length : Int) ≤ 1099511627776 by omega, r2]
noncomputable def fw_algOf : FamW Try.prog := mkFamW (X := List Int × Nat × Int) 181 (fun (b, p, m) => (.ptr 0 0 0 :: [I64 m])) (fun (b, p, m) => (RS b p)) (fun (b, p, m) => (BB b) ∧ (p ≤ 1000000) ∧ (1 ≤ m) ∧ (m ≤ 6) ∧ (p ≤ 990000)) (fun (b, p, m) => AL (aofM b p m).1.1 (aofM b p m).1.2) (fun (b, p, m) => (RS b ((aofM b p m).2))) (by
  rintro ⟨b, p, m⟩ ⟨hb, hp, h1, h6, hp2⟩
  exact algOf_pc b p m hb hp h1 h6 hp2)
@[simp] theorem fw_algOf_id : fw_algOf.id = 181 := rfl
@[simp] theorem fw_algOf_look (b : List Int) (p : Nat) (m : Int) (hb : BB b) (hp : p ≤ 1000000) (h1 : 1 ≤ m) (h6 : m ≤ 6) (hp2 : p ≤ 990000) : fw_algOf.look (.ptr 0 0 0 :: [I64 m]) (RS b p) = some (AL (aofM b p m).1.1 (aofM b p m).1.2, (RS b ((aofM b p m).2))) :=
  lookG_of (X := List Int × Nat × Int) (args := fun (b, p, m) => (.ptr 0 0 0 :: [I64 m])) (cell := fun (b, p, m) => (RS b p)) (pre := fun (b, p, m) => (BB b) ∧ (p ≤ 1000000) ∧ (1 ≤ m) ∧ (m ≤ 6) ∧ (p ≤ 990000)) (val := fun (b, p, m) => AL (aofM b p m).1.1 (aofM b p m).1.2) (cell' := fun (b, p, m) => (RS b ((aofM b p m).2))) (by
  rintro ⟨b, p, m⟩ ⟨b', p', m'⟩ h h2
  simp at h h2
  try simp only [and_assoc] at h
  obtain ⟨rfl, rfl⟩ := h2
  subst h
  exact ⟨rfl, rfl⟩) (b, p, m) ⟨hb, hp, h1, h6, hp2⟩
attribute [irreducible] fw_algOf
end Go.PS
end

section
-- Contracts: algebras that are drawn, more of them; and those that may be invalid.
set_option maxRecDepth 100000
set_option linter.unusedVariables false
set_option linter.unusedSimpArgs false
namespace Go.PS
open Go.Proofs

/-- The form of what is drawn. -/
structure GA (a : Alg) : Prop where
  pos : 1 ≤ a.1.length
  six : a.1.length ≤ 6
  sq : SQ a.1.length a.2
theorem GA.bigR {a : Alg} (g : GA a) : BigR a.2 := g.sq.big (by have := g.six; omega)
theorem GA.big {a : Alg} (g : GA a) : Big a.1.length := by unfold Big; have := g.six; omega
theorem sq_tr {n : Nat} {f : Nat → Nat → Int} : SQ n (tr n fun x => tl n (f x)) := ⟨by simp, fun x hx => by rw [gr_tr hx]; simp⟩
theorem ga_tr {u : List Int} {t : List (List Int)} {n : Nat} {f : Nat → Nat → Int} (hu : u.length = n) (ht : t = tr n fun x => tl n (f x)) (h1 : 1 ≤ n) (h6 : n ≤ 6) : GA (u, t) := ⟨by rw [hu]; exact h1, by rw [hu]; exact h6, by rw [hu, ht]; exact sq_tr⟩
theorem aofM_ga {b : List Int} (hb : BB b) {p : Nat} (hp : p ≤ 990000) {m : Int} (h1 : 1 ≤ m) (h6 : m ≤ 6) : GA (aofM b p m).1 ∧ (aofM b p m).1.1.length ≤ m ∧ (aofM b p m).2 ≤ p + 3 := by
  have r0 := pkM_rng hb (p := p) (by omega) h1
  have r1 := pkM_rng hb (p := p + 1) (by omega) (n := 6) (by omega)
  obtain ⟨n, hn⟩ : ∃ n : Nat, 1 + pkM b p m = n := ⟨(1 + pkM b p m).toNat, by omega⟩
  unfold aofM
  simp only [hn, Int.toNat_natCast]
  split
  · exact ⟨ga_tr chL_length rfl (by omega) (by omega), by show ((chL n).length : Int) ≤ m; rw [chL_length]; omega, by show p + 2 ≤ p + 3; omega⟩
  · split
    · refine ⟨ga_tr (n := n) chL_length (by rw [mtT, chL_length]) (by omega) (by omega), by show ((chL n).length : Int) ≤ m; rw [chL_length]; omega, by show p + 2 ≤ p + 3; omega⟩
    · split
      · rename_i hc
        have r3 := pkM_rng hb (p := p + 2) (by omega) (n := (n : Int) - 2) (by omega)
        obtain ⟨q, hq⟩ : ∃ q : Nat, 2 + pkM b (p + 2) ((n : Int) - 2) = q := ⟨(2 + pkM b (p + 2) ((n : Int) - 2)).toNat, by omega⟩
        simp only [hq, Int.toNat_natCast]
        have hl : (skU (chL q) (chL (n - q + 1))).length = n := by simp [skU, chL_length]; omega
        refine ⟨ga_tr (n := n) hl (by rw [skT, chL_length, chL_length, show q - 1 + (n - q + 1) = n by omega]) (by omega) (by omega), by show ((skU _ _).length : Int) ≤ m; rw [hl]; omega, by show p + 3 ≤ p + 3; omega⟩
      · split
        · rename_i hc
          obtain ⟨z, hz⟩ : ∃ z : Nat, min (m / 2 - 1) 2 = (z : Int) := ⟨(min (m / 2 - 1) 2).toNat, by omega⟩
          have r3 := pkM_rng hb (p := p + 2) (by omega) (n := (z : Int)) (by omega)
          obtain ⟨q, hq⟩ : ∃ q : Nat, 2 + pkM b (p + 2) z = q := ⟨(2 + pkM b (p + 2) z).toNat, by omega⟩
          simp only [hz, hq, Int.toNat_natCast]
          have hl : (crU (chL 2) (chL q)).length = 2 * q := by simp [crU, chL_length]
          refine ⟨ga_tr (n := 2 * q) hl (by rw [mtT, hl]) (by omega) (by omega), by show ((crU _ _).length : Int) ≤ m; rw [hl]; push_cast; omega, by show p + 3 ≤ p + 3; omega⟩
        · obtain ⟨k, hk⟩ : ∃ k : Nat, min n 5 = k := ⟨_, rfl⟩
          rw [hk]
          have hpos : 0 < (chT k).length := by
            have := chT_ne k (by omega) (by omega)
            cases h : chT k with
            | nil => exact absurd h this
            | cons _ _ => simp
          have r2 := pkM_rng hb (p := p + 2) (by omega) (n := (chT k).length) (by omega)
          generalize pkM b (p + 2) (chT k).length = i at *
          have hi : i.toNat < (chT k).length := by omega
          have e : (((chT k).map fun t => (chL k, t)).getD i.toNat default) = (chL k, (chT k)[i.toNat]) := by
            rw [List.getD_eq_getElem?_getD, List.getElem?_map, List.getElem?_eq_getElem hi]; rfl
          simp only [e]
          have v := chT_va (n := k) (by omega) (List.getElem_mem hi)
          have hl : (chL k).length = k := chL_length
          refine ⟨⟨by show 1 ≤ (chL k).length; omega, by show (chL k).length ≤ 6; omega, ?_⟩, by show ((chL k).length : Int) ≤ m; omega, by show p + 3 ≤ p + 3; omega⟩
          exact ⟨v.len, v.rows⟩

def M22 : Alg := (crU (chL 2) (chL 2), mtT (crU (chL 2) (chL 2)))
/-- An algebra, and how many numbers have been drawn. -/
def gaM (b : List Int) (p : Nat) : Alg × Nat :=
  if pkM b p 5 = 0 then
    (let A := aofM b (p + 1) 2; let B := aofM b A.2 3
     if vaB B.1.1 B.1.2 && vaB A.1.1 A.1.2 && decide (B.1.1.length * A.1.1.length ≤ 6) then ((crU B.1.1 A.1.1, crT B.1.1 B.1.2 A.1.1 A.1.2), B.2) else aofM b B.2 6)
  else if pkM b p 5 = 1 then
    (let A := aofM b (p + 1) 3
     if vaB M22.1 M22.2 && vaB A.1.1 A.1.2 && decide (M22.1.length + A.1.1.length ≤ 7) then ((skU M22.1 A.1.1, skT M22.1 M22.2 A.1.1 A.1.2), A.2) else aofM b A.2 6)
  else aofM b (p + 1) 6

set_option maxHeartbeats 2000000 in
theorem goodAlg_pc (b : List Int) (p : Nat) (hb : BB b) (hp : p ≤ 1000000) (hp2 : p ≤ 980000) : PC Try.prog 169 (.ptr 0 0 0 :: []) (some (RS b p)) false (fun r c => imm 5 r = imm 5 (AL (gaM b p).1.1 (gaM b p).1.2) ∧ c = (RS b ((gaM b p).2))) := by
  have r0 := pkM_rng hb (p := p) (by omega) (n := 5) (by omega)
  refine pcW [fm_chainS, fm_crossS, fm_mtAlgS, fm_crossAlgS, fm_stackAlgS] [fw_pick, fw_algOf] fok_169 ?_
  by_cases c0 : pkM b p 5 = 0
  · obtain ⟨g1, m1, q1⟩ := aofM_ga hb (p := p + 1) (by omega) (m := 2) (by omega) (by omega)
    have l1 := fw_algOf_look b (p + 1) 2 hb (by omega) (by omega) (by omega) (by omega)
    have e : gaM b p = (let A := aofM b (p + 1) 2; let B := aofM b A.2 3
     if vaB B.1.1 B.1.2 && vaB A.1.1 A.1.2 && decide (B.1.1.length * A.1.1.length ≤ 6) then ((crU B.1.1 A.1.1, crT B.1.1 B.1.2 A.1.1 A.1.2), B.2) else aofM b B.2 6) := by unfold gaM; rw [if_pos c0]
    rw [e]
    clear e
    generalize aofM b (p + 1) 2 = A at *
    obtain ⟨⟨u1, t1⟩, p1⟩ := A
    dsimp only at g1 m1 q1 l1 ⊢
    obtain ⟨g2, m2, q2⟩ := aofM_ga hb (p := p1) (by omega) (m := 3) (by omega) (by omega)
    have l2 := fw_algOf_look b p1 3 hb (by omega) (by omega) (by omega) (by omega)
    generalize aofM b p1 3 = B at *
    obtain ⟨⟨u2, t2⟩, p2⟩ := B
    dsimp only at g2 m2 q2 l2 ⊢
    have l3 := fw_algOf_look b p2 6 hb (by omega) (by omega) (by omega) (by omega)
    have lc := fm_crossAlgS_look u2 t2 u1 t1 (by have := g2.six; dsimp only at this; omega) g2.bigR (by have := g1.six; dsimp only at this; omega) g1.bigR
    generalize aofM b p2 6 = C at *
    obtain ⟨⟨u3, t3⟩, p3⟩ := C
    dsimp only at l3 ⊢
    have hd : decide (VA u2 t2 ∧ VA u1 t1 ∧ u2.length * u1.length ≤ 6) = (vaB u2 t2 && vaB u1 t1 && decide (u2.length * u1.length ≤ 6)) := by
      rw [Bool.eq_iff_iff]; simp [vaB_iff, and_assoc]
    cases hc : (vaB u2 t2 && vaB u1 t1 && decide (u2.length * u1.length ≤ 6))
    · rw [hc] at hd
      rw [if_neg (of_decide_eq_false hd), hd] at lc
      simp [fa_169, callOW, callOT, hb, hp, c0, l1, l2, l3, lc]
    · rw [hc] at hd
      rw [if_pos (of_decide_eq_true hd), hd] at lc
      simp [fa_169, callOW, callOT, hb, hp, c0, l1, l2, l3, lc]
  · by_cases c1 : pkM b p 5 = 1
    · obtain ⟨g1, m1, q1⟩ := aofM_ga hb (p := p + 1) (by omega) (m := 3) (by omega) (by omega)
      have l1 := fw_algOf_look b (p + 1) 3 hb (by omega) (by omega) (by omega) (by omega)
      have e : gaM b p = (let A := aofM b (p + 1) 3
     if vaB M22.1 M22.2 && vaB A.1.1 A.1.2 && decide (M22.1.length + A.1.1.length ≤ 7) then ((skU M22.1 A.1.1, skT M22.1 M22.2 A.1.1 A.1.2), A.2) else aofM b A.2 6) := by unfold gaM; rw [if_neg c0, if_pos c1]
      rw [e]
      clear e
      generalize aofM b (p + 1) 3 = A at *
      obtain ⟨⟨u1, t1⟩, p1⟩ := A
      dsimp only at g1 m1 q1 l1 ⊢
      have l3 := fw_algOf_look b p1 6 hb (by omega) (by omega) (by omega) (by omega)
      have s2 := chL_sm (n := 2) (by omega)
      have a1 : fm_chainS.look [I64 2] = some (IO1 (chL 2)) := fm_chainS_look 2 (by omega) (by omega)
      have a2 := fm_crossS_look (chL 2) (chL 2) s2 s2
      have a3 := fm_mtAlgS_look (crU (chL 2) (chL 2)) (crU_sm (by rw [chL_length]; omega))
      have h4 : (crU (chL 2) (chL 2)).length = 4 := by simp [crU, chL_length]
      have gM : GA M22 := ga_tr (n := 4) (f := meetM (crU (chL 2) (chL 2))) h4 (by rw [mtT, h4]) (by omega) (by omega)
      have lc := fm_stackAlgS_look M22.1 M22.2 u1 t1 gM.big gM.bigR g1.big g1.bigR
      have eM : M22 = (M22.1, M22.2) := rfl
      rw [show crU (chL 2) (chL 2) = M22.1 from rfl] at a2 a3
      rw [show mtT M22.1 = M22.2 from rfl] at a3
      generalize M22.1 = u2 at *
      generalize M22.2 = t2 at *
      generalize aofM b p1 6 = C at *
      obtain ⟨⟨u3, t3⟩, p3⟩ := C
      dsimp only at l3 ⊢
      have hd : decide (VA u2 t2 ∧ VA u1 t1 ∧ u2.length + u1.length ≤ 7) = (vaB u2 t2 && vaB u1 t1 && decide (u2.length + u1.length ≤ 7)) := by
        rw [Bool.eq_iff_iff]; simp [vaB_iff, and_assoc]
      cases hc : (vaB u2 t2 && vaB u1 t1 && decide (u2.length + u1.length ≤ 7))
      · rw [hc] at hd
        rw [if_neg (of_decide_eq_false hd), hd] at lc
        simp [fa_169, callOW, callOT, hb, hp, c0, c1, l1, l3, lc, a1, a2, a3]
      · rw [hc] at hd
        rw [if_pos (of_decide_eq_true hd), hd] at lc
        simp [fa_169, callOW, callOT, hb, hp, c0, c1, l1, l3, lc, a1, a2, a3]
    · have l1 := fw_algOf_look b (p + 1) 6 hb (by omega) (by omega) (by omega) (by omega)
      have e : gaM b p = aofM b (p + 1) 6 := by unfold gaM; rw [if_neg c0, if_neg c1]
      rw [e]
      clear e
      generalize aofM b (p + 1) 6 = A at *
      obtain ⟨⟨u1, t1⟩, p1⟩ := A
      dsimp only at l1 ⊢
      simp [fa_169, callOW, callOT, hb, hp, c0, c1, l1]
noncomputable def fw_goodAlg : FamW Try.prog := mkFamW (X := List Int × Nat) 169 (fun (b, p) => (.ptr 0 0 0 :: [])) (fun (b, p) => (RS b p)) (fun (b, p) => (BB b) ∧ (p ≤ 1000000) ∧ (p ≤ 980000)) (fun (b, p) => AL (gaM b p).1.1 (gaM b p).1.2) (fun (b, p) => (RS b ((gaM b p).2))) (by
  rintro ⟨b, p⟩ ⟨hb, hp, hp2⟩
  exact goodAlg_pc b p hb hp hp2)
@[simp] theorem fw_goodAlg_id : fw_goodAlg.id = 169 := rfl
@[simp] theorem fw_goodAlg_look (b : List Int) (p : Nat) (hb : BB b) (hp : p ≤ 1000000) (hp2 : p ≤ 980000) : fw_goodAlg.look (.ptr 0 0 0 :: []) (RS b p) = some (AL (gaM b p).1.1 (gaM b p).1.2, (RS b ((gaM b p).2))) :=
  lookG_of (X := List Int × Nat) (args := fun (b, p) => (.ptr 0 0 0 :: [])) (cell := fun (b, p) => (RS b p)) (pre := fun (b, p) => (BB b) ∧ (p ≤ 1000000) ∧ (p ≤ 980000)) (val := fun (b, p) => AL (gaM b p).1.1 (gaM b p).1.2) (cell' := fun (b, p) => (RS b ((gaM b p).2))) (by
  rintro ⟨b, p⟩ ⟨b', p'⟩ h h2
  simp at h h2
  try simp only [and_assoc] at h
  obtain ⟨rfl, rfl⟩ := h2
  exact ⟨rfl, rfl⟩) (b, p) ⟨hb, hp, hp2⟩
attribute [irreducible] fw_goodAlg
theorem gaM_ga {b : List Int} (hb : BB b) {p : Nat} (hp : p ≤ 980000) : GA (gaM b p).1 ∧ (gaM b p).2 ≤ p + 10 := by
  unfold gaM
  split
  · obtain ⟨g1, m1, q1⟩ := aofM_ga hb (p := p + 1) (by omega) (m := 2) (by omega) (by omega)
    dsimp only
    generalize aofM b (p + 1) 2 = A at *
    obtain ⟨g2, m2, q2⟩ := aofM_ga hb (p := A.2) (by omega) (m := 3) (by omega) (by omega)
    generalize aofM b A.2 3 = B at *
    obtain ⟨g3, m3, q3⟩ := aofM_ga hb (p := B.2) (by omega) (m := 6) (by omega) (by omega)
    split
    · rename_i hc
      simp only [Bool.and_eq_true, decide_eq_true_eq] at hc
      have := Nat.mul_pos g2.pos g1.pos
      exact ⟨ga_tr (n := B.1.1.length * A.1.1.length) (by simp [crU]) rfl (by omega) hc.2, by show B.2 ≤ p + 10; omega⟩
    · exact ⟨g3, by omega⟩
  · split
    · obtain ⟨g1, m1, q1⟩ := aofM_ga hb (p := p + 1) (by omega) (m := 3) (by omega) (by omega)
      generalize aofM b (p + 1) 3 = A at *
      obtain ⟨g3, m3, q3⟩ := aofM_ga hb (p := A.2) (by omega) (m := 6) (by omega) (by omega)
      dsimp only
      split
      · rename_i hc
        simp only [Bool.and_eq_true, decide_eq_true_eq] at hc
        have h4 : M22.1.length = 4 := by simp [M22, crU, chL_length]
        have := g1.pos
        exact ⟨ga_tr (n := M22.1.length - 1 + A.1.1.length) (by simp [skU]) rfl (by omega) (by omega), by show A.2 ≤ p + 10; omega⟩
      · exact ⟨g3, by omega⟩
    · obtain ⟨g1, m1, q1⟩ := aofM_ga hb (p := p + 1) (by omega) (m := 6) (by omega) (by omega)
      exact ⟨g1, by omega⟩
end Go.PS
end
