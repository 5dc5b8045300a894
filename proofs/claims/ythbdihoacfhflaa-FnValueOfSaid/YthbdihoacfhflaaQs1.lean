/- Part 1 of what the last text proves: Values of terms: the law holds at every input. -/
import Derived.Test.YthbdihoacfhflaaQo6
section
-- PRINTED by gen.py: clean texts of functions, and their tie to the program.
set_option maxRecDepth 100000
namespace Go.PS
open Go.Proofs
/-- spec.termOf -/
def an_177 : Ann := ⟨[(1, 4, 16), (2, 2, 16), (3, 1, 16), (4, 0, 1), (4, 4, 16), (4, 5, 2), (5, 2, 16), (6, 3, 16), (7, 1, 1), (7, 7, 16), (7, 8, 2)], [(0, [0, 1]), (1, [0, 1, 13]), (2, [4]), (3, [0, 1, 20]), (4, [4]), (5, [0, 1, 5]), (6, [0, 1, 5, 6]), (7, [4])], [], []⟩
def fa_177 : FnA := ⟨43, [.t 4],
  (.seq
    (.region false [⟨some 4, (.mv (.c .nil)), 23, none, 0⟩] (some [0, 1]))
    (.seq
      (.seq
        (.region false (gops [⟨some 7, (.mv (.t 1)), 3, none, 0⟩, ⟨some 8, (.bin .lss 3 (.t 7) (.c (.int .i64 1))), 4, none, 0⟩, ⟨some 9, (.mv (.t 8)), 4, none, 0⟩, ⟨some 10, (.mv (.t 0)), 72, some (9, false), 0⟩, ⟨some 11, (.call (.f 106) [(.t 10), (.c (.int .i64 4))]), 3, some (9, false), 16⟩, ⟨some 12, (.bin .eql 3 (.t 11) (.c (.int .i64 0))), 4, some (9, false), 0⟩, ⟨some 13, (.pick (.t 9) (.c (.bool true)) (.t 12)), 4, none, 0⟩]) (some [0, 1, 13]))
        (.cond (.t 13)
          (.seq
            (.region false [⟨some 14, (.mv (.t 0)), 72, none, 0⟩, ⟨some 15, (.bslice 23 7 [(0, (.c (.int .i64 0))), (1, (.c (.int .i64 1))), (2, (.c (.int .i64 0))), (3, (.c (.int .i64 2))), (4, (.c (.int .i64 1))), (5, (.c (.int .i64 10))), (6, (.c (.int .i64 11)))]), 23, none, 0⟩, ⟨some 16, (.call (.f 161) [(.t 14), (.t 15)]), 3, none, 16⟩, ⟨some 17, (.bslice 23 1 [(0, (.t 16))]), 23, none, 0⟩, ⟨some 4, (.mv (.t 17)), 23, none, 0⟩] (some [4]))
            .ret)
          .skip))
      (.seq
        (.seq
          (.region false [⟨some 18, (.mv (.t 0)), 72, none, 0⟩, ⟨some 19, (.call (.f 106) [(.t 18), (.c (.int .i64 5))]), 3, none, 16⟩, ⟨some 20, (.bin .eql 3 (.t 19) (.c (.int .i64 0))), 4, none, 0⟩] (some [0, 1, 20]))
          (.cond (.t 20)
            (.seq
              (.region false [⟨some 21, (.bslice 23 1 [(0, (.c (.int .i64 12)))]), 23, none, 1⟩, ⟨some 22, (.mv (.t 0)), 72, none, 0⟩, ⟨some 23, (.mv (.t 1)), 3, none, 0⟩, ⟨some 24, (.bin .sub 3 (.t 23) (.c (.int .i64 1))), 3, none, 0⟩, ⟨some 25, (.call (.f 177) [(.t 22), (.t 24)]), 23, none, 16⟩, ⟨some 26, (.app 23 23 (.t 21) (.t 25)), 23, none, 2⟩, ⟨some 4, (.mv (.t 26)), 23, none, 0⟩] (some [4]))
              .ret)
            .skip))
        (.seq
          (.region false [⟨some 27, (.mv (.t 0)), 72, none, 0⟩, ⟨some 28, (.bslice 23 5 [(0, (.c (.int .i64 16))), (1, (.c (.int .i64 15))), (2, (.c (.int .i64 14))), (3, (.c (.int .i64 13))), (4, (.c (.int .i64 16)))]), 23, none, 0⟩, ⟨some 29, (.call (.f 161) [(.t 27), (.t 28)]), 3, none, 16⟩, ⟨some 5, (.mv (.t 29)), 3, none, 0⟩] (some [0, 1, 5]))
          (.seq
            (.region false [⟨some 30, (.mv (.t 0)), 72, none, 0⟩, ⟨some 31, (.mv (.t 1)), 3, none, 0⟩, ⟨some 32, (.bin .sub 3 (.t 31) (.c (.int .i64 1))), 3, none, 0⟩, ⟨some 33, (.call (.f 177) [(.t 30), (.t 32)]), 23, none, 16⟩, ⟨some 6, (.mv (.t 33)), 23, none, 0⟩] (some [0, 1, 5, 6]))
            (.seq
              (.region false [⟨some 34, (.mv (.t 5)), 3, none, 0⟩, ⟨some 35, (.bslice 23 1 [(0, (.t 34))]), 23, none, 1⟩, ⟨some 36, (.mv (.t 6)), 23, none, 0⟩, ⟨some 37, (.app 23 23 (.t 35) (.t 36)), 23, none, 0⟩, ⟨some 38, (.mv (.t 0)), 72, none, 0⟩, ⟨some 39, (.mv (.t 1)), 3, none, 0⟩, ⟨some 40, (.bin .sub 3 (.t 39) (.c (.int .i64 1))), 3, none, 0⟩, ⟨some 41, (.call (.f 177) [(.t 38), (.t 40)]), 23, none, 16⟩, ⟨some 42, (.app 23 23 (.t 37) (.t 41)), 23, none, 2⟩, ⟨some 4, (.mv (.t 42)), 23, none, 0⟩] (some [4]))
              .ret))))))⟩
theorem fok_177 : FnOk Try.prog 177 fa_177 an_177 := ⟨Try.f177, _, Try.func177, rfl, by kernel_rfl, rfl, rfl, by decide, by kernel_rfl⟩
/-- spec.termOf -/
def an_177b : Ann := ⟨[(1, 4, 16), (2, 2, 16), (2, 3, 1), (3, 1, 16), (4, 0, 1), (4, 4, 16), (5, 2, 16), (6, 3, 16), (7, 1, 1), (7, 7, 16)], [(0, [0, 1]), (1, [0, 1, 13]), (2, [4]), (3, [0, 1, 20]), (4, [4]), (5, [0, 1, 5]), (6, [0, 1, 5, 6]), (7, [4])], [], []⟩
def fa_177b : FnA := ⟨43, [.t 4],
  (.seq
    (.region false [⟨some 4, (.mv (.c .nil)), 23, none, 0⟩] (some [0, 1]))
    (.seq
      (.seq
        (.region false (gops [⟨some 7, (.mv (.t 1)), 3, none, 0⟩, ⟨some 8, (.bin .lss 3 (.t 7) (.c (.int .i64 1))), 4, none, 0⟩, ⟨some 9, (.mv (.t 8)), 4, none, 0⟩, ⟨some 10, (.mv (.t 0)), 72, some (9, false), 0⟩, ⟨some 11, (.call (.f 106) [(.t 10), (.c (.int .i64 4))]), 3, some (9, false), 16⟩, ⟨some 12, (.bin .eql 3 (.t 11) (.c (.int .i64 0))), 4, some (9, false), 0⟩, ⟨some 13, (.pick (.t 9) (.c (.bool true)) (.t 12)), 4, none, 0⟩]) (some [0, 1, 13]))
        (.cond (.t 13)
          (.seq
            (.region false [⟨some 14, (.mv (.t 0)), 72, none, 0⟩, ⟨some 15, (.bslice 23 7 [(0, (.c (.int .i64 0))), (1, (.c (.int .i64 1))), (2, (.c (.int .i64 0))), (3, (.c (.int .i64 2))), (4, (.c (.int .i64 1))), (5, (.c (.int .i64 10))), (6, (.c (.int .i64 11)))]), 23, none, 0⟩, ⟨some 16, (.call (.f 161) [(.t 14), (.t 15)]), 3, none, 16⟩, ⟨some 17, (.bslice 23 1 [(0, (.t 16))]), 23, none, 1⟩, ⟨some 4, (.mv (.t 17)), 23, none, 0⟩] (some [4]))
            .ret)
          .skip))
      (.seq
        (.seq
          (.region false [⟨some 18, (.mv (.t 0)), 72, none, 0⟩, ⟨some 19, (.call (.f 106) [(.t 18), (.c (.int .i64 5))]), 3, none, 16⟩, ⟨some 20, (.bin .eql 3 (.t 19) (.c (.int .i64 0))), 4, none, 0⟩] (some [0, 1, 20]))
          (.cond (.t 20)
            (.seq
              (.region false [⟨some 21, (.bslice 23 1 [(0, (.c (.int .i64 12)))]), 23, none, 1⟩, ⟨some 22, (.mv (.t 0)), 72, none, 0⟩, ⟨some 23, (.mv (.t 1)), 3, none, 0⟩, ⟨some 24, (.bin .sub 3 (.t 23) (.c (.int .i64 1))), 3, none, 0⟩, ⟨some 25, (.call (.f 177) [(.t 22), (.t 24)]), 23, none, 16⟩, ⟨some 26, (.app 23 23 (.t 21) (.t 25)), 23, none, 0⟩, ⟨some 4, (.mv (.t 26)), 23, none, 0⟩] (some [4]))
              .ret)
            .skip))
        (.seq
          (.region false [⟨some 27, (.mv (.t 0)), 72, none, 0⟩, ⟨some 28, (.bslice 23 5 [(0, (.c (.int .i64 16))), (1, (.c (.int .i64 15))), (2, (.c (.int .i64 14))), (3, (.c (.int .i64 13))), (4, (.c (.int .i64 16)))]), 23, none, 0⟩, ⟨some 29, (.call (.f 161) [(.t 27), (.t 28)]), 3, none, 16⟩, ⟨some 5, (.mv (.t 29)), 3, none, 0⟩] (some [0, 1, 5]))
          (.seq
            (.region false [⟨some 30, (.mv (.t 0)), 72, none, 0⟩, ⟨some 31, (.mv (.t 1)), 3, none, 0⟩, ⟨some 32, (.bin .sub 3 (.t 31) (.c (.int .i64 1))), 3, none, 0⟩, ⟨some 33, (.call (.f 177) [(.t 30), (.t 32)]), 23, none, 16⟩, ⟨some 6, (.mv (.t 33)), 23, none, 0⟩] (some [0, 1, 5, 6]))
            (.seq
              (.region false [⟨some 34, (.mv (.t 5)), 3, none, 0⟩, ⟨some 35, (.bslice 23 1 [(0, (.t 34))]), 23, none, 1⟩, ⟨some 36, (.mv (.t 6)), 23, none, 0⟩, ⟨some 37, (.app 23 23 (.t 35) (.t 36)), 23, none, 0⟩, ⟨some 38, (.mv (.t 0)), 72, none, 0⟩, ⟨some 39, (.mv (.t 1)), 3, none, 0⟩, ⟨some 40, (.bin .sub 3 (.t 39) (.c (.int .i64 1))), 3, none, 0⟩, ⟨some 41, (.call (.f 177) [(.t 38), (.t 40)]), 23, none, 16⟩, ⟨some 42, (.app 23 23 (.t 37) (.t 41)), 23, none, 0⟩, ⟨some 4, (.mv (.t 42)), 23, none, 0⟩] (some [4]))
              .ret))))))⟩
theorem fok_177b : FnOk Try.prog 177 fa_177b an_177b := ⟨Try.f177, _, Try.func177, rfl, by kernel_rfl, rfl, rfl, by decide, by kernel_rfl⟩
/-- spec.someTerm -/
def an_138 : Ann := ⟨[(1, 3, 16), (1, 4, 16), (2, 1, 16), (6, 4, 16), (6, 7, 16), (8, 1, 2)], [(0, [0]), (1, [0, 3]), (2, [0, 3, 10]), (3, [0, 3, 10, 11]), (4, [2]), (5, [0, 3, 10, 16]), (6, [3]), (7, [3, 27]), (8, [2]), (9, [2])], [], []⟩
def fa_138 : FnA := ⟨32, [.t 2],
  (.seq
    (.region false [⟨some 2, (.mv (.c .nil)), 23, none, 0⟩] (some [0]))
    (.seq
      (.region false [⟨some 4, (.mv (.t 0)), 72, none, 0⟩, ⟨some 5, (.mv (.t 0)), 72, none, 0⟩, ⟨some 6, (.bslice 23 4 [(0, (.c (.int .i64 2))), (1, (.c (.int .i64 3))), (2, (.c (.int .i64 1))), (3, (.c (.int .i64 0)))]), 23, none, 0⟩, ⟨some 7, (.call (.f 161) [(.t 5), (.t 6)]), 3, none, 16⟩, ⟨some 8, (.call (.f 177) [(.t 4), (.t 7)]), 23, none, 16⟩, ⟨some 3, (.mv (.t 8)), 23, none, 0⟩] (some [0, 3]))
      (.seq
        (.seq
          (.region false [⟨some 9, (.mv (.t 0)), 72, none, 0⟩, ⟨some 10, (.call (.f 106) [(.t 9), (.c (.int .i64 30))]), 3, none, 16⟩] (some [0, 3, 10]))
          (.block 0
            (.seq
              (.region false [⟨some 12, (.bin .eql 3 (.t 10) (.c (.int .i64 0))), 4, none, 0⟩, ⟨some 11, (.mv (.t 12)), 4, none, 0⟩] (some [0, 3, 10, 11]))
              (.cond (.t 11)
                (.seq
                  (.region false [⟨some 13, (.mv (.t 3)), 23, none, 0⟩, ⟨some 14, (.bslice 23 1 [(0, (.c (.int .i64 0)))]), 23, none, 0⟩, ⟨some 15, (.app 23 23 (.t 13) (.t 14)), 23, none, 0⟩, ⟨some 2, (.mv (.t 15)), 23, none, 0⟩] (some [2]))
                  .ret)
                (.seq
                  (.region false [⟨some 17, (.bin .eql 3 (.t 10) (.c (.int .i64 1))), 4, none, 0⟩, ⟨some 16, (.mv (.t 17)), 4, none, 0⟩] (some [0, 3, 10, 16]))
                  (.cond (.t 16)
                    (.region false [⟨some 18, (.mv (.t 3)), 23, none, 0⟩, ⟨some 19, (.mv (.t 0)), 72, none, 0⟩, ⟨some 20, (.mv (.t 3)), 23, none, 0⟩, ⟨some 21, (.len 23 (.t 20)), 3, none, 0⟩, ⟨some 22, (.call (.f 106) [(.t 19), (.t 21)]), 3, none, 16⟩, ⟨some 23, (.mv (.t 0)), 72, none, 0⟩, ⟨some 24, (.bslice 23 4 [(0, (.c (.int .i64 3))), (1, (.c (.int .i64 17))), (2, (.c (.int .i64 (-1)))), (3, (.c (.int .i64 12)))]), 23, none, 0⟩, ⟨some 25, (.call (.f 161) [(.t 23), (.t 24)]), 3, none, 16⟩, ⟨some 26, (.iaddr 23 (.t 18) (.t 22)), 0, none, 0⟩, ⟨none, (.store 3 (.t 26) (.t 25)), 0, none, 0⟩] (some [3]))
                    (.seq
                      (.region false [⟨some 28, (.bin .eql 3 (.t 10) (.c (.int .i64 2))), 4, none, 0⟩, ⟨some 27, (.mv (.t 28)), 4, none, 0⟩] (some [3, 27]))
                      (.cond (.t 27)
                        (.seq
                          (.region false [⟨some 29, (.mv (.t 3)), 23, none, 0⟩, ⟨some 30, (.slice 23 (.t 29) (some (.c (.int .i64 1))) none), 23, none, 2⟩, ⟨some 2, (.mv (.t 30)), 23, none, 0⟩] (some [2]))
                          .ret)
                        .skip))))))))
        (.seq
          (.region false [⟨some 31, (.mv (.t 3)), 23, none, 0⟩, ⟨some 2, (.mv (.t 31)), 23, none, 0⟩] (some [2]))
          .ret))))⟩
theorem fok_138 : FnOk Try.prog 138 fa_138 an_138 := ⟨Try.f138, _, Try.func138, rfl, by kernel_rfl, rfl, rfl, by decide, by kernel_rfl⟩
end Go.PS
end

section
-- Contracts: a term that is drawn.
set_option maxRecDepth 100000
set_option linter.unusedVariables false
set_option linter.unusedSimpArgs false
namespace Go.PS
open Go.Proofs

def lf7 (b : List Int) (p : Nat) : Int := gi [0, 1, 0, 2, 1, 10, 11] (pkM b p 7).toNat
def sg5 (b : List Int) (p : Nat) : Int := gi [16, 15, 14, 13, 16] (pkM b p 5).toNat
/-- A term of at most some depth, and how many numbers have been drawn. -/
def tkM (b : List Int) : Nat → Nat → List Int × Nat
  | 0, p => ([lf7 b p], p + 1)
  | d + 1, p => if pkM b p 4 = 0 then ([lf7 b (p + 1)], p + 2) else if pkM b (p + 1) 5 = 0 then (12 :: (tkM b d (p + 2)).1, (tkM b d (p + 2)).2)
    else (sg5 b (p + 2) :: ((tkM b d (p + 3)).1 ++ (tkM b d (tkM b d (p + 3)).2).1), (tkM b d (tkM b d (p + 3)).2).2)
theorem tkM_ok (b : List Int) : ∀ d p, (tkM b d p).1.length + 1 ≤ 2 ^ (d + 1) ∧ 1 ≤ (tkM b d p).1.length ∧ (tkM b d p).2 + 3 ≤ p + 4 * 2 ^ d
  | 0, p => by simp [tkM]
  | d + 1, p => by
    have h1 := tkM_ok b d (p + 2)
    have h2 := tkM_ok b d (p + 3)
    have h3 := tkM_ok b d (tkM b d (p + 3)).2
    have hp : 0 < 2 ^ d := Nat.pow_pos (by omega)
    have e1 : 2 ^ (d + 1) = 2 * 2 ^ d := by rw [Nat.pow_succ]; omega
    have e2 : 2 ^ (d + 1 + 1) = 4 * 2 ^ d := by rw [Nat.pow_succ, e1]; omega
    rw [e1] at h1 h2 h3
    rw [e1, e2]
    simp only [tkM]
    split
    · simp; omega
    · split
      · simp; omega
      · simp; omega
theorem tkM_one {b : List Int} (hb : BB b) {p : Nat} (hp : p ≤ 1000000) : fw_one.look [.ptr 0 0 0, .list 1 [.int .i64 0, .int .i64 1, .int .i64 0, .int .i64 2, .int .i64 1, .int .i64 10, .int .i64 11]] (RS b p) = some (I64 (lf7 b p), RS b (p + 1)) :=
  fw_one_look b p [0, 1, 0, 2, 1, 10, 11] hb (by omega) (by unfold Big; simp) (by simp)
theorem tkM_sign {b : List Int} (hb : BB b) {p : Nat} (hp : p ≤ 1000000) : fw_one.look [.ptr 0 0 0, .list 1 [.int .i64 16, .int .i64 15, .int .i64 14, .int .i64 13, .int .i64 16]] (RS b p) = some (I64 (sg5 b p), RS b (p + 1)) :=
  fw_one_look b p [16, 15, 14, 13, 16] hb (by omega) (by unfold Big; simp) (by simp)
theorem famWE {X : Type} (id : Nat) (args cell : X → List D) (pre : X → Prop) (val : X → D) (cell' : X → List D) (ok : ∀ x, pre x → PC Try.prog id (args x) (some (cell x)) false (fun r c => imm 5 r = imm 5 (val x) ∧ c = cell' x))
    (inj : ∀ x y, args x = args y → cell x = cell y → val x = val y ∧ cell' x = cell' y) : ∃ fw : FamW Try.prog, fw.id = id ∧ ∀ x, pre x → fw.look (args x) (cell x) = some (val x, cell' x) :=
  ⟨mkFamW (X := X) id args cell pre val cell' ok, rfl, fun x h => lookG_of (args := args) (cell := cell) (pre := pre) (val := val) (cell' := cell') inj x h⟩
theorem termOf_aux {b : List Int} (hb : BB b) : ∀ (d p : Nat), d ≤ 3 → p + 4 * 2 ^ d ≤ 999000 → PC Try.prog 177 [.ptr 0 0 0, I64 d] (some (RS b p)) false (fun r c => imm 5 r = imm 5 (IL (tkM b d p).1) ∧ c = RS b (tkM b d p).2)
  | 0, p, _, hp => by
    have l1 := tkM_one hb (p := p) (by omega)
    refine pcW [] [fw_pick, fw_one] fok_177 ?_
    simp [gops, fa_177, callOW, l1, rg7, rg1, tkM]
    rfl
  | d + 1, p, hd, hp => by
    have hpow : 2 ^ (d + 1) = 2 * 2 ^ d := by rw [Nat.pow_succ]; omega
    have hpos : 0 < 2 ^ d := Nat.pow_pos (by omega)
    have h8 : 2 ^ (d + 1) ≤ 2 ^ 3 := Nat.pow_le_pow_right (by omega) hd
    obtain ⟨fw, hid, hlk⟩ := famWE (X := Nat) 177 (fun _ => [.ptr 0 0 0, I64 d]) (fun q => RS b q) (fun q => q + 4 * 2 ^ d ≤ 999000) (fun q => IL (tkM b d q).1) (fun q => RS b (tkM b d q).2) (fun q hq => termOf_aux hb d q (by omega) hq) (by
      intro x y _ h
      simp at h
      subst h
      exact ⟨rfl, rfl⟩)
    have hq := tkM_ok b d (p + 2)
    have hq3 := tkM_ok b d (p + 3)
    have hq4 := tkM_ok b d (tkM b d (p + 3)).2
    have k1 := hlk (p + 2) (by omega)
    have k2 := hlk (p + 3) (by omega)
    have k3 := hlk (tkM b d (p + 3)).2 (by omega)
    have l0 := fw_pick_look b p 4 hb (by omega) (by omega)
    have l1 := fw_pick_look b (p + 1) 5 hb (by omega) (by omega)
    have l2 := tkM_one hb (p := p + 1) (by omega)
    have l3 := tkM_sign hb (p := p + 2) (by omega)
    have w1 : IntKind.i64.wrap (d : Int) = d := wrap64 (by omega) (by omega)
    rw [show p + 1 + 1 = p + 2 from rfl] at l1 l2
    rw [show p + 2 + 1 = p + 3 from rfl] at l3
    refine pcW [] [fw_pick, fw_one, fw] fok_177 ?_
    simp only [tkM]
    generalize tkM b d (tkM b d (p + 3)).2 = C at *
    generalize tkM b d (p + 3) = B at *
    generalize tkM b d (p + 2) = A at *
    by_cases c0 : pkM b p 4 = 0
    · simp [gops, fa_177, callOW, l0, l2, c0, rg7, rg1, show ¬ ((d : Int) + 1 < 1) by omega]
      rfl
    · by_cases c1 : pkM b (p + 1) 5 = 0
      · simp [gops, fa_177, callOW, hid, l0, l1, c0, c1, k1, w1, rg7, rg1, show ¬ ((d : Int) + 1 < 1) by omega]
        exact ⟨le_big (by omega), rfl⟩
      · simp [gops, fa_177, callOW, hid, l0, l1, l3, c0, c1, k2, k3, w1, rg5, rg1, show ¬ ((d : Int) + 1 < 1) by omega]
        exact ⟨le_big (by omega), le_big (by omega), rfl⟩
end Go.PS
end

section
-- Contracts: a term that is drawn, of any kind.
set_option maxRecDepth 100000
set_option linter.unusedVariables false
set_option linter.unusedSimpArgs false
namespace Go.PS
open Go.Proofs

theorem termOf_pc (b : List Int) (p : Nat) (d : Int) (hb : BB b) (hp : p ≤ 1000000) (h0 : 0 ≤ d) (h3 : d ≤ 3) (hp2 : p ≤ 900000) : PC Try.prog 177 (.ptr 0 0 0 :: [I64 d]) (some (RS b p)) false (fun r c => imm 5 r = imm 5 (IL (tkM b d.toNat p).1) ∧ c = (RS b ((tkM b d.toNat p).2))) := by
  obtain ⟨d, rfl⟩ := Int.eq_ofNat_of_zero_le h0
  have : 2 ^ d ≤ 2 ^ 3 := Nat.pow_le_pow_right (by omega) (by omega)
  exact termOf_aux hb d p (by omega) (by omega)
noncomputable def fw_termOf : FamW Try.prog := mkFamW (X := List Int × Nat × Int) 177 (fun (b, p, d) => (.ptr 0 0 0 :: [I64 d])) (fun (b, p, d) => (RS b p)) (fun (b, p, d) => (BB b) ∧ (p ≤ 1000000) ∧ (0 ≤ d) ∧ (d ≤ 3) ∧ (p ≤ 900000)) (fun (b, p, d) => IL (tkM b d.toNat p).1) (fun (b, p, d) => (RS b ((tkM b d.toNat p).2))) (by
  rintro ⟨b, p, d⟩ ⟨hb, hp, h0, h3, hp2⟩
  exact termOf_pc b p d hb hp h0 h3 hp2)
@[simp] theorem fw_termOf_id : fw_termOf.id = 177 := rfl
@[simp] theorem fw_termOf_look (b : List Int) (p : Nat) (d : Int) (hb : BB b) (hp : p ≤ 1000000) (h0 : 0 ≤ d) (h3 : d ≤ 3) (hp2 : p ≤ 900000) : fw_termOf.look (.ptr 0 0 0 :: [I64 d]) (RS b p) = some (IL (tkM b d.toNat p).1, (RS b ((tkM b d.toNat p).2))) :=
  lookG_of (X := List Int × Nat × Int) (args := fun (b, p, d) => (.ptr 0 0 0 :: [I64 d])) (cell := fun (b, p, d) => (RS b p)) (pre := fun (b, p, d) => (BB b) ∧ (p ≤ 1000000) ∧ (0 ≤ d) ∧ (d ≤ 3) ∧ (p ≤ 900000)) (val := fun (b, p, d) => IL (tkM b d.toNat p).1) (cell' := fun (b, p, d) => (RS b ((tkM b d.toNat p).2))) (by
  rintro ⟨b, p, d⟩ ⟨b', p', d'⟩ h h2
  simp at h h2
  try simp only [and_assoc] at h
  obtain ⟨rfl, rfl⟩ := h2
  subst h
  exact ⟨rfl, rfl⟩) (b, p, d) ⟨hb, hp, h0, h3, hp2⟩
attribute [irreducible] fw_termOf
def inlTm (id : Nat) : Option FnA := if id = 177 then some fa_177b else none
theorem inlT_fok (id : Nat) (fa : FnA) (h : inlTm id = some fa) : ∃ A, FnOk Try.prog id fa A := by
  unfold inlTm at h
  split at h
  · rename_i e; injection h with h; subst h; exact ⟨_, e ▸ fok_177b⟩
  · cases h
theorem pcWI (T : List (Fam Try.prog)) (TW : List (FamW Try.prog)) {f : Nat} {fa : FnA} {A : Ann} (hf : FnOk Try.prog f fa A) {ds cs : List D} {R : D → List D → Prop}
    (h : run (CI inlTm) 0 (inlW (CI inlTm) T TW 1 0) fa.ac (retQ2 (CI inlTm).tt fa.res R) ⟨args0 0 ds, [⟨0, 0, .cells cs⟩], 1⟩) : PC Try.prog f ds (some cs) false R :=
  pc_of_run2 (C := CI inlTm) (kb := 0) hty0 Try.checked.mixed (inlW_ok (C := CI inlTm) hty0 Try.checked.mixed (by intro f fa h; exact inlT_fok f fa h) T TW 1 0) hf h
section
variable {T : List (Fam Try.prog)} {TW : List (FamW Try.prog)} {n kb kb' id : Nat} {caps args : List D} {σ : St} {d : Option Nat} {ops : List AOper} {Q : St → Prop}
theorem callOWI (hn : (id == 177) = false) (hw : (findW id TW).isSome = true) : callO (CI inlTm) kb' (inlW (CI inlTm) T TW n kb) d 16 (.fn id caps) args σ ops Q = tabW2 (findW id TW) (args ++ caps) σ.h (fun v h => opsK (CI inlTm) kb' (inlW (CI inlTm) T TW n kb) ops ⟨put σ.t d (imm 5 v), h, σ.g⟩ Q) :=
  callO16W' (by show inlTm id = none; unfold inlTm; rw [if_neg (by simpa using hn)]) hw
theorem callOT0 : callO (CI inlTm) kb' (inlW (CI inlTm) T TW 1 kb) d 16 (.fn 177 caps) args σ ops Q =
    run (CI inlTm) (kb + 4000) (inlW (CI inlTm) T TW 0 (kb + 4000)) fa_177b.ac (inlQ (CI inlTm).tt fa_177b.res (backK (CI inlTm) kb' (inlW (CI inlTm) T TW 1 kb) σ.t d ops Q)) ⟨args0 0 (args ++ caps), σ.h, σ.g⟩ := callO16I (by rfl)
theorem callOTW {f : FamW Try.prog} (hw : findW id TW = some f) : callO (CI inlTm) kb' (inlW (CI inlTm) T TW 0 kb) d 16 (.fn id caps) args σ ops Q = tabW2 (some f) (args ++ caps) σ.h (fun v h => opsK (CI inlTm) kb' (inlW (CI inlTm) T TW 0 kb) ops ⟨put σ.t d (imm 5 v), h, σ.g⟩ Q) := by
  show tabW T TW id (args ++ caps) σ.h σ.g (fun v h g => opsK (CI inlTm) kb' (inlW (CI inlTm) T TW 0 kb) ops ⟨put σ.t d v, h, g⟩ Q) = _
  unfold tabW
  rw [hw]
end

def dep4 (b : List Int) (p : Nat) : Int := gi [2, 3, 1, 0] (pkM b p 4).toNat
theorem dep4_rng {b : List Int} (hb : BB b) {p : Nat} (hp : p ≤ 1000000) : 0 ≤ dep4 b p ∧ dep4 b p ≤ 3 := by
  have h := pkM_rng hb (p := p) (by omega) (n := 4) (by omega)
  unfold dep4
  generalize pkM b p 4 = k at *
  have : k = 0 ∨ k = 1 ∨ k = 2 ∨ k = 3 := by omega
  rcases this with rfl | rfl | rfl | rfl <;> simp [gi]
/-- Numbers that may be no term, and how many numbers have been drawn. -/
def stT (b : List Int) (l : List Int) (q : Nat) : List Int × Nat :=
  if pkM b q 30 = 0 then (l ++ [0], q + 1)
  else if pkM b q 30 = 1 then (l.set (pkM b (q + 1) l.length).toNat (gi [3, 17, -1, 12] (pkM b (q + 2) 4).toNat), q + 3)
  else if pkM b q 30 = 2 then (l.tail, q + 1)
  else (l, q + 1)
def stM (b : List Int) (p : Nat) : List Int × Nat := stT b (tkM b (dep4 b p).toNat (p + 1)).1 (tkM b (dep4 b p).toNat (p + 1)).2
def st0 : AC := match fa_138.ac with | .seq x _ => x | x => x
def st1 : AC := match fa_138.ac with | .seq _ (.seq x _) => x | x => x
def st2 : AC := match fa_138.ac with | .seq _ (.seq _ x) => x | x => x
theorem st_split : fa_138.ac = .seq st0 (.seq st1 st2) := rfl
set_option maxHeartbeats 4000000 in
theorem st_rest {b : List Int} (hb : BB b) {k g g2 q : Nat} {l : List Int} (hk : k = 4136 ∨ k = 4168 ∨ k = 4280) (h1 : 1 ≤ l.length) (h15 : l.length ≤ 15) (hq : q ≤ 900000) :
    run (CI inlTm) 0 (inlW (CI inlTm) [] [fw_pick, fw_one, fw_termOf] 1 0) st2 (retQ2 (CI inlTm).tt fa_138.res (fun r c => imm 5 r = imm 5 (IL (stT b l q).1) ∧ c = RS b (stT b l q).2)) ⟨[(0, .ptr 0 0 0), (3, .arr k g)], [⟨k, g, .arr 1 (ints l)⟩, ⟨0, 0, .cells (RS b q)⟩], g2⟩ := by
  have l0 := fw_pick_look b q 30 hb (by omega) (by omega)
  have l1 := fw_pick_look b (q + 1) l.length hb (by omega) (by omega)
  have l2 : fw_one.look [.ptr 0 0 0, .list 1 [.int .i64 3, .int .i64 17, .int .i64 (-1), .int .i64 12]] (RS b (q + 2)) = some (I64 (gi [3, 17, -1, 12] (pkM b (q + 2) 4).toNat), RS b (q + 3)) := fw_one_look b (q + 2) [3, 17, -1, 12] hb (by omega) (by unfold Big; simp) (by simp)
  rw [show q + 1 + 1 = q + 2 from rfl] at l1
  have hr := pkM_rng hb (p := q + 1) (by omega) (n := l.length) (by omega)
  have hne : ¬ l = [] := fun e => by rw [e] at h1; simp at h1
  unfold stT
  generalize pkM b (q + 1) l.length = k2 at *
  generalize gi [3, 17, -1, 12] (pkM b (q + 2) 4).toNat = z at *
  have hset : (ints l).set k2.toNat (I64 z) = ints (l.set k2.toNat z) := by simp [ints, List.map_set]
  have hkn : k2.toNat < l.length := by omega
  have hb1 : l.length + 1 ≤ big := le_big (by omega)
  rcases hk with rfl | rfl | rfl
  all_goals
    by_cases c0 : pkM b q 30 = 0
    · simp [st2, fa_138, callOWI, l0, c0, hb1]
    · by_cases c1 : pkM b q 30 = 1
      · simp [st2, fa_138, callOWI, l0, l1, l2, hr, hkn, hset, c0, c1, rg4]
      · by_cases c2 : pkM b q 30 = 2
        · simp [st2, fa_138, callOWI, l0, c0, c1, c2, h1]
          exact ⟨by omega, by cases l <;> rfl⟩
        · simp [st2, fa_138, callOWI, l0, c0, c1, c2]
set_option maxHeartbeats 4000000 in
theorem someT_pc (b : List Int) (p : Nat) (hb : BB b) (hp : p ≤ 1000000) (hp2 : p ≤ 800000) : PC Try.prog 138 (.ptr 0 0 0 :: []) (some (RS b p)) false (fun r c => imm 5 r = imm 5 (IL (stM b p).1) ∧ c = (RS b ((stM b p).2))) := by
  have hr := dep4_rng hb (p := p) (by omega)
  have l1 : fw_one.look [.ptr 0 0 0, .list 1 [.int .i64 2, .int .i64 3, .int .i64 1, .int .i64 0]] (RS b p) = some (I64 (dep4 b p), RS b (p + 1)) := fw_one_look b p [2, 3, 1, 0] hb (by omega) (by unfold Big; simp) (by simp)
  unfold stM
  generalize dep4 b p = d at *
  obtain ⟨d, rfl⟩ := Int.eq_ofNat_of_zero_le hr.1
  have h3 : d ≤ 3 := by omega
  simp only [Int.toNat_natCast]
  have hpow : 2 ^ d ≤ 2 ^ 3 := Nat.pow_le_pow_right (by omega) h3
  have hpow2 : 2 ^ (d + 1) ≤ 2 ^ 4 := Nat.pow_le_pow_right (by omega) (by omega)
  have hok := tkM_ok b d (p + 1)
  refine pcWI [] [fw_pick, fw_one, fw_termOf] fok_138 ?_
  rw [st_split]
  simp [st0, st1, fa_138, callOWI, l1, rg4]
  rw [callOT0]
  rcases d with _ | d
  · have l2 := tkM_one hb (p := p + 1) (by omega)
    simp [gops, fa_177b, callOTW (f := fw_one), l2, rg7]
    exact st_rest hb (k := 4136) (l := [lf7 b (p + 1)]) (q := p + 2) (.inl rfl) (by simp) (by simp) (by omega)
  · have hq := tkM_ok b d (p + 3)
    have hq3 := tkM_ok b d (p + 4)
    have hq4 := tkM_ok b d (tkM b d (p + 4)).2
    have hdp : 2 ^ (d + 1) = 2 * 2 ^ d := by rw [Nat.pow_succ]; omega
    have k1 := fw_termOf_look b (p + 3) d hb (by omega) (by omega) (by omega) (by omega)
    have k2 := fw_termOf_look b (p + 4) d hb (by omega) (by omega) (by omega) (by omega)
    have k3 := fw_termOf_look b (tkM b d (p + 4)).2 d hb (by omega) (by omega) (by omega) (by omega)
    simp only [Int.toNat_natCast] at k1 k2 k3
    have l0 := fw_pick_look b (p + 1) 4 hb (by omega) (by omega)
    have l4 := fw_pick_look b (p + 2) 5 hb (by omega) (by omega)
    have l2 := tkM_one hb (p := p + 2) (by omega)
    have l3 := tkM_sign hb (p := p + 3) (by omega)
    have w1 : IntKind.i64.wrap (d : Int) = d := wrap64 (by omega) (by omega)
    rw [show p + 1 + 1 = p + 2 from rfl] at l0
    rw [show p + 2 + 1 = p + 3 from rfl] at l4 l2
    rw [show p + 3 + 1 = p + 4 from rfl] at l3
    have et : tkM b (d + 1) (p + 1) = if pkM b (p + 1) 4 = 0 then ([lf7 b (p + 2)], p + 3) else if pkM b (p + 2) 5 = 0 then (12 :: (tkM b d (p + 3)).1, (tkM b d (p + 3)).2)
        else (sg5 b (p + 3) :: ((tkM b d (p + 4)).1 ++ (tkM b d (tkM b d (p + 4)).2).1), (tkM b d (tkM b d (p + 4)).2).2) := rfl
    rw [et]
    generalize tkM b d (tkM b d (p + 4)).2 = C at *
    generalize tkM b d (p + 4) = B at *
    generalize tkM b d (p + 3) = A at *
    by_cases c0 : pkM b (p + 1) 4 = 0
    · simp [gops, fa_177b, callOTW (f := fw_one), callOTW (f := fw_pick), l0, l2, c0, rg7, show ¬ ((d : Int) + 1 < 1) by omega]
      exact st_rest hb (k := 4136) (l := [lf7 b (p + 2)]) (q := p + 3) (.inl rfl) (by simp) (by simp) (by omega)
    · by_cases c1 : pkM b (p + 2) 5 = 0
      · simp [gops, fa_177b, callOTW (f := fw_one), callOTW (f := fw_pick), callOTW (f := fw_termOf), l0, l4, c0, c1, k1, w1, rg7, show ¬ ((d : Int) + 1 < 1) by omega]
        exact ⟨le_big (by omega), st_rest hb (k := 4168) (l := 12 :: A.1) (q := A.2) (.inr (.inl rfl)) (by simp) (by simp; omega) (by omega)⟩
      · simp [gops, fa_177b, callOTW (f := fw_one), callOTW (f := fw_pick), callOTW (f := fw_termOf), l0, l3, l4, c0, c1, k2, k3, w1, rg5, show ¬ ((d : Int) + 1 < 1) by omega]
        exact ⟨le_big (by omega), le_big (by omega), st_rest hb (k := 4280) (l := sg5 b (p + 3) :: (B.1 ++ C.1)) (q := C.2) (.inr (.inr rfl)) (by simp) (by simp; omega) (by omega)⟩
noncomputable def fw_someT : FamW Try.prog := mkFamW (X := List Int × Nat) 138 (fun (b, p) => (.ptr 0 0 0 :: [])) (fun (b, p) => (RS b p)) (fun (b, p) => (BB b) ∧ (p ≤ 1000000) ∧ (p ≤ 800000)) (fun (b, p) => IL (stM b p).1) (fun (b, p) => (RS b ((stM b p).2))) (by
  rintro ⟨b, p⟩ ⟨hb, hp, hp2⟩
  exact someT_pc b p hb hp hp2)
@[simp] theorem fw_someT_id : fw_someT.id = 138 := rfl
@[simp] theorem fw_someT_look (b : List Int) (p : Nat) (hb : BB b) (hp : p ≤ 1000000) (hp2 : p ≤ 800000) : fw_someT.look (.ptr 0 0 0 :: []) (RS b p) = some (IL (stM b p).1, (RS b ((stM b p).2))) :=
  lookG_of (X := List Int × Nat) (args := fun (b, p) => (.ptr 0 0 0 :: [])) (cell := fun (b, p) => (RS b p)) (pre := fun (b, p) => (BB b) ∧ (p ≤ 1000000) ∧ (p ≤ 800000)) (val := fun (b, p) => IL (stM b p).1) (cell' := fun (b, p) => (RS b ((stM b p).2))) (by
  rintro ⟨b, p⟩ ⟨b', p'⟩ h h2
  simp at h h2
  try simp only [and_assoc] at h
  obtain ⟨rfl, rfl⟩ := h2
  exact ⟨rfl, rfl⟩) (b, p) ⟨hb, hp, hp2⟩
attribute [irreducible] fw_someT
theorem stM_ok {b : List Int} (hb : BB b) {p : Nat} (hp : p ≤ 800000) : (stM b p).1.length ≤ 16 ∧ (stM b p).2 ≤ p + 40 := by
  have hr := dep4_rng hb (p := p) (by omega)
  unfold stM
  generalize dep4 b p = d at *
  obtain ⟨d, rfl⟩ := Int.eq_ofNat_of_zero_le hr.1
  have h3 : d ≤ 3 := by omega
  simp only [Int.toNat_natCast]
  have hpow : 2 ^ d ≤ 2 ^ 3 := Nat.pow_le_pow_right (by omega) h3
  have hpow2 : 2 ^ (d + 1) ≤ 2 ^ 4 := Nat.pow_le_pow_right (by omega) (by omega)
  have hok := tkM_ok b d (p + 1)
  generalize tkM b d (p + 1) = A at *
  unfold stT
  split
  · simp; omega
  · split
    · simp; omega
    · split
      · simp; omega
      · simp; omega
end Go.PS
end

section
-- PRINTED by gen.py: clean texts of functions, and their tie to the program.
set_option maxRecDepth 100000
namespace Go.PS
open Go.Proofs
/-- spec.DrawValueOf -/
def ex_62_3_131071 : Ex := .fin
def ex_62_3_65535 : Ex := .one 16 ex_62_3_131071
def ex_62_3_32767 : Ex := .one 15 ex_62_3_65535
def ex_62_3_16383 : Ex := (.alt 14 ex_62_3_32767 .stop)
def ex_62_3_15871 : Ex := (.alt 9 ex_62_3_16383 .stop)
def ex_62_3_15855 : Ex := (.alt 4 ex_62_3_15871 .stop)
def ex_62_3_15847 : Ex := .imm 3 ex_62_3_15855
def ex_62_3_15843 : Ex := (.alt 2 ex_62_3_15847 .stop)
def ex_62_3_15841 : Ex := (.alt 1 ex_62_3_15843 .stop)
def ex_62_3_15585 : Ex := .imm 8 ex_62_3_15841
def ex_62_3_15587 : Ex := .imm 8 ex_62_3_15843
def ex_62_3_15599 : Ex := .imm 8 ex_62_3_15855
def ex_62_3_15615 : Ex := .imm 8 ex_62_3_15871
def ex_62_3_15487 : Ex := (.alt 7 ex_62_3_15615 .stop)
def ex_62_3_15471 : Ex := (.alt 4 ex_62_3_15487 (.alt 7 ex_62_3_15599 .stop))
def ex_62_3_15463 : Ex := .imm 3 ex_62_3_15471
def ex_62_3_15459 : Ex := (.alt 2 ex_62_3_15463 (.alt 7 ex_62_3_15587 .stop))
def ex_62_3_15457 : Ex := (.alt 1 ex_62_3_15459 (.alt 7 ex_62_3_15585 .stop))
def ex_62_3_15423 : Ex := (.alt 6 ex_62_3_15487 .stop)
def ex_62_3_15407 : Ex := (.alt 4 ex_62_3_15423 (.alt 6 ex_62_3_15471 .stop))
def ex_62_3_15399 : Ex := .imm 3 ex_62_3_15407
def ex_62_3_15395 : Ex := (.alt 2 ex_62_3_15399 (.alt 6 ex_62_3_15459 .stop))
def ex_62_3_15393 : Ex := (.alt 1 ex_62_3_15395 (.alt 6 ex_62_3_15457 .stop))
def ex_62_3_7201 : Ex := .imm 13 ex_62_3_15393
def ex_62_3_7265 : Ex := .imm 13 ex_62_3_15457
def ex_62_3_7649 : Ex := .imm 13 ex_62_3_15841
def ex_62_3_7651 : Ex := .imm 13 ex_62_3_15843
def ex_62_3_7663 : Ex := .imm 13 ex_62_3_15855
def ex_62_3_7679 : Ex := .imm 13 ex_62_3_15871
def ex_62_3_8191 : Ex := .imm 13 ex_62_3_16383
def ex_62_3_4095 : Ex := (.alt 12 ex_62_3_8191 .stop)
def ex_62_3_3583 : Ex := (.alt 9 ex_62_3_4095 (.alt 12 ex_62_3_7679 .stop))
def ex_62_3_3567 : Ex := (.alt 4 ex_62_3_3583 (.alt 12 ex_62_3_7663 .stop))
def ex_62_3_3559 : Ex := .imm 3 ex_62_3_3567
def ex_62_3_3555 : Ex := (.alt 2 ex_62_3_3559 (.alt 12 ex_62_3_7651 .stop))
def ex_62_3_3553 : Ex := (.alt 1 ex_62_3_3555 (.alt 12 ex_62_3_7649 .stop))
def ex_62_3_3297 : Ex := .imm 8 ex_62_3_3553
def ex_62_3_7267 : Ex := .imm 13 ex_62_3_15459
def ex_62_3_3299 : Ex := .imm 8 ex_62_3_3555
def ex_62_3_7279 : Ex := .imm 13 ex_62_3_15471
def ex_62_3_3311 : Ex := .imm 8 ex_62_3_3567
def ex_62_3_7295 : Ex := .imm 13 ex_62_3_15487
def ex_62_3_3327 : Ex := .imm 8 ex_62_3_3583
def ex_62_3_3199 : Ex := (.alt 7 ex_62_3_3327 (.alt 12 ex_62_3_7295 .stop))
def ex_62_3_3183 : Ex := (.alt 4 ex_62_3_3199 (.alt 7 ex_62_3_3311 (.alt 12 ex_62_3_7279 .stop)))
def ex_62_3_3175 : Ex := .imm 3 ex_62_3_3183
def ex_62_3_3171 : Ex := (.alt 2 ex_62_3_3175 (.alt 7 ex_62_3_3299 (.alt 12 ex_62_3_7267 .stop)))
def ex_62_3_3169 : Ex := (.alt 1 ex_62_3_3171 (.alt 7 ex_62_3_3297 (.alt 12 ex_62_3_7265 .stop)))
def ex_62_3_7203 : Ex := .imm 13 ex_62_3_15395
def ex_62_3_7215 : Ex := .imm 13 ex_62_3_15407
def ex_62_3_7231 : Ex := .imm 13 ex_62_3_15423
def ex_62_3_3135 : Ex := (.alt 6 ex_62_3_3199 (.alt 12 ex_62_3_7231 .stop))
def ex_62_3_3119 : Ex := (.alt 4 ex_62_3_3135 (.alt 6 ex_62_3_3183 (.alt 12 ex_62_3_7215 .stop)))
def ex_62_3_3111 : Ex := .imm 3 ex_62_3_3119
def ex_62_3_3107 : Ex := (.alt 2 ex_62_3_3111 (.alt 6 ex_62_3_3171 (.alt 12 ex_62_3_7203 .stop)))
def ex_62_3_3105 : Ex := (.alt 1 ex_62_3_3107 (.alt 6 ex_62_3_3169 (.alt 12 ex_62_3_7201 .stop)))
def ex_62_3_2047 : Ex := (.alt 11 ex_62_3_4095 .stop)
def ex_62_3_1535 : Ex := (.alt 9 ex_62_3_2047 (.alt 11 ex_62_3_3583 .stop))
def ex_62_3_1519 : Ex := (.alt 4 ex_62_3_1535 (.alt 11 ex_62_3_3567 .stop))
def ex_62_3_1511 : Ex := .imm 3 ex_62_3_1519
def ex_62_3_1507 : Ex := (.alt 2 ex_62_3_1511 (.alt 11 ex_62_3_3555 .stop))
def ex_62_3_1505 : Ex := (.alt 1 ex_62_3_1507 (.alt 11 ex_62_3_3553 .stop))
def ex_62_3_1249 : Ex := .imm 8 ex_62_3_1505
def ex_62_3_1251 : Ex := .imm 8 ex_62_3_1507
def ex_62_3_1263 : Ex := .imm 8 ex_62_3_1519
def ex_62_3_1279 : Ex := .imm 8 ex_62_3_1535
def ex_62_3_1151 : Ex := (.alt 7 ex_62_3_1279 (.alt 11 ex_62_3_3199 .stop))
def ex_62_3_1135 : Ex := (.alt 4 ex_62_3_1151 (.alt 7 ex_62_3_1263 (.alt 11 ex_62_3_3183 .stop)))
def ex_62_3_1127 : Ex := .imm 3 ex_62_3_1135
def ex_62_3_1123 : Ex := (.alt 2 ex_62_3_1127 (.alt 7 ex_62_3_1251 (.alt 11 ex_62_3_3171 .stop)))
def ex_62_3_1121 : Ex := (.alt 1 ex_62_3_1123 (.alt 7 ex_62_3_1249 (.alt 11 ex_62_3_3169 .stop)))
def ex_62_3_1087 : Ex := (.alt 6 ex_62_3_1151 (.alt 11 ex_62_3_3135 .stop))
def ex_62_3_1071 : Ex := (.alt 4 ex_62_3_1087 (.alt 6 ex_62_3_1135 (.alt 11 ex_62_3_3119 .stop)))
def ex_62_3_1063 : Ex := .imm 3 ex_62_3_1071
def ex_62_3_1059 : Ex := (.alt 2 ex_62_3_1063 (.alt 6 ex_62_3_1123 (.alt 11 ex_62_3_3107 .stop)))
def ex_62_3_1057 : Ex := (.alt 1 ex_62_3_1059 (.alt 6 ex_62_3_1121 (.alt 11 ex_62_3_3105 .stop)))
def ex_62_3_33 : Ex := .one 10 ex_62_3_1057
def ex_62_3_1 : Ex := .one 5 ex_62_3_33
def ex_62_3_0 : Ex := .one 0 ex_62_3_1
def ro_62_3 : List AOper := [⟨some 12, (.mv (.t 5)), 72, none, 0⟩, ⟨some 13, (.faddr 27 (.t 6) 0), 0, none, 0⟩, ⟨some 14, (.load 23 (.t 13)), 23, none, 0⟩, ⟨some 15, (.len 23 (.t 14)), 3, none, 0⟩, ⟨some 16, (.call (.f 123) [(.t 12), (.t 15)]), 3, none, 16⟩, ⟨some 17, (.mv (.t 5)), 72, none, 0⟩, ⟨some 18, (.faddr 27 (.t 6) 0), 0, none, 0⟩, ⟨some 19, (.load 23 (.t 18)), 23, none, 0⟩, ⟨some 20, (.len 23 (.t 19)), 3, none, 0⟩, ⟨some 21, (.call (.f 123) [(.t 17), (.t 20)]), 3, none, 16⟩, ⟨some 22, (.mv (.t 5)), 72, none, 0⟩, ⟨some 23, (.faddr 27 (.t 6) 0), 0, none, 0⟩, ⟨some 24, (.load 23 (.t 23)), 23, none, 0⟩, ⟨some 25, (.len 23 (.t 24)), 3, none, 0⟩, ⟨some 26, (.call (.f 123) [(.t 22), (.t 25)]), 3, none, 16⟩, ⟨some 27, (.bslice 23 3 [(0, (.t 16)), (1, (.t 21)), (2, (.t 26))]), 23, none, 0⟩, ⟨some 7, (.mv (.t 27)), 23, none, 0⟩]
theorem ro_62_3_0 : ro_62_3[0]? = some ⟨some 12, (.mv (.t 5)), 72, none, 0⟩ := (rfl)
theorem ro_62_3_1 : ro_62_3[1]? = some ⟨some 13, (.faddr 27 (.t 6) 0), 0, none, 0⟩ := (rfl)
theorem ro_62_3_2 : ro_62_3[2]? = some ⟨some 14, (.load 23 (.t 13)), 23, none, 0⟩ := (rfl)
theorem ro_62_3_3 : ro_62_3[3]? = some ⟨some 15, (.len 23 (.t 14)), 3, none, 0⟩ := (rfl)
theorem ro_62_3_4 : ro_62_3[4]? = some ⟨some 16, (.call (.f 123) [(.t 12), (.t 15)]), 3, none, 16⟩ := (rfl)
theorem ro_62_3_5 : ro_62_3[5]? = some ⟨some 17, (.mv (.t 5)), 72, none, 0⟩ := (rfl)
theorem ro_62_3_6 : ro_62_3[6]? = some ⟨some 18, (.faddr 27 (.t 6) 0), 0, none, 0⟩ := (rfl)
theorem ro_62_3_7 : ro_62_3[7]? = some ⟨some 19, (.load 23 (.t 18)), 23, none, 0⟩ := (rfl)
theorem ro_62_3_8 : ro_62_3[8]? = some ⟨some 20, (.len 23 (.t 19)), 3, none, 0⟩ := (rfl)
theorem ro_62_3_9 : ro_62_3[9]? = some ⟨some 21, (.call (.f 123) [(.t 17), (.t 20)]), 3, none, 16⟩ := (rfl)
theorem ro_62_3_10 : ro_62_3[10]? = some ⟨some 22, (.mv (.t 5)), 72, none, 0⟩ := (rfl)
theorem ro_62_3_11 : ro_62_3[11]? = some ⟨some 23, (.faddr 27 (.t 6) 0), 0, none, 0⟩ := (rfl)
theorem ro_62_3_12 : ro_62_3[12]? = some ⟨some 24, (.load 23 (.t 23)), 23, none, 0⟩ := (rfl)
theorem ro_62_3_13 : ro_62_3[13]? = some ⟨some 25, (.len 23 (.t 24)), 3, none, 0⟩ := (rfl)
theorem ro_62_3_14 : ro_62_3[14]? = some ⟨some 26, (.call (.f 123) [(.t 22), (.t 25)]), 3, none, 16⟩ := (rfl)
theorem ro_62_3_15 : ro_62_3[15]? = some ⟨some 27, (.bslice 23 3 [(0, (.t 16)), (1, (.t 21)), (2, (.t 26))]), 23, none, 0⟩ := (rfl)
theorem ro_62_3_16 : ro_62_3[16]? = some ⟨some 7, (.mv (.t 27)), 23, none, 0⟩ := (rfl)
def ex_62_6_127 : Ex := .fin
def ex_62_6_63 : Ex := .one 6 ex_62_6_127
def ex_62_6_31 : Ex := .one 5 ex_62_6_63
def ex_62_6_15 : Ex := (.alt 4 ex_62_6_31 .stop)
def ex_62_6_14 : Ex := (.alt 0 ex_62_6_15 .stop)
def ex_62_6_11 : Ex := (.alt 2 ex_62_6_15 .stop)
def ex_62_6_10 : Ex := (.alt 0 ex_62_6_11 (.alt 2 ex_62_6_14 .stop))
def ex_62_6_2 : Ex := .one 3 ex_62_6_10
def ex_62_6_0 : Ex := .one 1 ex_62_6_2
def ro_62_6 : List AOper := [⟨some 33, (.load 27 (.t 6)), 27, none, 0⟩, ⟨some 34, (.mv (.t 5)), 72, none, 0⟩, ⟨some 35, (.call (.f 138) [(.t 34)]), 23, none, 16⟩, ⟨some 36, (.mv (.t 7)), 23, none, 0⟩, ⟨none, (.store 27 (.t 2) (.t 33)), 0, none, 0⟩, ⟨some 3, (.mv (.t 35)), 23, none, 0⟩, ⟨some 4, (.mv (.t 36)), 23, none, 0⟩]
theorem ro_62_6_0 : ro_62_6[0]? = some ⟨some 33, (.load 27 (.t 6)), 27, none, 0⟩ := (rfl)
theorem ro_62_6_1 : ro_62_6[1]? = some ⟨some 34, (.mv (.t 5)), 72, none, 0⟩ := (rfl)
theorem ro_62_6_2 : ro_62_6[2]? = some ⟨some 35, (.call (.f 138) [(.t 34)]), 23, none, 16⟩ := (rfl)
theorem ro_62_6_3 : ro_62_6[3]? = some ⟨some 36, (.mv (.t 7)), 23, none, 0⟩ := (rfl)
theorem ro_62_6_4 : ro_62_6[4]? = some ⟨none, (.store 27 (.t 2) (.t 33)), 0, none, 0⟩ := (rfl)
theorem ro_62_6_5 : ro_62_6[5]? = some ⟨some 3, (.mv (.t 35)), 23, none, 0⟩ := (rfl)
theorem ro_62_6_6 : ro_62_6[6]? = some ⟨some 4, (.mv (.t 36)), 23, none, 0⟩ := (rfl)
def an_62 : Ann := ⟨[(1, 1, 16), (2, 1, 16), (3, 4, 16), (3, 9, 16), (3, 14, 16), (4, 1, 16), (6, 2, 16)], [(0, [0, 2]), (1, [2, 5]), (2, [2, 5, 6]), (3, [2, 5, 6, 7]), (4, [2, 5, 6, 7, 30]), (5, [2, 5, 6, 7]), (6, [2, 3, 4])], [], [(3, ex_62_3_0, [48, 4080, 16]), (6, ex_62_6_0, [48, 4080, 16])]⟩
def fa_62 : FnA := ⟨37, [.c 2 27, .t 3, .t 4],
  (.seq
    (.region false [⟨some 2, (.alloc 27), 0, none, 0⟩, ⟨some 3, (.mv (.c .nil)), 23, none, 0⟩, ⟨some 4, (.mv (.c .nil)), 23, none, 0⟩] (some [0, 2]))
    (.seq
      (.region false [⟨some 8, (.mv (.t 0)), 22, none, 0⟩, ⟨some 9, (.call (.f 90) [(.t 8)]), 72, none, 16⟩, ⟨some 5, (.mv (.t 9)), 72, none, 0⟩] (some [2, 5]))
      (.seq
        (.region false [⟨some 10, (.mv (.t 5)), 72, none, 0⟩, ⟨some 11, (.call (.f 105) [(.t 10)]), 27, none, 16⟩, ⟨some 6, (.alloc 27), 0, none, 0⟩, ⟨none, (.store 27 (.t 6) (.t 11)), 0, none, 0⟩] (some [2, 5, 6]))
        (.seq
          (.expl ro_62_3 ex_62_3_0 [2, 5, 6, 7] [48, 4080, 16])
          (.seq
            (.seq
              (.region false [⟨some 28, (.mv (.t 5)), 72, none, 0⟩, ⟨some 29, (.call (.f 106) [(.t 28), (.c (.int .i64 24))]), 3, none, 16⟩, ⟨some 30, (.bin .eql 3 (.t 29) (.c (.int .i64 0))), 4, none, 0⟩] (some [2, 5, 6, 7, 30]))
              (.cond (.t 30)
                (.region false [⟨some 31, (.mv (.t 7)), 23, none, 0⟩, ⟨some 32, (.slice 23 (.t 31) none (some (.c (.int .i64 2)))), 23, none, 0⟩, ⟨some 7, (.mv (.t 32)), 23, none, 0⟩] (some [2, 5, 6, 7]))
                .skip))
            (.seq
              (.expl ro_62_6 ex_62_6_0 [2, 3, 4] [48, 4080, 16])
              .ret))))))⟩
theorem fok_62 : FnOk Try.prog 62 fa_62 an_62 := ⟨Try.f62, _, Try.func62, rfl, by kernel_rfl, rfl, rfl, by decide, by kernel_rfl⟩
/-- laws.FnValueOf -/
def an_12 : Ann := ⟨[(3, 1, 3), (4, 3, 3), (5, 4, 3), (6, 4, 3), (7, 0, 1), (7, 2, 2), (8, 0, 1), (8, 4, 2), (9, 7, 3), (9, 10, 3), (9, 22, 3)], [(0, [0]), (1, [0, 11]), (2, [2]), (3, [3, 4, 5]), (4, [3, 4, 5, 6]), (5, [3, 4, 5, 6, 31]), (6, [2]), (7, [3, 4, 5, 6, 7]), (8, [3, 4, 5, 6, 7, 8]), (9, [2])], [], []⟩
def fa_12 : FnA := ⟨76, [.t 2],
  (.seq
    (.region false [⟨some 2, (.mv (.c (.bool false))), 4, none, 0⟩] (some [0]))
    (.seq
      (.seq
        (.region false [⟨some 9, (.mv (.t 0)), 22, none, 0⟩, ⟨some 10, (.len 22 (.t 9)), 3, none, 0⟩, ⟨some 11, (.bin .gtr 3 (.t 10) (.c (.int .i64 1048576))), 4, none, 0⟩] (some [0, 11]))
        (.cond (.t 11)
          (.seq
            (.region false [⟨some 2, (.mv (.c (.bool true))), 4, none, 0⟩] (some [2]))
            .ret)
          .skip))
      (.seq
        (.region false [⟨some 13, (.mv (.t 0)), 22, none, 0⟩, ⟨some 14, (.call (.f 62) [(.t 13)]), 54, none, 3⟩, ⟨some 12, (.mv (.t 14)), 54, none, 0⟩, ⟨some 15, (.ext (.t 12) 0), 27, none, 0⟩, ⟨some 16, (.ext (.t 12) 1), 23, none, 0⟩, ⟨some 17, (.ext (.t 12) 2), 23, none, 0⟩, ⟨some 3, (.alloc 27), 0, none, 0⟩, ⟨none, (.store 27 (.t 3) (.t 15)), 0, none, 0⟩, ⟨some 4, (.mv (.t 16)), 23, none, 0⟩, ⟨some 5, (.mv (.t 17)), 23, none, 0⟩] (some [3, 4, 5]))
        (.seq
          (.region false [⟨some 18, (.load 27 (.t 3)), 27, none, 0⟩, ⟨some 19, (.mv (.t 4)), 23, none, 0⟩, ⟨some 20, (.mv (.t 5)), 23, none, 0⟩, ⟨some 21, (.call (.f 63) [(.t 18), (.t 19), (.t 20)]), 3, none, 3⟩, ⟨some 6, (.mv (.t 21)), 3, none, 0⟩] (some [3, 4, 5, 6]))
          (.seq
            (.seq
              (.region false (gops [⟨some 22, (.mv (.t 6)), 3, none, 0⟩, ⟨some 23, (.load 27 (.t 3)), 27, none, 0⟩, ⟨some 24, (.mv (.t 4)), 23, none, 0⟩, ⟨some 25, (.mv (.t 5)), 23, none, 0⟩, ⟨some 26, (.call (.f 64) [(.t 23), (.t 24), (.t 25)]), 3, none, 3⟩, ⟨some 27, (.bin .neq 3 (.t 22) (.t 26)), 4, none, 0⟩, ⟨some 28, (.mv (.t 27)), 4, none, 0⟩, ⟨some 29, (.mv (.t 6)), 3, some (28, false), 0⟩, ⟨some 30, (.bin .lss 3 (.t 29) (.c (.int .i64 0))), 4, some (28, false), 0⟩, ⟨some 31, (.pick (.t 28) (.c (.bool true)) (.t 30)), 4, none, 0⟩]) (some [3, 4, 5, 6, 31]))
              (.cond (.t 31)
                (.seq
                  (.region false [⟨some 32, (.mv (.t 6)), 3, none, 0⟩, ⟨some 33, (.load 27 (.t 3)), 27, none, 0⟩, ⟨some 34, (.mv (.t 4)), 23, none, 0⟩, ⟨some 35, (.mv (.t 5)), 23, none, 0⟩, ⟨some 36, (.call (.f 64) [(.t 33), (.t 34), (.t 35)]), 3, none, 3⟩, ⟨some 37, (.bin .eql 3 (.t 32) (.t 36)), 4, none, 0⟩, ⟨some 2, (.mv (.t 37)), 4, none, 0⟩] (some [2]))
                  .ret)
                .skip))
            (.seq
              (.region false [⟨some 38, (.bslice 23 1 [(0, (.c (.int .i64 12)))]), 23, none, 1⟩, ⟨some 39, (.mv (.t 4)), 23, none, 0⟩, ⟨some 40, (.app 23 23 (.t 38) (.t 39)), 23, none, 2⟩, ⟨some 7, (.mv (.t 40)), 23, none, 0⟩] (some [3, 4, 5, 6, 7]))
              (.seq
                (.region false [⟨some 41, (.bslice 23 1 [(0, (.c (.int .i64 16)))]), 23, none, 1⟩, ⟨some 42, (.mv (.t 4)), 23, none, 0⟩, ⟨some 43, (.app 23 23 (.t 41) (.t 42)), 23, none, 0⟩, ⟨some 44, (.mv (.t 4)), 23, none, 0⟩, ⟨some 45, (.app 23 23 (.t 43) (.t 44)), 23, none, 2⟩, ⟨some 8, (.mv (.t 45)), 23, none, 0⟩] (some [3, 4, 5, 6, 7, 8]))
                (.seq
                  (.region true (gops (seg [3, 4, 5, 8, 49, 53, 54, 55] [⟨some 46, (.mv (.t 4)), 23, none, 0⟩, ⟨some 47, (.len 23 (.t 46)), 3, none, 0⟩, ⟨some 48, (.bin .eql 3 (.t 47) (.c (.int .i64 15))), 4, none, 0⟩, ⟨some 49, (.mv (.t 48)), 4, none, 0⟩, ⟨some 50, (.load 27 (.t 3)), 27, some (49, false), 0⟩, ⟨some 51, (.mv (.t 7)), 23, some (49, false), 0⟩, ⟨some 52, (.mv (.t 5)), 23, some (49, false), 0⟩, ⟨some 53, (.call (.f 63) [(.t 50), (.t 51), (.t 52)]), 3, some (49, false), 3⟩, ⟨some 54, (.load 27 (.t 3)), 27, some (49, false), 0⟩, ⟨some 55, (.mv (.t 6)), 3, some (49, false), 0⟩]
                  (seg [3, 5, 8, 59, 64, 65] [⟨some 56, (.call (.f 46) [(.t 54), (.t 55)]), 3, some (49, false), 3⟩, ⟨some 57, (.bin .eql 3 (.t 53) (.t 56)), 4, some (49, false), 0⟩, ⟨some 58, (.pick (.t 49) (.c (.bool true)) (.t 57)), 4, none, 0⟩, ⟨some 59, (.mv (.t 58)), 4, none, 0⟩, ⟨some 60, (.mv (.t 4)), 23, some (59, true), 0⟩, ⟨some 61, (.len 23 (.t 60)), 3, some (59, true), 0⟩, ⟨some 62, (.bin .mul 3 (.c (.int .i64 2)) (.t 61)), 3, some (59, true), 0⟩, ⟨some 63, (.bin .geq 3 (.t 62) (.c (.int .i64 15))), 4, some (59, true), 0⟩, ⟨some 64, (.mv (.t 63)), 4, some (59, true), 0⟩, ⟨some 65, (.load 27 (.t 3)), 27, some (64, false), 0⟩]
                  [⟨some 66, (.mv (.t 8)), 23, some (64, false), 0⟩, ⟨some 67, (.mv (.t 5)), 23, some (64, false), 0⟩, ⟨some 68, (.call (.f 63) [(.t 65), (.t 66), (.t 67)]), 3, some (64, false), 3⟩, ⟨some 69, (.faddr 27 (.t 3) 0), 0, some (64, false), 0⟩, ⟨some 70, (.load 23 (.t 69)), 23, some (64, false), 0⟩, ⟨some 71, (.len 23 (.t 70)), 3, some (64, false), 0⟩, ⟨some 72, (.bin .sub 3 (.t 71) (.c (.int .i64 1))), 3, some (64, false), 0⟩, ⟨some 73, (.bin .eql 3 (.t 68) (.t 72)), 4, some (64, false), 0⟩, ⟨some 74, (.pick (.t 64) (.c (.bool true)) (.t 73)), 4, some (59, true), 0⟩, ⟨some 75, (.pick (.t 59) (.t 74) (.c (.bool false))), 4, none, 0⟩, ⟨some 2, (.mv (.t 75)), 4, none, 0⟩] [2] (by decide)) [2] (by decide))) (some [2]))
                  .ret))))))))⟩
theorem fok_12 : FnOk Try.prog 12 fa_12 an_12 := ⟨Try.f12, _, Try.func12, rfl, by kernel_rfl, rfl, rfl, by decide, by kernel_rfl⟩
end Go.PS
end

section
-- PRINTED by mkdraw2.py: draws.
set_option maxRecDepth 100000
set_option linter.unusedVariables false
set_option linter.unusedSimpArgs false
namespace Go.PS
open Go.Proofs
set_option maxHeartbeats 4000000 in
theorem val_dag3 {Q : St → Prop} {b : List Int} {p : Nat} {u : List Int} {t : List (List Int)} {y z w : Int} (l0 : fw_element.look [.ptr 0 0 0, I64 u.length] (RS b p) = some (I64 y, RS b (p + 2))) (l1 : fw_element.look [.ptr 0 0 0, I64 u.length] (RS b (p + 2)) = some (I64 z, RS b (p + 4))) (l2 : fw_element.look [.ptr 0 0 0, I64 u.length] (RS b (p + 4)) = some (I64 w, RS b (p + 6)))
    (hQ : ∀ tb g, getT tb 2 = .ptr 16 1 0 → getT tb 5 = .ptr 4080 2 0 → getT tb 6 = .ptr 48 3 0 → getT tb 7 = .list 1 [I64 y, I64 z, I64 w] → Q ⟨tb, [⟨48, 3, .cells [IL u, RL t]⟩, ⟨4080, 2, .cells (RS b (p + 6))⟩, ⟨16, 1, .cells [.nil, .nil]⟩], g⟩) : ∀ tb g, getT tb 2 = .ptr 16 1 0 → getT tb 5 = .ptr 4080 2 0 → getT tb 6 = .ptr 48 3 0 → exT (CI inlR) 0 (inlW (CI inlR) [] [fw_someAlg, fw_pick, fw_element, fw_someT] 1 0) ro_62_3 Q ex_62_3_0 ⟨tb, [⟨48, 3, .cells [IL u, RL t]⟩, ⟨4080, 2, .cells (RS b (p))⟩, ⟨16, 1, .cells [.nil, .nil]⟩], g⟩ := by
  have n131071 : ∀ tb g, getT tb 2 = .ptr 16 1 0 → getT tb 5 = .ptr 4080 2 0 → getT tb 6 = .ptr 48 3 0 → getT tb 12 = .ptr 4080 2 0 → getT tb 13 = .ptr 48 3 0 → getT tb 14 = IL u → getT tb 15 = I64 (u.length : Int) → getT tb 16 = I64 y → getT tb 17 = .ptr 4080 2 0 → getT tb 18 = .ptr 48 3 0 → getT tb 19 = IL u → getT tb 20 = I64 (u.length : Int) → getT tb 21 = I64 z → getT tb 22 = .ptr 4080 2 0 → getT tb 23 = .ptr 48 3 0 → getT tb 24 = IL u → getT tb 25 = I64 (u.length : Int) → getT tb 26 = I64 w → getT tb 27 = .list 1 [I64 y, I64 z, I64 w] → getT tb 7 = .list 1 [I64 y, I64 z, I64 w] → exT (CI inlR) 0 (inlW (CI inlR) [] [fw_someAlg, fw_pick, fw_element, fw_someT] 1 0) ro_62_3 Q ex_62_3_131071 ⟨tb, [⟨48, 3, .cells [IL u, RL t]⟩, ⟨4080, 2, .cells (RS b (p + 6))⟩, ⟨16, 1, .cells [.nil, .nil]⟩], g⟩ := by
    intro tb g e2 e5 e6 e12 e13 e14 e15 e16 e17 e18 e19 e20 e21 e22 e23 e24 e25 e26 e27 e7
    unfold ex_62_3_131071
    exact hQ tb g e2 e5 e6 e7
  have n65535 : ∀ tb g, getT tb 2 = .ptr 16 1 0 → getT tb 5 = .ptr 4080 2 0 → getT tb 6 = .ptr 48 3 0 → getT tb 12 = .ptr 4080 2 0 → getT tb 13 = .ptr 48 3 0 → getT tb 14 = IL u → getT tb 15 = I64 (u.length : Int) → getT tb 16 = I64 y → getT tb 17 = .ptr 4080 2 0 → getT tb 18 = .ptr 48 3 0 → getT tb 19 = IL u → getT tb 20 = I64 (u.length : Int) → getT tb 21 = I64 z → getT tb 22 = .ptr 4080 2 0 → getT tb 23 = .ptr 48 3 0 → getT tb 24 = IL u → getT tb 25 = I64 (u.length : Int) → getT tb 26 = I64 w → getT tb 27 = .list 1 [I64 y, I64 z, I64 w] → exT (CI inlR) 0 (inlW (CI inlR) [] [fw_someAlg, fw_pick, fw_element, fw_someT] 1 0) ro_62_3 Q ex_62_3_65535 ⟨tb, [⟨48, 3, .cells [IL u, RL t]⟩, ⟨4080, 2, .cells (RS b (p + 6))⟩, ⟨16, 1, .cells [.nil, .nil]⟩], g⟩ := by
    intro tb g e2 e5 e6 e12 e13 e14 e15 e16 e17 e18 e19 e20 e21 e22 e23 e24 e25 e26 e27
    unfold ex_62_3_65535
    simp only [exT_alt, exT_one, exT_imm, exT_stop, and_true]
    rw [ro_62_3_16]
    simp [callDOWR, l0, l1, l2, rg3, e2, e5, e6, e12, e13, e14, e15, e16, e17, e18, e19, e20, e21, e22, e23, e24, e25, e26, e27]
    refine n131071 _ _ ?_ ?_ ?_ ?_ ?_ ?_ ?_ ?_ ?_ ?_ ?_ ?_ ?_ ?_ ?_ ?_ ?_ ?_ ?_ ?_ <;> simp [getT, e2, e5, e6, e12, e13, e14, e15, e16, e17, e18, e19, e20, e21, e22, e23, e24, e25, e26, e27]
  have n32767 : ∀ tb g, getT tb 2 = .ptr 16 1 0 → getT tb 5 = .ptr 4080 2 0 → getT tb 6 = .ptr 48 3 0 → getT tb 12 = .ptr 4080 2 0 → getT tb 13 = .ptr 48 3 0 → getT tb 14 = IL u → getT tb 15 = I64 (u.length : Int) → getT tb 16 = I64 y → getT tb 17 = .ptr 4080 2 0 → getT tb 18 = .ptr 48 3 0 → getT tb 19 = IL u → getT tb 20 = I64 (u.length : Int) → getT tb 21 = I64 z → getT tb 22 = .ptr 4080 2 0 → getT tb 23 = .ptr 48 3 0 → getT tb 24 = IL u → getT tb 25 = I64 (u.length : Int) → getT tb 26 = I64 w → exT (CI inlR) 0 (inlW (CI inlR) [] [fw_someAlg, fw_pick, fw_element, fw_someT] 1 0) ro_62_3 Q ex_62_3_32767 ⟨tb, [⟨48, 3, .cells [IL u, RL t]⟩, ⟨4080, 2, .cells (RS b (p + 6))⟩, ⟨16, 1, .cells [.nil, .nil]⟩], g⟩ := by
    intro tb g e2 e5 e6 e12 e13 e14 e15 e16 e17 e18 e19 e20 e21 e22 e23 e24 e25 e26
    unfold ex_62_3_32767
    simp only [exT_alt, exT_one, exT_imm, exT_stop, and_true]
    rw [ro_62_3_15]
    simp [callDOWR, l0, l1, l2, rg3, e2, e5, e6, e12, e13, e14, e15, e16, e17, e18, e19, e20, e21, e22, e23, e24, e25, e26]
    refine n65535 _ _ ?_ ?_ ?_ ?_ ?_ ?_ ?_ ?_ ?_ ?_ ?_ ?_ ?_ ?_ ?_ ?_ ?_ ?_ ?_ <;> simp [getT, e2, e5, e6, e12, e13, e14, e15, e16, e17, e18, e19, e20, e21, e22, e23, e24, e25, e26]
  have n16383 : ∀ tb g, getT tb 2 = .ptr 16 1 0 → getT tb 5 = .ptr 4080 2 0 → getT tb 6 = .ptr 48 3 0 → getT tb 12 = .ptr 4080 2 0 → getT tb 13 = .ptr 48 3 0 → getT tb 14 = IL u → getT tb 15 = I64 (u.length : Int) → getT tb 16 = I64 y → getT tb 17 = .ptr 4080 2 0 → getT tb 18 = .ptr 48 3 0 → getT tb 19 = IL u → getT tb 20 = I64 (u.length : Int) → getT tb 21 = I64 z → getT tb 22 = .ptr 4080 2 0 → getT tb 23 = .ptr 48 3 0 → getT tb 24 = IL u → getT tb 25 = I64 (u.length : Int) → exT (CI inlR) 0 (inlW (CI inlR) [] [fw_someAlg, fw_pick, fw_element, fw_someT] 1 0) ro_62_3 Q ex_62_3_16383 ⟨tb, [⟨48, 3, .cells [IL u, RL t]⟩, ⟨4080, 2, .cells (RS b (p + 4))⟩, ⟨16, 1, .cells [.nil, .nil]⟩], g⟩ := by
    intro tb g e2 e5 e6 e12 e13 e14 e15 e16 e17 e18 e19 e20 e21 e22 e23 e24 e25
    unfold ex_62_3_16383
    simp only [exT_alt, exT_one, exT_imm, exT_stop, and_true]
    rw [ro_62_3_14]
    simp [callDOWR, l0, l1, l2, rg3, e2, e5, e6, e12, e13, e14, e15, e16, e17, e18, e19, e20, e21, e22, e23, e24, e25]
    refine n32767 _ _ ?_ ?_ ?_ ?_ ?_ ?_ ?_ ?_ ?_ ?_ ?_ ?_ ?_ ?_ ?_ ?_ ?_ ?_ <;> simp [getT, e2, e5, e6, e12, e13, e14, e15, e16, e17, e18, e19, e20, e21, e22, e23, e24, e25]
  have n15871 : ∀ tb g, getT tb 2 = .ptr 16 1 0 → getT tb 5 = .ptr 4080 2 0 → getT tb 6 = .ptr 48 3 0 → getT tb 12 = .ptr 4080 2 0 → getT tb 13 = .ptr 48 3 0 → getT tb 14 = IL u → getT tb 15 = I64 (u.length : Int) → getT tb 16 = I64 y → getT tb 17 = .ptr 4080 2 0 → getT tb 18 = .ptr 48 3 0 → getT tb 19 = IL u → getT tb 20 = I64 (u.length : Int) → getT tb 22 = .ptr 4080 2 0 → getT tb 23 = .ptr 48 3 0 → getT tb 24 = IL u → getT tb 25 = I64 (u.length : Int) → exT (CI inlR) 0 (inlW (CI inlR) [] [fw_someAlg, fw_pick, fw_element, fw_someT] 1 0) ro_62_3 Q ex_62_3_15871 ⟨tb, [⟨48, 3, .cells [IL u, RL t]⟩, ⟨4080, 2, .cells (RS b (p + 2))⟩, ⟨16, 1, .cells [.nil, .nil]⟩], g⟩ := by
    intro tb g e2 e5 e6 e12 e13 e14 e15 e16 e17 e18 e19 e20 e22 e23 e24 e25
    unfold ex_62_3_15871
    simp only [exT_alt, exT_one, exT_imm, exT_stop, and_true]
    rw [ro_62_3_9]
    simp [callDOWR, l0, l1, l2, rg3, e2, e5, e6, e12, e13, e14, e15, e16, e17, e18, e19, e20, e22, e23, e24, e25]
    refine n16383 _ _ ?_ ?_ ?_ ?_ ?_ ?_ ?_ ?_ ?_ ?_ ?_ ?_ ?_ ?_ ?_ ?_ ?_ <;> simp [getT, e2, e5, e6, e12, e13, e14, e15, e16, e17, e18, e19, e20, e22, e23, e24, e25]
  have n15855 : ∀ tb g, getT tb 2 = .ptr 16 1 0 → getT tb 5 = .ptr 4080 2 0 → getT tb 6 = .ptr 48 3 0 → getT tb 12 = .ptr 4080 2 0 → getT tb 13 = .ptr 48 3 0 → getT tb 14 = IL u → getT tb 15 = I64 (u.length : Int) → getT tb 17 = .ptr 4080 2 0 → getT tb 18 = .ptr 48 3 0 → getT tb 19 = IL u → getT tb 20 = I64 (u.length : Int) → getT tb 22 = .ptr 4080 2 0 → getT tb 23 = .ptr 48 3 0 → getT tb 24 = IL u → getT tb 25 = I64 (u.length : Int) → exT (CI inlR) 0 (inlW (CI inlR) [] [fw_someAlg, fw_pick, fw_element, fw_someT] 1 0) ro_62_3 Q ex_62_3_15855 ⟨tb, [⟨48, 3, .cells [IL u, RL t]⟩, ⟨4080, 2, .cells (RS b (p))⟩, ⟨16, 1, .cells [.nil, .nil]⟩], g⟩ := by
    intro tb g e2 e5 e6 e12 e13 e14 e15 e17 e18 e19 e20 e22 e23 e24 e25
    unfold ex_62_3_15855
    simp only [exT_alt, exT_one, exT_imm, exT_stop, and_true]
    rw [ro_62_3_4]
    simp [callDOWR, l0, l1, l2, rg3, e2, e5, e6, e12, e13, e14, e15, e17, e18, e19, e20, e22, e23, e24, e25]
    refine n15871 _ _ ?_ ?_ ?_ ?_ ?_ ?_ ?_ ?_ ?_ ?_ ?_ ?_ ?_ ?_ ?_ ?_ <;> simp [getT, e2, e5, e6, e12, e13, e14, e15, e17, e18, e19, e20, e22, e23, e24, e25]
  have n15847 : ∀ tb g, getT tb 2 = .ptr 16 1 0 → getT tb 5 = .ptr 4080 2 0 → getT tb 6 = .ptr 48 3 0 → getT tb 12 = .ptr 4080 2 0 → getT tb 13 = .ptr 48 3 0 → getT tb 14 = IL u → getT tb 17 = .ptr 4080 2 0 → getT tb 18 = .ptr 48 3 0 → getT tb 19 = IL u → getT tb 20 = I64 (u.length : Int) → getT tb 22 = .ptr 4080 2 0 → getT tb 23 = .ptr 48 3 0 → getT tb 24 = IL u → getT tb 25 = I64 (u.length : Int) → exT (CI inlR) 0 (inlW (CI inlR) [] [fw_someAlg, fw_pick, fw_element, fw_someT] 1 0) ro_62_3 Q ex_62_3_15847 ⟨tb, [⟨48, 3, .cells [IL u, RL t]⟩, ⟨4080, 2, .cells (RS b (p))⟩, ⟨16, 1, .cells [.nil, .nil]⟩], g⟩ := by
    intro tb g e2 e5 e6 e12 e13 e14 e17 e18 e19 e20 e22 e23 e24 e25
    unfold ex_62_3_15847
    simp only [exT_alt, exT_one, exT_imm, exT_stop, and_true]
    rw [ro_62_3_3]
    simp [callDOWR, l0, l1, l2, rg3, e2, e5, e6, e12, e13, e14, e17, e18, e19, e20, e22, e23, e24, e25]
    refine n15855 _ _ ?_ ?_ ?_ ?_ ?_ ?_ ?_ ?_ ?_ ?_ ?_ ?_ ?_ ?_ ?_ <;> simp [getT, e2, e5, e6, e12, e13, e14, e17, e18, e19, e20, e22, e23, e24, e25]
  have n15843 : ∀ tb g, getT tb 2 = .ptr 16 1 0 → getT tb 5 = .ptr 4080 2 0 → getT tb 6 = .ptr 48 3 0 → getT tb 12 = .ptr 4080 2 0 → getT tb 13 = .ptr 48 3 0 → getT tb 17 = .ptr 4080 2 0 → getT tb 18 = .ptr 48 3 0 → getT tb 19 = IL u → getT tb 20 = I64 (u.length : Int) → getT tb 22 = .ptr 4080 2 0 → getT tb 23 = .ptr 48 3 0 → getT tb 24 = IL u → getT tb 25 = I64 (u.length : Int) → exT (CI inlR) 0 (inlW (CI inlR) [] [fw_someAlg, fw_pick, fw_element, fw_someT] 1 0) ro_62_3 Q ex_62_3_15843 ⟨tb, [⟨48, 3, .cells [IL u, RL t]⟩, ⟨4080, 2, .cells (RS b (p))⟩, ⟨16, 1, .cells [.nil, .nil]⟩], g⟩ := by
    intro tb g e2 e5 e6 e12 e13 e17 e18 e19 e20 e22 e23 e24 e25
    unfold ex_62_3_15843
    simp only [exT_alt, exT_one, exT_imm, exT_stop, and_true]
    rw [ro_62_3_2]
    simp [callDOWR, l0, l1, l2, rg3, e2, e5, e6, e12, e13, e17, e18, e19, e20, e22, e23, e24, e25]
    refine n15847 _ _ ?_ ?_ ?_ ?_ ?_ ?_ ?_ ?_ ?_ ?_ ?_ ?_ ?_ ?_ <;> simp [getT, e2, e5, e6, e12, e13, e17, e18, e19, e20, e22, e23, e24, e25]
  have n15841 : ∀ tb g, getT tb 2 = .ptr 16 1 0 → getT tb 5 = .ptr 4080 2 0 → getT tb 6 = .ptr 48 3 0 → getT tb 12 = .ptr 4080 2 0 → getT tb 17 = .ptr 4080 2 0 → getT tb 18 = .ptr 48 3 0 → getT tb 19 = IL u → getT tb 20 = I64 (u.length : Int) → getT tb 22 = .ptr 4080 2 0 → getT tb 23 = .ptr 48 3 0 → getT tb 24 = IL u → getT tb 25 = I64 (u.length : Int) → exT (CI inlR) 0 (inlW (CI inlR) [] [fw_someAlg, fw_pick, fw_element, fw_someT] 1 0) ro_62_3 Q ex_62_3_15841 ⟨tb, [⟨48, 3, .cells [IL u, RL t]⟩, ⟨4080, 2, .cells (RS b (p))⟩, ⟨16, 1, .cells [.nil, .nil]⟩], g⟩ := by
    intro tb g e2 e5 e6 e12 e17 e18 e19 e20 e22 e23 e24 e25
    unfold ex_62_3_15841
    simp only [exT_alt, exT_one, exT_imm, exT_stop, and_true]
    rw [ro_62_3_1]
    simp [callDOWR, l0, l1, l2, rg3, e2, e5, e6, e12, e17, e18, e19, e20, e22, e23, e24, e25]
    refine n15843 _ _ ?_ ?_ ?_ ?_ ?_ ?_ ?_ ?_ ?_ ?_ ?_ ?_ ?_ <;> simp [getT, e2, e5, e6, e12, e17, e18, e19, e20, e22, e23, e24, e25]
  have n15585 : ∀ tb g, getT tb 2 = .ptr 16 1 0 → getT tb 5 = .ptr 4080 2 0 → getT tb 6 = .ptr 48 3 0 → getT tb 12 = .ptr 4080 2 0 → getT tb 17 = .ptr 4080 2 0 → getT tb 18 = .ptr 48 3 0 → getT tb 19 = IL u → getT tb 22 = .ptr 4080 2 0 → getT tb 23 = .ptr 48 3 0 → getT tb 24 = IL u → getT tb 25 = I64 (u.length : Int) → exT (CI inlR) 0 (inlW (CI inlR) [] [fw_someAlg, fw_pick, fw_element, fw_someT] 1 0) ro_62_3 Q ex_62_3_15585 ⟨tb, [⟨48, 3, .cells [IL u, RL t]⟩, ⟨4080, 2, .cells (RS b (p))⟩, ⟨16, 1, .cells [.nil, .nil]⟩], g⟩ := by
    intro tb g e2 e5 e6 e12 e17 e18 e19 e22 e23 e24 e25
    unfold ex_62_3_15585
    simp only [exT_alt, exT_one, exT_imm, exT_stop, and_true]
    rw [ro_62_3_8]
    simp [callDOWR, l0, l1, l2, rg3, e2, e5, e6, e12, e17, e18, e19, e22, e23, e24, e25]
    refine n15841 _ _ ?_ ?_ ?_ ?_ ?_ ?_ ?_ ?_ ?_ ?_ ?_ ?_ <;> simp [getT, e2, e5, e6, e12, e17, e18, e19, e22, e23, e24, e25]
  have n15587 : ∀ tb g, getT tb 2 = .ptr 16 1 0 → getT tb 5 = .ptr 4080 2 0 → getT tb 6 = .ptr 48 3 0 → getT tb 12 = .ptr 4080 2 0 → getT tb 13 = .ptr 48 3 0 → getT tb 17 = .ptr 4080 2 0 → getT tb 18 = .ptr 48 3 0 → getT tb 19 = IL u → getT tb 22 = .ptr 4080 2 0 → getT tb 23 = .ptr 48 3 0 → getT tb 24 = IL u → getT tb 25 = I64 (u.length : Int) → exT (CI inlR) 0 (inlW (CI inlR) [] [fw_someAlg, fw_pick, fw_element, fw_someT] 1 0) ro_62_3 Q ex_62_3_15587 ⟨tb, [⟨48, 3, .cells [IL u, RL t]⟩, ⟨4080, 2, .cells (RS b (p))⟩, ⟨16, 1, .cells [.nil, .nil]⟩], g⟩ := by
    intro tb g e2 e5 e6 e12 e13 e17 e18 e19 e22 e23 e24 e25
    unfold ex_62_3_15587
    simp only [exT_alt, exT_one, exT_imm, exT_stop, and_true]
    rw [ro_62_3_8]
    simp [callDOWR, l0, l1, l2, rg3, e2, e5, e6, e12, e13, e17, e18, e19, e22, e23, e24, e25]
    refine n15843 _ _ ?_ ?_ ?_ ?_ ?_ ?_ ?_ ?_ ?_ ?_ ?_ ?_ ?_ <;> simp [getT, e2, e5, e6, e12, e13, e17, e18, e19, e22, e23, e24, e25]
  have n15599 : ∀ tb g, getT tb 2 = .ptr 16 1 0 → getT tb 5 = .ptr 4080 2 0 → getT tb 6 = .ptr 48 3 0 → getT tb 12 = .ptr 4080 2 0 → getT tb 13 = .ptr 48 3 0 → getT tb 14 = IL u → getT tb 15 = I64 (u.length : Int) → getT tb 17 = .ptr 4080 2 0 → getT tb 18 = .ptr 48 3 0 → getT tb 19 = IL u → getT tb 22 = .ptr 4080 2 0 → getT tb 23 = .ptr 48 3 0 → getT tb 24 = IL u → getT tb 25 = I64 (u.length : Int) → exT (CI inlR) 0 (inlW (CI inlR) [] [fw_someAlg, fw_pick, fw_element, fw_someT] 1 0) ro_62_3 Q ex_62_3_15599 ⟨tb, [⟨48, 3, .cells [IL u, RL t]⟩, ⟨4080, 2, .cells (RS b (p))⟩, ⟨16, 1, .cells [.nil, .nil]⟩], g⟩ := by
    intro tb g e2 e5 e6 e12 e13 e14 e15 e17 e18 e19 e22 e23 e24 e25
    unfold ex_62_3_15599
    simp only [exT_alt, exT_one, exT_imm, exT_stop, and_true]
    rw [ro_62_3_8]
    simp [callDOWR, l0, l1, l2, rg3, e2, e5, e6, e12, e13, e14, e15, e17, e18, e19, e22, e23, e24, e25]
    refine n15855 _ _ ?_ ?_ ?_ ?_ ?_ ?_ ?_ ?_ ?_ ?_ ?_ ?_ ?_ ?_ ?_ <;> simp [getT, e2, e5, e6, e12, e13, e14, e15, e17, e18, e19, e22, e23, e24, e25]
  have n15615 : ∀ tb g, getT tb 2 = .ptr 16 1 0 → getT tb 5 = .ptr 4080 2 0 → getT tb 6 = .ptr 48 3 0 → getT tb 12 = .ptr 4080 2 0 → getT tb 13 = .ptr 48 3 0 → getT tb 14 = IL u → getT tb 15 = I64 (u.length : Int) → getT tb 16 = I64 y → getT tb 17 = .ptr 4080 2 0 → getT tb 18 = .ptr 48 3 0 → getT tb 19 = IL u → getT tb 22 = .ptr 4080 2 0 → getT tb 23 = .ptr 48 3 0 → getT tb 24 = IL u → getT tb 25 = I64 (u.length : Int) → exT (CI inlR) 0 (inlW (CI inlR) [] [fw_someAlg, fw_pick, fw_element, fw_someT] 1 0) ro_62_3 Q ex_62_3_15615 ⟨tb, [⟨48, 3, .cells [IL u, RL t]⟩, ⟨4080, 2, .cells (RS b (p + 2))⟩, ⟨16, 1, .cells [.nil, .nil]⟩], g⟩ := by
    intro tb g e2 e5 e6 e12 e13 e14 e15 e16 e17 e18 e19 e22 e23 e24 e25
    unfold ex_62_3_15615
    simp only [exT_alt, exT_one, exT_imm, exT_stop, and_true]
    rw [ro_62_3_8]
    simp [callDOWR, l0, l1, l2, rg3, e2, e5, e6, e12, e13, e14, e15, e16, e17, e18, e19, e22, e23, e24, e25]
    refine n15871 _ _ ?_ ?_ ?_ ?_ ?_ ?_ ?_ ?_ ?_ ?_ ?_ ?_ ?_ ?_ ?_ ?_ <;> simp [getT, e2, e5, e6, e12, e13, e14, e15, e16, e17, e18, e19, e22, e23, e24, e25]
  have n15487 : ∀ tb g, getT tb 2 = .ptr 16 1 0 → getT tb 5 = .ptr 4080 2 0 → getT tb 6 = .ptr 48 3 0 → getT tb 12 = .ptr 4080 2 0 → getT tb 13 = .ptr 48 3 0 → getT tb 14 = IL u → getT tb 15 = I64 (u.length : Int) → getT tb 16 = I64 y → getT tb 17 = .ptr 4080 2 0 → getT tb 18 = .ptr 48 3 0 → getT tb 22 = .ptr 4080 2 0 → getT tb 23 = .ptr 48 3 0 → getT tb 24 = IL u → getT tb 25 = I64 (u.length : Int) → exT (CI inlR) 0 (inlW (CI inlR) [] [fw_someAlg, fw_pick, fw_element, fw_someT] 1 0) ro_62_3 Q ex_62_3_15487 ⟨tb, [⟨48, 3, .cells [IL u, RL t]⟩, ⟨4080, 2, .cells (RS b (p + 2))⟩, ⟨16, 1, .cells [.nil, .nil]⟩], g⟩ := by
    intro tb g e2 e5 e6 e12 e13 e14 e15 e16 e17 e18 e22 e23 e24 e25
    unfold ex_62_3_15487
    simp only [exT_alt, exT_one, exT_imm, exT_stop, and_true]
    rw [ro_62_3_7]
    simp [callDOWR, l0, l1, l2, rg3, e2, e5, e6, e12, e13, e14, e15, e16, e17, e18, e22, e23, e24, e25]
    refine n15615 _ _ ?_ ?_ ?_ ?_ ?_ ?_ ?_ ?_ ?_ ?_ ?_ ?_ ?_ ?_ ?_ <;> simp [getT, e2, e5, e6, e12, e13, e14, e15, e16, e17, e18, e22, e23, e24, e25]
  have n15471 : ∀ tb g, getT tb 2 = .ptr 16 1 0 → getT tb 5 = .ptr 4080 2 0 → getT tb 6 = .ptr 48 3 0 → getT tb 12 = .ptr 4080 2 0 → getT tb 13 = .ptr 48 3 0 → getT tb 14 = IL u → getT tb 15 = I64 (u.length : Int) → getT tb 17 = .ptr 4080 2 0 → getT tb 18 = .ptr 48 3 0 → getT tb 22 = .ptr 4080 2 0 → getT tb 23 = .ptr 48 3 0 → getT tb 24 = IL u → getT tb 25 = I64 (u.length : Int) → exT (CI inlR) 0 (inlW (CI inlR) [] [fw_someAlg, fw_pick, fw_element, fw_someT] 1 0) ro_62_3 Q ex_62_3_15471 ⟨tb, [⟨48, 3, .cells [IL u, RL t]⟩, ⟨4080, 2, .cells (RS b (p))⟩, ⟨16, 1, .cells [.nil, .nil]⟩], g⟩ := by
    intro tb g e2 e5 e6 e12 e13 e14 e15 e17 e18 e22 e23 e24 e25
    unfold ex_62_3_15471
    simp only [exT_alt, exT_one, exT_imm, exT_stop, and_true]
    refine ⟨?_, ?_⟩
    · rw [ro_62_3_4]
      simp [callDOWR, l0, l1, l2, rg3, e2, e5, e6, e12, e13, e14, e15, e17, e18, e22, e23, e24, e25]
      refine n15487 _ _ ?_ ?_ ?_ ?_ ?_ ?_ ?_ ?_ ?_ ?_ ?_ ?_ ?_ ?_ <;> simp [getT, e2, e5, e6, e12, e13, e14, e15, e17, e18, e22, e23, e24, e25]
    · rw [ro_62_3_7]
      simp [callDOWR, l0, l1, l2, rg3, e2, e5, e6, e12, e13, e14, e15, e17, e18, e22, e23, e24, e25]
      refine n15599 _ _ ?_ ?_ ?_ ?_ ?_ ?_ ?_ ?_ ?_ ?_ ?_ ?_ ?_ ?_ <;> simp [getT, e2, e5, e6, e12, e13, e14, e15, e17, e18, e22, e23, e24, e25]
  have n15463 : ∀ tb g, getT tb 2 = .ptr 16 1 0 → getT tb 5 = .ptr 4080 2 0 → getT tb 6 = .ptr 48 3 0 → getT tb 12 = .ptr 4080 2 0 → getT tb 13 = .ptr 48 3 0 → getT tb 14 = IL u → getT tb 17 = .ptr 4080 2 0 → getT tb 18 = .ptr 48 3 0 → getT tb 22 = .ptr 4080 2 0 → getT tb 23 = .ptr 48 3 0 → getT tb 24 = IL u → getT tb 25 = I64 (u.length : Int) → exT (CI inlR) 0 (inlW (CI inlR) [] [fw_someAlg, fw_pick, fw_element, fw_someT] 1 0) ro_62_3 Q ex_62_3_15463 ⟨tb, [⟨48, 3, .cells [IL u, RL t]⟩, ⟨4080, 2, .cells (RS b (p))⟩, ⟨16, 1, .cells [.nil, .nil]⟩], g⟩ := by
    intro tb g e2 e5 e6 e12 e13 e14 e17 e18 e22 e23 e24 e25
    unfold ex_62_3_15463
    simp only [exT_alt, exT_one, exT_imm, exT_stop, and_true]
    rw [ro_62_3_3]
    simp [callDOWR, l0, l1, l2, rg3, e2, e5, e6, e12, e13, e14, e17, e18, e22, e23, e24, e25]
    refine n15471 _ _ ?_ ?_ ?_ ?_ ?_ ?_ ?_ ?_ ?_ ?_ ?_ ?_ ?_ <;> simp [getT, e2, e5, e6, e12, e13, e14, e17, e18, e22, e23, e24, e25]
  have n15459 : ∀ tb g, getT tb 2 = .ptr 16 1 0 → getT tb 5 = .ptr 4080 2 0 → getT tb 6 = .ptr 48 3 0 → getT tb 12 = .ptr 4080 2 0 → getT tb 13 = .ptr 48 3 0 → getT tb 17 = .ptr 4080 2 0 → getT tb 18 = .ptr 48 3 0 → getT tb 22 = .ptr 4080 2 0 → getT tb 23 = .ptr 48 3 0 → getT tb 24 = IL u → getT tb 25 = I64 (u.length : Int) → exT (CI inlR) 0 (inlW (CI inlR) [] [fw_someAlg, fw_pick, fw_element, fw_someT] 1 0) ro_62_3 Q ex_62_3_15459 ⟨tb, [⟨48, 3, .cells [IL u, RL t]⟩, ⟨4080, 2, .cells (RS b (p))⟩, ⟨16, 1, .cells [.nil, .nil]⟩], g⟩ := by
    intro tb g e2 e5 e6 e12 e13 e17 e18 e22 e23 e24 e25
    unfold ex_62_3_15459
    simp only [exT_alt, exT_one, exT_imm, exT_stop, and_true]
    refine ⟨?_, ?_⟩
    · rw [ro_62_3_2]
      simp [callDOWR, l0, l1, l2, rg3, e2, e5, e6, e12, e13, e17, e18, e22, e23, e24, e25]
      refine n15463 _ _ ?_ ?_ ?_ ?_ ?_ ?_ ?_ ?_ ?_ ?_ ?_ ?_ <;> simp [getT, e2, e5, e6, e12, e13, e17, e18, e22, e23, e24, e25]
    · rw [ro_62_3_7]
      simp [callDOWR, l0, l1, l2, rg3, e2, e5, e6, e12, e13, e17, e18, e22, e23, e24, e25]
      refine n15587 _ _ ?_ ?_ ?_ ?_ ?_ ?_ ?_ ?_ ?_ ?_ ?_ ?_ <;> simp [getT, e2, e5, e6, e12, e13, e17, e18, e22, e23, e24, e25]
  have n15457 : ∀ tb g, getT tb 2 = .ptr 16 1 0 → getT tb 5 = .ptr 4080 2 0 → getT tb 6 = .ptr 48 3 0 → getT tb 12 = .ptr 4080 2 0 → getT tb 17 = .ptr 4080 2 0 → getT tb 18 = .ptr 48 3 0 → getT tb 22 = .ptr 4080 2 0 → getT tb 23 = .ptr 48 3 0 → getT tb 24 = IL u → getT tb 25 = I64 (u.length : Int) → exT (CI inlR) 0 (inlW (CI inlR) [] [fw_someAlg, fw_pick, fw_element, fw_someT] 1 0) ro_62_3 Q ex_62_3_15457 ⟨tb, [⟨48, 3, .cells [IL u, RL t]⟩, ⟨4080, 2, .cells (RS b (p))⟩, ⟨16, 1, .cells [.nil, .nil]⟩], g⟩ := by
    intro tb g e2 e5 e6 e12 e17 e18 e22 e23 e24 e25
    unfold ex_62_3_15457
    simp only [exT_alt, exT_one, exT_imm, exT_stop, and_true]
    refine ⟨?_, ?_⟩
    · rw [ro_62_3_1]
      simp [callDOWR, l0, l1, l2, rg3, e2, e5, e6, e12, e17, e18, e22, e23, e24, e25]
      refine n15459 _ _ ?_ ?_ ?_ ?_ ?_ ?_ ?_ ?_ ?_ ?_ ?_ <;> simp [getT, e2, e5, e6, e12, e17, e18, e22, e23, e24, e25]
    · rw [ro_62_3_7]
      simp [callDOWR, l0, l1, l2, rg3, e2, e5, e6, e12, e17, e18, e22, e23, e24, e25]
      refine n15585 _ _ ?_ ?_ ?_ ?_ ?_ ?_ ?_ ?_ ?_ ?_ ?_ <;> simp [getT, e2, e5, e6, e12, e17, e18, e22, e23, e24, e25]
  have n15423 : ∀ tb g, getT tb 2 = .ptr 16 1 0 → getT tb 5 = .ptr 4080 2 0 → getT tb 6 = .ptr 48 3 0 → getT tb 12 = .ptr 4080 2 0 → getT tb 13 = .ptr 48 3 0 → getT tb 14 = IL u → getT tb 15 = I64 (u.length : Int) → getT tb 16 = I64 y → getT tb 17 = .ptr 4080 2 0 → getT tb 22 = .ptr 4080 2 0 → getT tb 23 = .ptr 48 3 0 → getT tb 24 = IL u → getT tb 25 = I64 (u.length : Int) → exT (CI inlR) 0 (inlW (CI inlR) [] [fw_someAlg, fw_pick, fw_element, fw_someT] 1 0) ro_62_3 Q ex_62_3_15423 ⟨tb, [⟨48, 3, .cells [IL u, RL t]⟩, ⟨4080, 2, .cells (RS b (p + 2))⟩, ⟨16, 1, .cells [.nil, .nil]⟩], g⟩ := by
    intro tb g e2 e5 e6 e12 e13 e14 e15 e16 e17 e22 e23 e24 e25
    unfold ex_62_3_15423
    simp only [exT_alt, exT_one, exT_imm, exT_stop, and_true]
    rw [ro_62_3_6]
    simp [callDOWR, l0, l1, l2, rg3, e2, e5, e6, e12, e13, e14, e15, e16, e17, e22, e23, e24, e25]
    refine n15487 _ _ ?_ ?_ ?_ ?_ ?_ ?_ ?_ ?_ ?_ ?_ ?_ ?_ ?_ ?_ <;> simp [getT, e2, e5, e6, e12, e13, e14, e15, e16, e17, e22, e23, e24, e25]
  have n15407 : ∀ tb g, getT tb 2 = .ptr 16 1 0 → getT tb 5 = .ptr 4080 2 0 → getT tb 6 = .ptr 48 3 0 → getT tb 12 = .ptr 4080 2 0 → getT tb 13 = .ptr 48 3 0 → getT tb 14 = IL u → getT tb 15 = I64 (u.length : Int) → getT tb 17 = .ptr 4080 2 0 → getT tb 22 = .ptr 4080 2 0 → getT tb 23 = .ptr 48 3 0 → getT tb 24 = IL u → getT tb 25 = I64 (u.length : Int) → exT (CI inlR) 0 (inlW (CI inlR) [] [fw_someAlg, fw_pick, fw_element, fw_someT] 1 0) ro_62_3 Q ex_62_3_15407 ⟨tb, [⟨48, 3, .cells [IL u, RL t]⟩, ⟨4080, 2, .cells (RS b (p))⟩, ⟨16, 1, .cells [.nil, .nil]⟩], g⟩ := by
    intro tb g e2 e5 e6 e12 e13 e14 e15 e17 e22 e23 e24 e25
    unfold ex_62_3_15407
    simp only [exT_alt, exT_one, exT_imm, exT_stop, and_true]
    refine ⟨?_, ?_⟩
    · rw [ro_62_3_4]
      simp [callDOWR, l0, l1, l2, rg3, e2, e5, e6, e12, e13, e14, e15, e17, e22, e23, e24, e25]
      refine n15423 _ _ ?_ ?_ ?_ ?_ ?_ ?_ ?_ ?_ ?_ ?_ ?_ ?_ ?_ <;> simp [getT, e2, e5, e6, e12, e13, e14, e15, e17, e22, e23, e24, e25]
    · rw [ro_62_3_6]
      simp [callDOWR, l0, l1, l2, rg3, e2, e5, e6, e12, e13, e14, e15, e17, e22, e23, e24, e25]
      refine n15471 _ _ ?_ ?_ ?_ ?_ ?_ ?_ ?_ ?_ ?_ ?_ ?_ ?_ ?_ <;> simp [getT, e2, e5, e6, e12, e13, e14, e15, e17, e22, e23, e24, e25]
  have n15399 : ∀ tb g, getT tb 2 = .ptr 16 1 0 → getT tb 5 = .ptr 4080 2 0 → getT tb 6 = .ptr 48 3 0 → getT tb 12 = .ptr 4080 2 0 → getT tb 13 = .ptr 48 3 0 → getT tb 14 = IL u → getT tb 17 = .ptr 4080 2 0 → getT tb 22 = .ptr 4080 2 0 → getT tb 23 = .ptr 48 3 0 → getT tb 24 = IL u → getT tb 25 = I64 (u.length : Int) → exT (CI inlR) 0 (inlW (CI inlR) [] [fw_someAlg, fw_pick, fw_element, fw_someT] 1 0) ro_62_3 Q ex_62_3_15399 ⟨tb, [⟨48, 3, .cells [IL u, RL t]⟩, ⟨4080, 2, .cells (RS b (p))⟩, ⟨16, 1, .cells [.nil, .nil]⟩], g⟩ := by
    intro tb g e2 e5 e6 e12 e13 e14 e17 e22 e23 e24 e25
    unfold ex_62_3_15399
    simp only [exT_alt, exT_one, exT_imm, exT_stop, and_true]
    rw [ro_62_3_3]
    simp [callDOWR, l0, l1, l2, rg3, e2, e5, e6, e12, e13, e14, e17, e22, e23, e24, e25]
    refine n15407 _ _ ?_ ?_ ?_ ?_ ?_ ?_ ?_ ?_ ?_ ?_ ?_ ?_ <;> simp [getT, e2, e5, e6, e12, e13, e14, e17, e22, e23, e24, e25]
  have n15395 : ∀ tb g, getT tb 2 = .ptr 16 1 0 → getT tb 5 = .ptr 4080 2 0 → getT tb 6 = .ptr 48 3 0 → getT tb 12 = .ptr 4080 2 0 → getT tb 13 = .ptr 48 3 0 → getT tb 17 = .ptr 4080 2 0 → getT tb 22 = .ptr 4080 2 0 → getT tb 23 = .ptr 48 3 0 → getT tb 24 = IL u → getT tb 25 = I64 (u.length : Int) → exT (CI inlR) 0 (inlW (CI inlR) [] [fw_someAlg, fw_pick, fw_element, fw_someT] 1 0) ro_62_3 Q ex_62_3_15395 ⟨tb, [⟨48, 3, .cells [IL u, RL t]⟩, ⟨4080, 2, .cells (RS b (p))⟩, ⟨16, 1, .cells [.nil, .nil]⟩], g⟩ := by
    intro tb g e2 e5 e6 e12 e13 e17 e22 e23 e24 e25
    unfold ex_62_3_15395
    simp only [exT_alt, exT_one, exT_imm, exT_stop, and_true]
    refine ⟨?_, ?_⟩
    · rw [ro_62_3_2]
      simp [callDOWR, l0, l1, l2, rg3, e2, e5, e6, e12, e13, e17, e22, e23, e24, e25]
      refine n15399 _ _ ?_ ?_ ?_ ?_ ?_ ?_ ?_ ?_ ?_ ?_ ?_ <;> simp [getT, e2, e5, e6, e12, e13, e17, e22, e23, e24, e25]
    · rw [ro_62_3_6]
      simp [callDOWR, l0, l1, l2, rg3, e2, e5, e6, e12, e13, e17, e22, e23, e24, e25]
      refine n15459 _ _ ?_ ?_ ?_ ?_ ?_ ?_ ?_ ?_ ?_ ?_ ?_ <;> simp [getT, e2, e5, e6, e12, e13, e17, e22, e23, e24, e25]
  have n15393 : ∀ tb g, getT tb 2 = .ptr 16 1 0 → getT tb 5 = .ptr 4080 2 0 → getT tb 6 = .ptr 48 3 0 → getT tb 12 = .ptr 4080 2 0 → getT tb 17 = .ptr 4080 2 0 → getT tb 22 = .ptr 4080 2 0 → getT tb 23 = .ptr 48 3 0 → getT tb 24 = IL u → getT tb 25 = I64 (u.length : Int) → exT (CI inlR) 0 (inlW (CI inlR) [] [fw_someAlg, fw_pick, fw_element, fw_someT] 1 0) ro_62_3 Q ex_62_3_15393 ⟨tb, [⟨48, 3, .cells [IL u, RL t]⟩, ⟨4080, 2, .cells (RS b (p))⟩, ⟨16, 1, .cells [.nil, .nil]⟩], g⟩ := by
    intro tb g e2 e5 e6 e12 e17 e22 e23 e24 e25
    unfold ex_62_3_15393
    simp only [exT_alt, exT_one, exT_imm, exT_stop, and_true]
    refine ⟨?_, ?_⟩
    · rw [ro_62_3_1]
      simp [callDOWR, l0, l1, l2, rg3, e2, e5, e6, e12, e17, e22, e23, e24, e25]
      refine n15395 _ _ ?_ ?_ ?_ ?_ ?_ ?_ ?_ ?_ ?_ ?_ <;> simp [getT, e2, e5, e6, e12, e17, e22, e23, e24, e25]
    · rw [ro_62_3_6]
      simp [callDOWR, l0, l1, l2, rg3, e2, e5, e6, e12, e17, e22, e23, e24, e25]
      refine n15457 _ _ ?_ ?_ ?_ ?_ ?_ ?_ ?_ ?_ ?_ ?_ <;> simp [getT, e2, e5, e6, e12, e17, e22, e23, e24, e25]
  have n7201 : ∀ tb g, getT tb 2 = .ptr 16 1 0 → getT tb 5 = .ptr 4080 2 0 → getT tb 6 = .ptr 48 3 0 → getT tb 12 = .ptr 4080 2 0 → getT tb 17 = .ptr 4080 2 0 → getT tb 22 = .ptr 4080 2 0 → getT tb 23 = .ptr 48 3 0 → getT tb 24 = IL u → exT (CI inlR) 0 (inlW (CI inlR) [] [fw_someAlg, fw_pick, fw_element, fw_someT] 1 0) ro_62_3 Q ex_62_3_7201 ⟨tb, [⟨48, 3, .cells [IL u, RL t]⟩, ⟨4080, 2, .cells (RS b (p))⟩, ⟨16, 1, .cells [.nil, .nil]⟩], g⟩ := by
    intro tb g e2 e5 e6 e12 e17 e22 e23 e24
    unfold ex_62_3_7201
    simp only [exT_alt, exT_one, exT_imm, exT_stop, and_true]
    rw [ro_62_3_13]
    simp [callDOWR, l0, l1, l2, rg3, e2, e5, e6, e12, e17, e22, e23, e24]
    refine n15393 _ _ ?_ ?_ ?_ ?_ ?_ ?_ ?_ ?_ ?_ <;> simp [getT, e2, e5, e6, e12, e17, e22, e23, e24]
  have n7265 : ∀ tb g, getT tb 2 = .ptr 16 1 0 → getT tb 5 = .ptr 4080 2 0 → getT tb 6 = .ptr 48 3 0 → getT tb 12 = .ptr 4080 2 0 → getT tb 17 = .ptr 4080 2 0 → getT tb 18 = .ptr 48 3 0 → getT tb 22 = .ptr 4080 2 0 → getT tb 23 = .ptr 48 3 0 → getT tb 24 = IL u → exT (CI inlR) 0 (inlW (CI inlR) [] [fw_someAlg, fw_pick, fw_element, fw_someT] 1 0) ro_62_3 Q ex_62_3_7265 ⟨tb, [⟨48, 3, .cells [IL u, RL t]⟩, ⟨4080, 2, .cells (RS b (p))⟩, ⟨16, 1, .cells [.nil, .nil]⟩], g⟩ := by
    intro tb g e2 e5 e6 e12 e17 e18 e22 e23 e24
    unfold ex_62_3_7265
    simp only [exT_alt, exT_one, exT_imm, exT_stop, and_true]
    rw [ro_62_3_13]
    simp [callDOWR, l0, l1, l2, rg3, e2, e5, e6, e12, e17, e18, e22, e23, e24]
    refine n15457 _ _ ?_ ?_ ?_ ?_ ?_ ?_ ?_ ?_ ?_ ?_ <;> simp [getT, e2, e5, e6, e12, e17, e18, e22, e23, e24]
  have n7649 : ∀ tb g, getT tb 2 = .ptr 16 1 0 → getT tb 5 = .ptr 4080 2 0 → getT tb 6 = .ptr 48 3 0 → getT tb 12 = .ptr 4080 2 0 → getT tb 17 = .ptr 4080 2 0 → getT tb 18 = .ptr 48 3 0 → getT tb 19 = IL u → getT tb 20 = I64 (u.length : Int) → getT tb 22 = .ptr 4080 2 0 → getT tb 23 = .ptr 48 3 0 → getT tb 24 = IL u → exT (CI inlR) 0 (inlW (CI inlR) [] [fw_someAlg, fw_pick, fw_element, fw_someT] 1 0) ro_62_3 Q ex_62_3_7649 ⟨tb, [⟨48, 3, .cells [IL u, RL t]⟩, ⟨4080, 2, .cells (RS b (p))⟩, ⟨16, 1, .cells [.nil, .nil]⟩], g⟩ := by
    intro tb g e2 e5 e6 e12 e17 e18 e19 e20 e22 e23 e24
    unfold ex_62_3_7649
    simp only [exT_alt, exT_one, exT_imm, exT_stop, and_true]
    rw [ro_62_3_13]
    simp [callDOWR, l0, l1, l2, rg3, e2, e5, e6, e12, e17, e18, e19, e20, e22, e23, e24]
    refine n15841 _ _ ?_ ?_ ?_ ?_ ?_ ?_ ?_ ?_ ?_ ?_ ?_ ?_ <;> simp [getT, e2, e5, e6, e12, e17, e18, e19, e20, e22, e23, e24]
  have n7651 : ∀ tb g, getT tb 2 = .ptr 16 1 0 → getT tb 5 = .ptr 4080 2 0 → getT tb 6 = .ptr 48 3 0 → getT tb 12 = .ptr 4080 2 0 → getT tb 13 = .ptr 48 3 0 → getT tb 17 = .ptr 4080 2 0 → getT tb 18 = .ptr 48 3 0 → getT tb 19 = IL u → getT tb 20 = I64 (u.length : Int) → getT tb 22 = .ptr 4080 2 0 → getT tb 23 = .ptr 48 3 0 → getT tb 24 = IL u → exT (CI inlR) 0 (inlW (CI inlR) [] [fw_someAlg, fw_pick, fw_element, fw_someT] 1 0) ro_62_3 Q ex_62_3_7651 ⟨tb, [⟨48, 3, .cells [IL u, RL t]⟩, ⟨4080, 2, .cells (RS b (p))⟩, ⟨16, 1, .cells [.nil, .nil]⟩], g⟩ := by
    intro tb g e2 e5 e6 e12 e13 e17 e18 e19 e20 e22 e23 e24
    unfold ex_62_3_7651
    simp only [exT_alt, exT_one, exT_imm, exT_stop, and_true]
    rw [ro_62_3_13]
    simp [callDOWR, l0, l1, l2, rg3, e2, e5, e6, e12, e13, e17, e18, e19, e20, e22, e23, e24]
    refine n15843 _ _ ?_ ?_ ?_ ?_ ?_ ?_ ?_ ?_ ?_ ?_ ?_ ?_ ?_ <;> simp [getT, e2, e5, e6, e12, e13, e17, e18, e19, e20, e22, e23, e24]
  have n7663 : ∀ tb g, getT tb 2 = .ptr 16 1 0 → getT tb 5 = .ptr 4080 2 0 → getT tb 6 = .ptr 48 3 0 → getT tb 12 = .ptr 4080 2 0 → getT tb 13 = .ptr 48 3 0 → getT tb 14 = IL u → getT tb 15 = I64 (u.length : Int) → getT tb 17 = .ptr 4080 2 0 → getT tb 18 = .ptr 48 3 0 → getT tb 19 = IL u → getT tb 20 = I64 (u.length : Int) → getT tb 22 = .ptr 4080 2 0 → getT tb 23 = .ptr 48 3 0 → getT tb 24 = IL u → exT (CI inlR) 0 (inlW (CI inlR) [] [fw_someAlg, fw_pick, fw_element, fw_someT] 1 0) ro_62_3 Q ex_62_3_7663 ⟨tb, [⟨48, 3, .cells [IL u, RL t]⟩, ⟨4080, 2, .cells (RS b (p))⟩, ⟨16, 1, .cells [.nil, .nil]⟩], g⟩ := by
    intro tb g e2 e5 e6 e12 e13 e14 e15 e17 e18 e19 e20 e22 e23 e24
    unfold ex_62_3_7663
    simp only [exT_alt, exT_one, exT_imm, exT_stop, and_true]
    rw [ro_62_3_13]
    simp [callDOWR, l0, l1, l2, rg3, e2, e5, e6, e12, e13, e14, e15, e17, e18, e19, e20, e22, e23, e24]
    refine n15855 _ _ ?_ ?_ ?_ ?_ ?_ ?_ ?_ ?_ ?_ ?_ ?_ ?_ ?_ ?_ ?_ <;> simp [getT, e2, e5, e6, e12, e13, e14, e15, e17, e18, e19, e20, e22, e23, e24]
  have n7679 : ∀ tb g, getT tb 2 = .ptr 16 1 0 → getT tb 5 = .ptr 4080 2 0 → getT tb 6 = .ptr 48 3 0 → getT tb 12 = .ptr 4080 2 0 → getT tb 13 = .ptr 48 3 0 → getT tb 14 = IL u → getT tb 15 = I64 (u.length : Int) → getT tb 16 = I64 y → getT tb 17 = .ptr 4080 2 0 → getT tb 18 = .ptr 48 3 0 → getT tb 19 = IL u → getT tb 20 = I64 (u.length : Int) → getT tb 22 = .ptr 4080 2 0 → getT tb 23 = .ptr 48 3 0 → getT tb 24 = IL u → exT (CI inlR) 0 (inlW (CI inlR) [] [fw_someAlg, fw_pick, fw_element, fw_someT] 1 0) ro_62_3 Q ex_62_3_7679 ⟨tb, [⟨48, 3, .cells [IL u, RL t]⟩, ⟨4080, 2, .cells (RS b (p + 2))⟩, ⟨16, 1, .cells [.nil, .nil]⟩], g⟩ := by
    intro tb g e2 e5 e6 e12 e13 e14 e15 e16 e17 e18 e19 e20 e22 e23 e24
    unfold ex_62_3_7679
    simp only [exT_alt, exT_one, exT_imm, exT_stop, and_true]
    rw [ro_62_3_13]
    simp [callDOWR, l0, l1, l2, rg3, e2, e5, e6, e12, e13, e14, e15, e16, e17, e18, e19, e20, e22, e23, e24]
    refine n15871 _ _ ?_ ?_ ?_ ?_ ?_ ?_ ?_ ?_ ?_ ?_ ?_ ?_ ?_ ?_ ?_ ?_ <;> simp [getT, e2, e5, e6, e12, e13, e14, e15, e16, e17, e18, e19, e20, e22, e23, e24]
  have n8191 : ∀ tb g, getT tb 2 = .ptr 16 1 0 → getT tb 5 = .ptr 4080 2 0 → getT tb 6 = .ptr 48 3 0 → getT tb 12 = .ptr 4080 2 0 → getT tb 13 = .ptr 48 3 0 → getT tb 14 = IL u → getT tb 15 = I64 (u.length : Int) → getT tb 16 = I64 y → getT tb 17 = .ptr 4080 2 0 → getT tb 18 = .ptr 48 3 0 → getT tb 19 = IL u → getT tb 20 = I64 (u.length : Int) → getT tb 21 = I64 z → getT tb 22 = .ptr 4080 2 0 → getT tb 23 = .ptr 48 3 0 → getT tb 24 = IL u → exT (CI inlR) 0 (inlW (CI inlR) [] [fw_someAlg, fw_pick, fw_element, fw_someT] 1 0) ro_62_3 Q ex_62_3_8191 ⟨tb, [⟨48, 3, .cells [IL u, RL t]⟩, ⟨4080, 2, .cells (RS b (p + 4))⟩, ⟨16, 1, .cells [.nil, .nil]⟩], g⟩ := by
    intro tb g e2 e5 e6 e12 e13 e14 e15 e16 e17 e18 e19 e20 e21 e22 e23 e24
    unfold ex_62_3_8191
    simp only [exT_alt, exT_one, exT_imm, exT_stop, and_true]
    rw [ro_62_3_13]
    simp [callDOWR, l0, l1, l2, rg3, e2, e5, e6, e12, e13, e14, e15, e16, e17, e18, e19, e20, e21, e22, e23, e24]
    refine n16383 _ _ ?_ ?_ ?_ ?_ ?_ ?_ ?_ ?_ ?_ ?_ ?_ ?_ ?_ ?_ ?_ ?_ ?_ <;> simp [getT, e2, e5, e6, e12, e13, e14, e15, e16, e17, e18, e19, e20, e21, e22, e23, e24]
  have n4095 : ∀ tb g, getT tb 2 = .ptr 16 1 0 → getT tb 5 = .ptr 4080 2 0 → getT tb 6 = .ptr 48 3 0 → getT tb 12 = .ptr 4080 2 0 → getT tb 13 = .ptr 48 3 0 → getT tb 14 = IL u → getT tb 15 = I64 (u.length : Int) → getT tb 16 = I64 y → getT tb 17 = .ptr 4080 2 0 → getT tb 18 = .ptr 48 3 0 → getT tb 19 = IL u → getT tb 20 = I64 (u.length : Int) → getT tb 21 = I64 z → getT tb 22 = .ptr 4080 2 0 → getT tb 23 = .ptr 48 3 0 → exT (CI inlR) 0 (inlW (CI inlR) [] [fw_someAlg, fw_pick, fw_element, fw_someT] 1 0) ro_62_3 Q ex_62_3_4095 ⟨tb, [⟨48, 3, .cells [IL u, RL t]⟩, ⟨4080, 2, .cells (RS b (p + 4))⟩, ⟨16, 1, .cells [.nil, .nil]⟩], g⟩ := by
    intro tb g e2 e5 e6 e12 e13 e14 e15 e16 e17 e18 e19 e20 e21 e22 e23
    unfold ex_62_3_4095
    simp only [exT_alt, exT_one, exT_imm, exT_stop, and_true]
    rw [ro_62_3_12]
    simp [callDOWR, l0, l1, l2, rg3, e2, e5, e6, e12, e13, e14, e15, e16, e17, e18, e19, e20, e21, e22, e23]
    refine n8191 _ _ ?_ ?_ ?_ ?_ ?_ ?_ ?_ ?_ ?_ ?_ ?_ ?_ ?_ ?_ ?_ ?_ <;> simp [getT, e2, e5, e6, e12, e13, e14, e15, e16, e17, e18, e19, e20, e21, e22, e23]
  have n3583 : ∀ tb g, getT tb 2 = .ptr 16 1 0 → getT tb 5 = .ptr 4080 2 0 → getT tb 6 = .ptr 48 3 0 → getT tb 12 = .ptr 4080 2 0 → getT tb 13 = .ptr 48 3 0 → getT tb 14 = IL u → getT tb 15 = I64 (u.length : Int) → getT tb 16 = I64 y → getT tb 17 = .ptr 4080 2 0 → getT tb 18 = .ptr 48 3 0 → getT tb 19 = IL u → getT tb 20 = I64 (u.length : Int) → getT tb 22 = .ptr 4080 2 0 → getT tb 23 = .ptr 48 3 0 → exT (CI inlR) 0 (inlW (CI inlR) [] [fw_someAlg, fw_pick, fw_element, fw_someT] 1 0) ro_62_3 Q ex_62_3_3583 ⟨tb, [⟨48, 3, .cells [IL u, RL t]⟩, ⟨4080, 2, .cells (RS b (p + 2))⟩, ⟨16, 1, .cells [.nil, .nil]⟩], g⟩ := by
    intro tb g e2 e5 e6 e12 e13 e14 e15 e16 e17 e18 e19 e20 e22 e23
    unfold ex_62_3_3583
    simp only [exT_alt, exT_one, exT_imm, exT_stop, and_true]
    refine ⟨?_, ?_⟩
    · rw [ro_62_3_9]
      simp [callDOWR, l0, l1, l2, rg3, e2, e5, e6, e12, e13, e14, e15, e16, e17, e18, e19, e20, e22, e23]
      refine n4095 _ _ ?_ ?_ ?_ ?_ ?_ ?_ ?_ ?_ ?_ ?_ ?_ ?_ ?_ ?_ ?_ <;> simp [getT, e2, e5, e6, e12, e13, e14, e15, e16, e17, e18, e19, e20, e22, e23]
    · rw [ro_62_3_12]
      simp [callDOWR, l0, l1, l2, rg3, e2, e5, e6, e12, e13, e14, e15, e16, e17, e18, e19, e20, e22, e23]
      refine n7679 _ _ ?_ ?_ ?_ ?_ ?_ ?_ ?_ ?_ ?_ ?_ ?_ ?_ ?_ ?_ ?_ <;> simp [getT, e2, e5, e6, e12, e13, e14, e15, e16, e17, e18, e19, e20, e22, e23]
  have n3567 : ∀ tb g, getT tb 2 = .ptr 16 1 0 → getT tb 5 = .ptr 4080 2 0 → getT tb 6 = .ptr 48 3 0 → getT tb 12 = .ptr 4080 2 0 → getT tb 13 = .ptr 48 3 0 → getT tb 14 = IL u → getT tb 15 = I64 (u.length : Int) → getT tb 17 = .ptr 4080 2 0 → getT tb 18 = .ptr 48 3 0 → getT tb 19 = IL u → getT tb 20 = I64 (u.length : Int) → getT tb 22 = .ptr 4080 2 0 → getT tb 23 = .ptr 48 3 0 → exT (CI inlR) 0 (inlW (CI inlR) [] [fw_someAlg, fw_pick, fw_element, fw_someT] 1 0) ro_62_3 Q ex_62_3_3567 ⟨tb, [⟨48, 3, .cells [IL u, RL t]⟩, ⟨4080, 2, .cells (RS b (p))⟩, ⟨16, 1, .cells [.nil, .nil]⟩], g⟩ := by
    intro tb g e2 e5 e6 e12 e13 e14 e15 e17 e18 e19 e20 e22 e23
    unfold ex_62_3_3567
    simp only [exT_alt, exT_one, exT_imm, exT_stop, and_true]
    refine ⟨?_, ?_⟩
    · rw [ro_62_3_4]
      simp [callDOWR, l0, l1, l2, rg3, e2, e5, e6, e12, e13, e14, e15, e17, e18, e19, e20, e22, e23]
      refine n3583 _ _ ?_ ?_ ?_ ?_ ?_ ?_ ?_ ?_ ?_ ?_ ?_ ?_ ?_ ?_ <;> simp [getT, e2, e5, e6, e12, e13, e14, e15, e17, e18, e19, e20, e22, e23]
    · rw [ro_62_3_12]
      simp [callDOWR, l0, l1, l2, rg3, e2, e5, e6, e12, e13, e14, e15, e17, e18, e19, e20, e22, e23]
      refine n7663 _ _ ?_ ?_ ?_ ?_ ?_ ?_ ?_ ?_ ?_ ?_ ?_ ?_ ?_ ?_ <;> simp [getT, e2, e5, e6, e12, e13, e14, e15, e17, e18, e19, e20, e22, e23]
  have n3559 : ∀ tb g, getT tb 2 = .ptr 16 1 0 → getT tb 5 = .ptr 4080 2 0 → getT tb 6 = .ptr 48 3 0 → getT tb 12 = .ptr 4080 2 0 → getT tb 13 = .ptr 48 3 0 → getT tb 14 = IL u → getT tb 17 = .ptr 4080 2 0 → getT tb 18 = .ptr 48 3 0 → getT tb 19 = IL u → getT tb 20 = I64 (u.length : Int) → getT tb 22 = .ptr 4080 2 0 → getT tb 23 = .ptr 48 3 0 → exT (CI inlR) 0 (inlW (CI inlR) [] [fw_someAlg, fw_pick, fw_element, fw_someT] 1 0) ro_62_3 Q ex_62_3_3559 ⟨tb, [⟨48, 3, .cells [IL u, RL t]⟩, ⟨4080, 2, .cells (RS b (p))⟩, ⟨16, 1, .cells [.nil, .nil]⟩], g⟩ := by
    intro tb g e2 e5 e6 e12 e13 e14 e17 e18 e19 e20 e22 e23
    unfold ex_62_3_3559
    simp only [exT_alt, exT_one, exT_imm, exT_stop, and_true]
    rw [ro_62_3_3]
    simp [callDOWR, l0, l1, l2, rg3, e2, e5, e6, e12, e13, e14, e17, e18, e19, e20, e22, e23]
    refine n3567 _ _ ?_ ?_ ?_ ?_ ?_ ?_ ?_ ?_ ?_ ?_ ?_ ?_ ?_ <;> simp [getT, e2, e5, e6, e12, e13, e14, e17, e18, e19, e20, e22, e23]
  have n3555 : ∀ tb g, getT tb 2 = .ptr 16 1 0 → getT tb 5 = .ptr 4080 2 0 → getT tb 6 = .ptr 48 3 0 → getT tb 12 = .ptr 4080 2 0 → getT tb 13 = .ptr 48 3 0 → getT tb 17 = .ptr 4080 2 0 → getT tb 18 = .ptr 48 3 0 → getT tb 19 = IL u → getT tb 20 = I64 (u.length : Int) → getT tb 22 = .ptr 4080 2 0 → getT tb 23 = .ptr 48 3 0 → exT (CI inlR) 0 (inlW (CI inlR) [] [fw_someAlg, fw_pick, fw_element, fw_someT] 1 0) ro_62_3 Q ex_62_3_3555 ⟨tb, [⟨48, 3, .cells [IL u, RL t]⟩, ⟨4080, 2, .cells (RS b (p))⟩, ⟨16, 1, .cells [.nil, .nil]⟩], g⟩ := by
    intro tb g e2 e5 e6 e12 e13 e17 e18 e19 e20 e22 e23
    unfold ex_62_3_3555
    simp only [exT_alt, exT_one, exT_imm, exT_stop, and_true]
    refine ⟨?_, ?_⟩
    · rw [ro_62_3_2]
      simp [callDOWR, l0, l1, l2, rg3, e2, e5, e6, e12, e13, e17, e18, e19, e20, e22, e23]
      refine n3559 _ _ ?_ ?_ ?_ ?_ ?_ ?_ ?_ ?_ ?_ ?_ ?_ ?_ <;> simp [getT, e2, e5, e6, e12, e13, e17, e18, e19, e20, e22, e23]
    · rw [ro_62_3_12]
      simp [callDOWR, l0, l1, l2, rg3, e2, e5, e6, e12, e13, e17, e18, e19, e20, e22, e23]
      refine n7651 _ _ ?_ ?_ ?_ ?_ ?_ ?_ ?_ ?_ ?_ ?_ ?_ ?_ <;> simp [getT, e2, e5, e6, e12, e13, e17, e18, e19, e20, e22, e23]
  have n3553 : ∀ tb g, getT tb 2 = .ptr 16 1 0 → getT tb 5 = .ptr 4080 2 0 → getT tb 6 = .ptr 48 3 0 → getT tb 12 = .ptr 4080 2 0 → getT tb 17 = .ptr 4080 2 0 → getT tb 18 = .ptr 48 3 0 → getT tb 19 = IL u → getT tb 20 = I64 (u.length : Int) → getT tb 22 = .ptr 4080 2 0 → getT tb 23 = .ptr 48 3 0 → exT (CI inlR) 0 (inlW (CI inlR) [] [fw_someAlg, fw_pick, fw_element, fw_someT] 1 0) ro_62_3 Q ex_62_3_3553 ⟨tb, [⟨48, 3, .cells [IL u, RL t]⟩, ⟨4080, 2, .cells (RS b (p))⟩, ⟨16, 1, .cells [.nil, .nil]⟩], g⟩ := by
    intro tb g e2 e5 e6 e12 e17 e18 e19 e20 e22 e23
    unfold ex_62_3_3553
    simp only [exT_alt, exT_one, exT_imm, exT_stop, and_true]
    refine ⟨?_, ?_⟩
    · rw [ro_62_3_1]
      simp [callDOWR, l0, l1, l2, rg3, e2, e5, e6, e12, e17, e18, e19, e20, e22, e23]
      refine n3555 _ _ ?_ ?_ ?_ ?_ ?_ ?_ ?_ ?_ ?_ ?_ ?_ <;> simp [getT, e2, e5, e6, e12, e17, e18, e19, e20, e22, e23]
    · rw [ro_62_3_12]
      simp [callDOWR, l0, l1, l2, rg3, e2, e5, e6, e12, e17, e18, e19, e20, e22, e23]
      refine n7649 _ _ ?_ ?_ ?_ ?_ ?_ ?_ ?_ ?_ ?_ ?_ ?_ <;> simp [getT, e2, e5, e6, e12, e17, e18, e19, e20, e22, e23]
  have n3297 : ∀ tb g, getT tb 2 = .ptr 16 1 0 → getT tb 5 = .ptr 4080 2 0 → getT tb 6 = .ptr 48 3 0 → getT tb 12 = .ptr 4080 2 0 → getT tb 17 = .ptr 4080 2 0 → getT tb 18 = .ptr 48 3 0 → getT tb 19 = IL u → getT tb 22 = .ptr 4080 2 0 → getT tb 23 = .ptr 48 3 0 → exT (CI inlR) 0 (inlW (CI inlR) [] [fw_someAlg, fw_pick, fw_element, fw_someT] 1 0) ro_62_3 Q ex_62_3_3297 ⟨tb, [⟨48, 3, .cells [IL u, RL t]⟩, ⟨4080, 2, .cells (RS b (p))⟩, ⟨16, 1, .cells [.nil, .nil]⟩], g⟩ := by
    intro tb g e2 e5 e6 e12 e17 e18 e19 e22 e23
    unfold ex_62_3_3297
    simp only [exT_alt, exT_one, exT_imm, exT_stop, and_true]
    rw [ro_62_3_8]
    simp [callDOWR, l0, l1, l2, rg3, e2, e5, e6, e12, e17, e18, e19, e22, e23]
    refine n3553 _ _ ?_ ?_ ?_ ?_ ?_ ?_ ?_ ?_ ?_ ?_ <;> simp [getT, e2, e5, e6, e12, e17, e18, e19, e22, e23]
  have n7267 : ∀ tb g, getT tb 2 = .ptr 16 1 0 → getT tb 5 = .ptr 4080 2 0 → getT tb 6 = .ptr 48 3 0 → getT tb 12 = .ptr 4080 2 0 → getT tb 13 = .ptr 48 3 0 → getT tb 17 = .ptr 4080 2 0 → getT tb 18 = .ptr 48 3 0 → getT tb 22 = .ptr 4080 2 0 → getT tb 23 = .ptr 48 3 0 → getT tb 24 = IL u → exT (CI inlR) 0 (inlW (CI inlR) [] [fw_someAlg, fw_pick, fw_element, fw_someT] 1 0) ro_62_3 Q ex_62_3_7267 ⟨tb, [⟨48, 3, .cells [IL u, RL t]⟩, ⟨4080, 2, .cells (RS b (p))⟩, ⟨16, 1, .cells [.nil, .nil]⟩], g⟩ := by
    intro tb g e2 e5 e6 e12 e13 e17 e18 e22 e23 e24
    unfold ex_62_3_7267
    simp only [exT_alt, exT_one, exT_imm, exT_stop, and_true]
    rw [ro_62_3_13]
    simp [callDOWR, l0, l1, l2, rg3, e2, e5, e6, e12, e13, e17, e18, e22, e23, e24]
    refine n15459 _ _ ?_ ?_ ?_ ?_ ?_ ?_ ?_ ?_ ?_ ?_ ?_ <;> simp [getT, e2, e5, e6, e12, e13, e17, e18, e22, e23, e24]
  have n3299 : ∀ tb g, getT tb 2 = .ptr 16 1 0 → getT tb 5 = .ptr 4080 2 0 → getT tb 6 = .ptr 48 3 0 → getT tb 12 = .ptr 4080 2 0 → getT tb 13 = .ptr 48 3 0 → getT tb 17 = .ptr 4080 2 0 → getT tb 18 = .ptr 48 3 0 → getT tb 19 = IL u → getT tb 22 = .ptr 4080 2 0 → getT tb 23 = .ptr 48 3 0 → exT (CI inlR) 0 (inlW (CI inlR) [] [fw_someAlg, fw_pick, fw_element, fw_someT] 1 0) ro_62_3 Q ex_62_3_3299 ⟨tb, [⟨48, 3, .cells [IL u, RL t]⟩, ⟨4080, 2, .cells (RS b (p))⟩, ⟨16, 1, .cells [.nil, .nil]⟩], g⟩ := by
    intro tb g e2 e5 e6 e12 e13 e17 e18 e19 e22 e23
    unfold ex_62_3_3299
    simp only [exT_alt, exT_one, exT_imm, exT_stop, and_true]
    rw [ro_62_3_8]
    simp [callDOWR, l0, l1, l2, rg3, e2, e5, e6, e12, e13, e17, e18, e19, e22, e23]
    refine n3555 _ _ ?_ ?_ ?_ ?_ ?_ ?_ ?_ ?_ ?_ ?_ ?_ <;> simp [getT, e2, e5, e6, e12, e13, e17, e18, e19, e22, e23]
  have n7279 : ∀ tb g, getT tb 2 = .ptr 16 1 0 → getT tb 5 = .ptr 4080 2 0 → getT tb 6 = .ptr 48 3 0 → getT tb 12 = .ptr 4080 2 0 → getT tb 13 = .ptr 48 3 0 → getT tb 14 = IL u → getT tb 15 = I64 (u.length : Int) → getT tb 17 = .ptr 4080 2 0 → getT tb 18 = .ptr 48 3 0 → getT tb 22 = .ptr 4080 2 0 → getT tb 23 = .ptr 48 3 0 → getT tb 24 = IL u → exT (CI inlR) 0 (inlW (CI inlR) [] [fw_someAlg, fw_pick, fw_element, fw_someT] 1 0) ro_62_3 Q ex_62_3_7279 ⟨tb, [⟨48, 3, .cells [IL u, RL t]⟩, ⟨4080, 2, .cells (RS b (p))⟩, ⟨16, 1, .cells [.nil, .nil]⟩], g⟩ := by
    intro tb g e2 e5 e6 e12 e13 e14 e15 e17 e18 e22 e23 e24
    unfold ex_62_3_7279
    simp only [exT_alt, exT_one, exT_imm, exT_stop, and_true]
    rw [ro_62_3_13]
    simp [callDOWR, l0, l1, l2, rg3, e2, e5, e6, e12, e13, e14, e15, e17, e18, e22, e23, e24]
    refine n15471 _ _ ?_ ?_ ?_ ?_ ?_ ?_ ?_ ?_ ?_ ?_ ?_ ?_ ?_ <;> simp [getT, e2, e5, e6, e12, e13, e14, e15, e17, e18, e22, e23, e24]
  have n3311 : ∀ tb g, getT tb 2 = .ptr 16 1 0 → getT tb 5 = .ptr 4080 2 0 → getT tb 6 = .ptr 48 3 0 → getT tb 12 = .ptr 4080 2 0 → getT tb 13 = .ptr 48 3 0 → getT tb 14 = IL u → getT tb 15 = I64 (u.length : Int) → getT tb 17 = .ptr 4080 2 0 → getT tb 18 = .ptr 48 3 0 → getT tb 19 = IL u → getT tb 22 = .ptr 4080 2 0 → getT tb 23 = .ptr 48 3 0 → exT (CI inlR) 0 (inlW (CI inlR) [] [fw_someAlg, fw_pick, fw_element, fw_someT] 1 0) ro_62_3 Q ex_62_3_3311 ⟨tb, [⟨48, 3, .cells [IL u, RL t]⟩, ⟨4080, 2, .cells (RS b (p))⟩, ⟨16, 1, .cells [.nil, .nil]⟩], g⟩ := by
    intro tb g e2 e5 e6 e12 e13 e14 e15 e17 e18 e19 e22 e23
    unfold ex_62_3_3311
    simp only [exT_alt, exT_one, exT_imm, exT_stop, and_true]
    rw [ro_62_3_8]
    simp [callDOWR, l0, l1, l2, rg3, e2, e5, e6, e12, e13, e14, e15, e17, e18, e19, e22, e23]
    refine n3567 _ _ ?_ ?_ ?_ ?_ ?_ ?_ ?_ ?_ ?_ ?_ ?_ ?_ ?_ <;> simp [getT, e2, e5, e6, e12, e13, e14, e15, e17, e18, e19, e22, e23]
  have n7295 : ∀ tb g, getT tb 2 = .ptr 16 1 0 → getT tb 5 = .ptr 4080 2 0 → getT tb 6 = .ptr 48 3 0 → getT tb 12 = .ptr 4080 2 0 → getT tb 13 = .ptr 48 3 0 → getT tb 14 = IL u → getT tb 15 = I64 (u.length : Int) → getT tb 16 = I64 y → getT tb 17 = .ptr 4080 2 0 → getT tb 18 = .ptr 48 3 0 → getT tb 22 = .ptr 4080 2 0 → getT tb 23 = .ptr 48 3 0 → getT tb 24 = IL u → exT (CI inlR) 0 (inlW (CI inlR) [] [fw_someAlg, fw_pick, fw_element, fw_someT] 1 0) ro_62_3 Q ex_62_3_7295 ⟨tb, [⟨48, 3, .cells [IL u, RL t]⟩, ⟨4080, 2, .cells (RS b (p + 2))⟩, ⟨16, 1, .cells [.nil, .nil]⟩], g⟩ := by
    intro tb g e2 e5 e6 e12 e13 e14 e15 e16 e17 e18 e22 e23 e24
    unfold ex_62_3_7295
    simp only [exT_alt, exT_one, exT_imm, exT_stop, and_true]
    rw [ro_62_3_13]
    simp [callDOWR, l0, l1, l2, rg3, e2, e5, e6, e12, e13, e14, e15, e16, e17, e18, e22, e23, e24]
    refine n15487 _ _ ?_ ?_ ?_ ?_ ?_ ?_ ?_ ?_ ?_ ?_ ?_ ?_ ?_ ?_ <;> simp [getT, e2, e5, e6, e12, e13, e14, e15, e16, e17, e18, e22, e23, e24]
  have n3327 : ∀ tb g, getT tb 2 = .ptr 16 1 0 → getT tb 5 = .ptr 4080 2 0 → getT tb 6 = .ptr 48 3 0 → getT tb 12 = .ptr 4080 2 0 → getT tb 13 = .ptr 48 3 0 → getT tb 14 = IL u → getT tb 15 = I64 (u.length : Int) → getT tb 16 = I64 y → getT tb 17 = .ptr 4080 2 0 → getT tb 18 = .ptr 48 3 0 → getT tb 19 = IL u → getT tb 22 = .ptr 4080 2 0 → getT tb 23 = .ptr 48 3 0 → exT (CI inlR) 0 (inlW (CI inlR) [] [fw_someAlg, fw_pick, fw_element, fw_someT] 1 0) ro_62_3 Q ex_62_3_3327 ⟨tb, [⟨48, 3, .cells [IL u, RL t]⟩, ⟨4080, 2, .cells (RS b (p + 2))⟩, ⟨16, 1, .cells [.nil, .nil]⟩], g⟩ := by
    intro tb g e2 e5 e6 e12 e13 e14 e15 e16 e17 e18 e19 e22 e23
    unfold ex_62_3_3327
    simp only [exT_alt, exT_one, exT_imm, exT_stop, and_true]
    rw [ro_62_3_8]
    simp [callDOWR, l0, l1, l2, rg3, e2, e5, e6, e12, e13, e14, e15, e16, e17, e18, e19, e22, e23]
    refine n3583 _ _ ?_ ?_ ?_ ?_ ?_ ?_ ?_ ?_ ?_ ?_ ?_ ?_ ?_ ?_ <;> simp [getT, e2, e5, e6, e12, e13, e14, e15, e16, e17, e18, e19, e22, e23]
  have n3199 : ∀ tb g, getT tb 2 = .ptr 16 1 0 → getT tb 5 = .ptr 4080 2 0 → getT tb 6 = .ptr 48 3 0 → getT tb 12 = .ptr 4080 2 0 → getT tb 13 = .ptr 48 3 0 → getT tb 14 = IL u → getT tb 15 = I64 (u.length : Int) → getT tb 16 = I64 y → getT tb 17 = .ptr 4080 2 0 → getT tb 18 = .ptr 48 3 0 → getT tb 22 = .ptr 4080 2 0 → getT tb 23 = .ptr 48 3 0 → exT (CI inlR) 0 (inlW (CI inlR) [] [fw_someAlg, fw_pick, fw_element, fw_someT] 1 0) ro_62_3 Q ex_62_3_3199 ⟨tb, [⟨48, 3, .cells [IL u, RL t]⟩, ⟨4080, 2, .cells (RS b (p + 2))⟩, ⟨16, 1, .cells [.nil, .nil]⟩], g⟩ := by
    intro tb g e2 e5 e6 e12 e13 e14 e15 e16 e17 e18 e22 e23
    unfold ex_62_3_3199
    simp only [exT_alt, exT_one, exT_imm, exT_stop, and_true]
    refine ⟨?_, ?_⟩
    · rw [ro_62_3_7]
      simp [callDOWR, l0, l1, l2, rg3, e2, e5, e6, e12, e13, e14, e15, e16, e17, e18, e22, e23]
      refine n3327 _ _ ?_ ?_ ?_ ?_ ?_ ?_ ?_ ?_ ?_ ?_ ?_ ?_ ?_ <;> simp [getT, e2, e5, e6, e12, e13, e14, e15, e16, e17, e18, e22, e23]
    · rw [ro_62_3_12]
      simp [callDOWR, l0, l1, l2, rg3, e2, e5, e6, e12, e13, e14, e15, e16, e17, e18, e22, e23]
      refine n7295 _ _ ?_ ?_ ?_ ?_ ?_ ?_ ?_ ?_ ?_ ?_ ?_ ?_ ?_ <;> simp [getT, e2, e5, e6, e12, e13, e14, e15, e16, e17, e18, e22, e23]
  have n3183 : ∀ tb g, getT tb 2 = .ptr 16 1 0 → getT tb 5 = .ptr 4080 2 0 → getT tb 6 = .ptr 48 3 0 → getT tb 12 = .ptr 4080 2 0 → getT tb 13 = .ptr 48 3 0 → getT tb 14 = IL u → getT tb 15 = I64 (u.length : Int) → getT tb 17 = .ptr 4080 2 0 → getT tb 18 = .ptr 48 3 0 → getT tb 22 = .ptr 4080 2 0 → getT tb 23 = .ptr 48 3 0 → exT (CI inlR) 0 (inlW (CI inlR) [] [fw_someAlg, fw_pick, fw_element, fw_someT] 1 0) ro_62_3 Q ex_62_3_3183 ⟨tb, [⟨48, 3, .cells [IL u, RL t]⟩, ⟨4080, 2, .cells (RS b (p))⟩, ⟨16, 1, .cells [.nil, .nil]⟩], g⟩ := by
    intro tb g e2 e5 e6 e12 e13 e14 e15 e17 e18 e22 e23
    unfold ex_62_3_3183
    simp only [exT_alt, exT_one, exT_imm, exT_stop, and_true]
    refine ⟨?_, ?_, ?_⟩
    · rw [ro_62_3_4]
      simp [callDOWR, l0, l1, l2, rg3, e2, e5, e6, e12, e13, e14, e15, e17, e18, e22, e23]
      refine n3199 _ _ ?_ ?_ ?_ ?_ ?_ ?_ ?_ ?_ ?_ ?_ ?_ ?_ <;> simp [getT, e2, e5, e6, e12, e13, e14, e15, e17, e18, e22, e23]
    · rw [ro_62_3_7]
      simp [callDOWR, l0, l1, l2, rg3, e2, e5, e6, e12, e13, e14, e15, e17, e18, e22, e23]
      refine n3311 _ _ ?_ ?_ ?_ ?_ ?_ ?_ ?_ ?_ ?_ ?_ ?_ ?_ <;> simp [getT, e2, e5, e6, e12, e13, e14, e15, e17, e18, e22, e23]
    · rw [ro_62_3_12]
      simp [callDOWR, l0, l1, l2, rg3, e2, e5, e6, e12, e13, e14, e15, e17, e18, e22, e23]
      refine n7279 _ _ ?_ ?_ ?_ ?_ ?_ ?_ ?_ ?_ ?_ ?_ ?_ ?_ <;> simp [getT, e2, e5, e6, e12, e13, e14, e15, e17, e18, e22, e23]
  have n3175 : ∀ tb g, getT tb 2 = .ptr 16 1 0 → getT tb 5 = .ptr 4080 2 0 → getT tb 6 = .ptr 48 3 0 → getT tb 12 = .ptr 4080 2 0 → getT tb 13 = .ptr 48 3 0 → getT tb 14 = IL u → getT tb 17 = .ptr 4080 2 0 → getT tb 18 = .ptr 48 3 0 → getT tb 22 = .ptr 4080 2 0 → getT tb 23 = .ptr 48 3 0 → exT (CI inlR) 0 (inlW (CI inlR) [] [fw_someAlg, fw_pick, fw_element, fw_someT] 1 0) ro_62_3 Q ex_62_3_3175 ⟨tb, [⟨48, 3, .cells [IL u, RL t]⟩, ⟨4080, 2, .cells (RS b (p))⟩, ⟨16, 1, .cells [.nil, .nil]⟩], g⟩ := by
    intro tb g e2 e5 e6 e12 e13 e14 e17 e18 e22 e23
    unfold ex_62_3_3175
    simp only [exT_alt, exT_one, exT_imm, exT_stop, and_true]
    rw [ro_62_3_3]
    simp [callDOWR, l0, l1, l2, rg3, e2, e5, e6, e12, e13, e14, e17, e18, e22, e23]
    refine n3183 _ _ ?_ ?_ ?_ ?_ ?_ ?_ ?_ ?_ ?_ ?_ ?_ <;> simp [getT, e2, e5, e6, e12, e13, e14, e17, e18, e22, e23]
  have n3171 : ∀ tb g, getT tb 2 = .ptr 16 1 0 → getT tb 5 = .ptr 4080 2 0 → getT tb 6 = .ptr 48 3 0 → getT tb 12 = .ptr 4080 2 0 → getT tb 13 = .ptr 48 3 0 → getT tb 17 = .ptr 4080 2 0 → getT tb 18 = .ptr 48 3 0 → getT tb 22 = .ptr 4080 2 0 → getT tb 23 = .ptr 48 3 0 → exT (CI inlR) 0 (inlW (CI inlR) [] [fw_someAlg, fw_pick, fw_element, fw_someT] 1 0) ro_62_3 Q ex_62_3_3171 ⟨tb, [⟨48, 3, .cells [IL u, RL t]⟩, ⟨4080, 2, .cells (RS b (p))⟩, ⟨16, 1, .cells [.nil, .nil]⟩], g⟩ := by
    intro tb g e2 e5 e6 e12 e13 e17 e18 e22 e23
    unfold ex_62_3_3171
    simp only [exT_alt, exT_one, exT_imm, exT_stop, and_true]
    refine ⟨?_, ?_, ?_⟩
    · rw [ro_62_3_2]
      simp [callDOWR, l0, l1, l2, rg3, e2, e5, e6, e12, e13, e17, e18, e22, e23]
      refine n3175 _ _ ?_ ?_ ?_ ?_ ?_ ?_ ?_ ?_ ?_ ?_ <;> simp [getT, e2, e5, e6, e12, e13, e17, e18, e22, e23]
    · rw [ro_62_3_7]
      simp [callDOWR, l0, l1, l2, rg3, e2, e5, e6, e12, e13, e17, e18, e22, e23]
      refine n3299 _ _ ?_ ?_ ?_ ?_ ?_ ?_ ?_ ?_ ?_ ?_ <;> simp [getT, e2, e5, e6, e12, e13, e17, e18, e22, e23]
    · rw [ro_62_3_12]
      simp [callDOWR, l0, l1, l2, rg3, e2, e5, e6, e12, e13, e17, e18, e22, e23]
      refine n7267 _ _ ?_ ?_ ?_ ?_ ?_ ?_ ?_ ?_ ?_ ?_ <;> simp [getT, e2, e5, e6, e12, e13, e17, e18, e22, e23]
  have n3169 : ∀ tb g, getT tb 2 = .ptr 16 1 0 → getT tb 5 = .ptr 4080 2 0 → getT tb 6 = .ptr 48 3 0 → getT tb 12 = .ptr 4080 2 0 → getT tb 17 = .ptr 4080 2 0 → getT tb 18 = .ptr 48 3 0 → getT tb 22 = .ptr 4080 2 0 → getT tb 23 = .ptr 48 3 0 → exT (CI inlR) 0 (inlW (CI inlR) [] [fw_someAlg, fw_pick, fw_element, fw_someT] 1 0) ro_62_3 Q ex_62_3_3169 ⟨tb, [⟨48, 3, .cells [IL u, RL t]⟩, ⟨4080, 2, .cells (RS b (p))⟩, ⟨16, 1, .cells [.nil, .nil]⟩], g⟩ := by
    intro tb g e2 e5 e6 e12 e17 e18 e22 e23
    unfold ex_62_3_3169
    simp only [exT_alt, exT_one, exT_imm, exT_stop, and_true]
    refine ⟨?_, ?_, ?_⟩
    · rw [ro_62_3_1]
      simp [callDOWR, l0, l1, l2, rg3, e2, e5, e6, e12, e17, e18, e22, e23]
      refine n3171 _ _ ?_ ?_ ?_ ?_ ?_ ?_ ?_ ?_ ?_ <;> simp [getT, e2, e5, e6, e12, e17, e18, e22, e23]
    · rw [ro_62_3_7]
      simp [callDOWR, l0, l1, l2, rg3, e2, e5, e6, e12, e17, e18, e22, e23]
      refine n3297 _ _ ?_ ?_ ?_ ?_ ?_ ?_ ?_ ?_ ?_ <;> simp [getT, e2, e5, e6, e12, e17, e18, e22, e23]
    · rw [ro_62_3_12]
      simp [callDOWR, l0, l1, l2, rg3, e2, e5, e6, e12, e17, e18, e22, e23]
      refine n7265 _ _ ?_ ?_ ?_ ?_ ?_ ?_ ?_ ?_ ?_ <;> simp [getT, e2, e5, e6, e12, e17, e18, e22, e23]
  have n7203 : ∀ tb g, getT tb 2 = .ptr 16 1 0 → getT tb 5 = .ptr 4080 2 0 → getT tb 6 = .ptr 48 3 0 → getT tb 12 = .ptr 4080 2 0 → getT tb 13 = .ptr 48 3 0 → getT tb 17 = .ptr 4080 2 0 → getT tb 22 = .ptr 4080 2 0 → getT tb 23 = .ptr 48 3 0 → getT tb 24 = IL u → exT (CI inlR) 0 (inlW (CI inlR) [] [fw_someAlg, fw_pick, fw_element, fw_someT] 1 0) ro_62_3 Q ex_62_3_7203 ⟨tb, [⟨48, 3, .cells [IL u, RL t]⟩, ⟨4080, 2, .cells (RS b (p))⟩, ⟨16, 1, .cells [.nil, .nil]⟩], g⟩ := by
    intro tb g e2 e5 e6 e12 e13 e17 e22 e23 e24
    unfold ex_62_3_7203
    simp only [exT_alt, exT_one, exT_imm, exT_stop, and_true]
    rw [ro_62_3_13]
    simp [callDOWR, l0, l1, l2, rg3, e2, e5, e6, e12, e13, e17, e22, e23, e24]
    refine n15395 _ _ ?_ ?_ ?_ ?_ ?_ ?_ ?_ ?_ ?_ ?_ <;> simp [getT, e2, e5, e6, e12, e13, e17, e22, e23, e24]
  have n7215 : ∀ tb g, getT tb 2 = .ptr 16 1 0 → getT tb 5 = .ptr 4080 2 0 → getT tb 6 = .ptr 48 3 0 → getT tb 12 = .ptr 4080 2 0 → getT tb 13 = .ptr 48 3 0 → getT tb 14 = IL u → getT tb 15 = I64 (u.length : Int) → getT tb 17 = .ptr 4080 2 0 → getT tb 22 = .ptr 4080 2 0 → getT tb 23 = .ptr 48 3 0 → getT tb 24 = IL u → exT (CI inlR) 0 (inlW (CI inlR) [] [fw_someAlg, fw_pick, fw_element, fw_someT] 1 0) ro_62_3 Q ex_62_3_7215 ⟨tb, [⟨48, 3, .cells [IL u, RL t]⟩, ⟨4080, 2, .cells (RS b (p))⟩, ⟨16, 1, .cells [.nil, .nil]⟩], g⟩ := by
    intro tb g e2 e5 e6 e12 e13 e14 e15 e17 e22 e23 e24
    unfold ex_62_3_7215
    simp only [exT_alt, exT_one, exT_imm, exT_stop, and_true]
    rw [ro_62_3_13]
    simp [callDOWR, l0, l1, l2, rg3, e2, e5, e6, e12, e13, e14, e15, e17, e22, e23, e24]
    refine n15407 _ _ ?_ ?_ ?_ ?_ ?_ ?_ ?_ ?_ ?_ ?_ ?_ ?_ <;> simp [getT, e2, e5, e6, e12, e13, e14, e15, e17, e22, e23, e24]
  have n7231 : ∀ tb g, getT tb 2 = .ptr 16 1 0 → getT tb 5 = .ptr 4080 2 0 → getT tb 6 = .ptr 48 3 0 → getT tb 12 = .ptr 4080 2 0 → getT tb 13 = .ptr 48 3 0 → getT tb 14 = IL u → getT tb 15 = I64 (u.length : Int) → getT tb 16 = I64 y → getT tb 17 = .ptr 4080 2 0 → getT tb 22 = .ptr 4080 2 0 → getT tb 23 = .ptr 48 3 0 → getT tb 24 = IL u → exT (CI inlR) 0 (inlW (CI inlR) [] [fw_someAlg, fw_pick, fw_element, fw_someT] 1 0) ro_62_3 Q ex_62_3_7231 ⟨tb, [⟨48, 3, .cells [IL u, RL t]⟩, ⟨4080, 2, .cells (RS b (p + 2))⟩, ⟨16, 1, .cells [.nil, .nil]⟩], g⟩ := by
    intro tb g e2 e5 e6 e12 e13 e14 e15 e16 e17 e22 e23 e24
    unfold ex_62_3_7231
    simp only [exT_alt, exT_one, exT_imm, exT_stop, and_true]
    rw [ro_62_3_13]
    simp [callDOWR, l0, l1, l2, rg3, e2, e5, e6, e12, e13, e14, e15, e16, e17, e22, e23, e24]
    refine n15423 _ _ ?_ ?_ ?_ ?_ ?_ ?_ ?_ ?_ ?_ ?_ ?_ ?_ ?_ <;> simp [getT, e2, e5, e6, e12, e13, e14, e15, e16, e17, e22, e23, e24]
  have n3135 : ∀ tb g, getT tb 2 = .ptr 16 1 0 → getT tb 5 = .ptr 4080 2 0 → getT tb 6 = .ptr 48 3 0 → getT tb 12 = .ptr 4080 2 0 → getT tb 13 = .ptr 48 3 0 → getT tb 14 = IL u → getT tb 15 = I64 (u.length : Int) → getT tb 16 = I64 y → getT tb 17 = .ptr 4080 2 0 → getT tb 22 = .ptr 4080 2 0 → getT tb 23 = .ptr 48 3 0 → exT (CI inlR) 0 (inlW (CI inlR) [] [fw_someAlg, fw_pick, fw_element, fw_someT] 1 0) ro_62_3 Q ex_62_3_3135 ⟨tb, [⟨48, 3, .cells [IL u, RL t]⟩, ⟨4080, 2, .cells (RS b (p + 2))⟩, ⟨16, 1, .cells [.nil, .nil]⟩], g⟩ := by
    intro tb g e2 e5 e6 e12 e13 e14 e15 e16 e17 e22 e23
    unfold ex_62_3_3135
    simp only [exT_alt, exT_one, exT_imm, exT_stop, and_true]
    refine ⟨?_, ?_⟩
    · rw [ro_62_3_6]
      simp [callDOWR, l0, l1, l2, rg3, e2, e5, e6, e12, e13, e14, e15, e16, e17, e22, e23]
      refine n3199 _ _ ?_ ?_ ?_ ?_ ?_ ?_ ?_ ?_ ?_ ?_ ?_ ?_ <;> simp [getT, e2, e5, e6, e12, e13, e14, e15, e16, e17, e22, e23]
    · rw [ro_62_3_12]
      simp [callDOWR, l0, l1, l2, rg3, e2, e5, e6, e12, e13, e14, e15, e16, e17, e22, e23]
      refine n7231 _ _ ?_ ?_ ?_ ?_ ?_ ?_ ?_ ?_ ?_ ?_ ?_ ?_ <;> simp [getT, e2, e5, e6, e12, e13, e14, e15, e16, e17, e22, e23]
  have n3119 : ∀ tb g, getT tb 2 = .ptr 16 1 0 → getT tb 5 = .ptr 4080 2 0 → getT tb 6 = .ptr 48 3 0 → getT tb 12 = .ptr 4080 2 0 → getT tb 13 = .ptr 48 3 0 → getT tb 14 = IL u → getT tb 15 = I64 (u.length : Int) → getT tb 17 = .ptr 4080 2 0 → getT tb 22 = .ptr 4080 2 0 → getT tb 23 = .ptr 48 3 0 → exT (CI inlR) 0 (inlW (CI inlR) [] [fw_someAlg, fw_pick, fw_element, fw_someT] 1 0) ro_62_3 Q ex_62_3_3119 ⟨tb, [⟨48, 3, .cells [IL u, RL t]⟩, ⟨4080, 2, .cells (RS b (p))⟩, ⟨16, 1, .cells [.nil, .nil]⟩], g⟩ := by
    intro tb g e2 e5 e6 e12 e13 e14 e15 e17 e22 e23
    unfold ex_62_3_3119
    simp only [exT_alt, exT_one, exT_imm, exT_stop, and_true]
    refine ⟨?_, ?_, ?_⟩
    · rw [ro_62_3_4]
      simp [callDOWR, l0, l1, l2, rg3, e2, e5, e6, e12, e13, e14, e15, e17, e22, e23]
      refine n3135 _ _ ?_ ?_ ?_ ?_ ?_ ?_ ?_ ?_ ?_ ?_ ?_ <;> simp [getT, e2, e5, e6, e12, e13, e14, e15, e17, e22, e23]
    · rw [ro_62_3_6]
      simp [callDOWR, l0, l1, l2, rg3, e2, e5, e6, e12, e13, e14, e15, e17, e22, e23]
      refine n3183 _ _ ?_ ?_ ?_ ?_ ?_ ?_ ?_ ?_ ?_ ?_ ?_ <;> simp [getT, e2, e5, e6, e12, e13, e14, e15, e17, e22, e23]
    · rw [ro_62_3_12]
      simp [callDOWR, l0, l1, l2, rg3, e2, e5, e6, e12, e13, e14, e15, e17, e22, e23]
      refine n7215 _ _ ?_ ?_ ?_ ?_ ?_ ?_ ?_ ?_ ?_ ?_ ?_ <;> simp [getT, e2, e5, e6, e12, e13, e14, e15, e17, e22, e23]
  have n3111 : ∀ tb g, getT tb 2 = .ptr 16 1 0 → getT tb 5 = .ptr 4080 2 0 → getT tb 6 = .ptr 48 3 0 → getT tb 12 = .ptr 4080 2 0 → getT tb 13 = .ptr 48 3 0 → getT tb 14 = IL u → getT tb 17 = .ptr 4080 2 0 → getT tb 22 = .ptr 4080 2 0 → getT tb 23 = .ptr 48 3 0 → exT (CI inlR) 0 (inlW (CI inlR) [] [fw_someAlg, fw_pick, fw_element, fw_someT] 1 0) ro_62_3 Q ex_62_3_3111 ⟨tb, [⟨48, 3, .cells [IL u, RL t]⟩, ⟨4080, 2, .cells (RS b (p))⟩, ⟨16, 1, .cells [.nil, .nil]⟩], g⟩ := by
    intro tb g e2 e5 e6 e12 e13 e14 e17 e22 e23
    unfold ex_62_3_3111
    simp only [exT_alt, exT_one, exT_imm, exT_stop, and_true]
    rw [ro_62_3_3]
    simp [callDOWR, l0, l1, l2, rg3, e2, e5, e6, e12, e13, e14, e17, e22, e23]
    refine n3119 _ _ ?_ ?_ ?_ ?_ ?_ ?_ ?_ ?_ ?_ ?_ <;> simp [getT, e2, e5, e6, e12, e13, e14, e17, e22, e23]
  have n3107 : ∀ tb g, getT tb 2 = .ptr 16 1 0 → getT tb 5 = .ptr 4080 2 0 → getT tb 6 = .ptr 48 3 0 → getT tb 12 = .ptr 4080 2 0 → getT tb 13 = .ptr 48 3 0 → getT tb 17 = .ptr 4080 2 0 → getT tb 22 = .ptr 4080 2 0 → getT tb 23 = .ptr 48 3 0 → exT (CI inlR) 0 (inlW (CI inlR) [] [fw_someAlg, fw_pick, fw_element, fw_someT] 1 0) ro_62_3 Q ex_62_3_3107 ⟨tb, [⟨48, 3, .cells [IL u, RL t]⟩, ⟨4080, 2, .cells (RS b (p))⟩, ⟨16, 1, .cells [.nil, .nil]⟩], g⟩ := by
    intro tb g e2 e5 e6 e12 e13 e17 e22 e23
    unfold ex_62_3_3107
    simp only [exT_alt, exT_one, exT_imm, exT_stop, and_true]
    refine ⟨?_, ?_, ?_⟩
    · rw [ro_62_3_2]
      simp [callDOWR, l0, l1, l2, rg3, e2, e5, e6, e12, e13, e17, e22, e23]
      refine n3111 _ _ ?_ ?_ ?_ ?_ ?_ ?_ ?_ ?_ ?_ <;> simp [getT, e2, e5, e6, e12, e13, e17, e22, e23]
    · rw [ro_62_3_6]
      simp [callDOWR, l0, l1, l2, rg3, e2, e5, e6, e12, e13, e17, e22, e23]
      refine n3171 _ _ ?_ ?_ ?_ ?_ ?_ ?_ ?_ ?_ ?_ <;> simp [getT, e2, e5, e6, e12, e13, e17, e22, e23]
    · rw [ro_62_3_12]
      simp [callDOWR, l0, l1, l2, rg3, e2, e5, e6, e12, e13, e17, e22, e23]
      refine n7203 _ _ ?_ ?_ ?_ ?_ ?_ ?_ ?_ ?_ ?_ <;> simp [getT, e2, e5, e6, e12, e13, e17, e22, e23]
  have n3105 : ∀ tb g, getT tb 2 = .ptr 16 1 0 → getT tb 5 = .ptr 4080 2 0 → getT tb 6 = .ptr 48 3 0 → getT tb 12 = .ptr 4080 2 0 → getT tb 17 = .ptr 4080 2 0 → getT tb 22 = .ptr 4080 2 0 → getT tb 23 = .ptr 48 3 0 → exT (CI inlR) 0 (inlW (CI inlR) [] [fw_someAlg, fw_pick, fw_element, fw_someT] 1 0) ro_62_3 Q ex_62_3_3105 ⟨tb, [⟨48, 3, .cells [IL u, RL t]⟩, ⟨4080, 2, .cells (RS b (p))⟩, ⟨16, 1, .cells [.nil, .nil]⟩], g⟩ := by
    intro tb g e2 e5 e6 e12 e17 e22 e23
    unfold ex_62_3_3105
    simp only [exT_alt, exT_one, exT_imm, exT_stop, and_true]
    refine ⟨?_, ?_, ?_⟩
    · rw [ro_62_3_1]
      simp [callDOWR, l0, l1, l2, rg3, e2, e5, e6, e12, e17, e22, e23]
      refine n3107 _ _ ?_ ?_ ?_ ?_ ?_ ?_ ?_ ?_ <;> simp [getT, e2, e5, e6, e12, e17, e22, e23]
    · rw [ro_62_3_6]
      simp [callDOWR, l0, l1, l2, rg3, e2, e5, e6, e12, e17, e22, e23]
      refine n3169 _ _ ?_ ?_ ?_ ?_ ?_ ?_ ?_ ?_ <;> simp [getT, e2, e5, e6, e12, e17, e22, e23]
    · rw [ro_62_3_12]
      simp [callDOWR, l0, l1, l2, rg3, e2, e5, e6, e12, e17, e22, e23]
      refine n7201 _ _ ?_ ?_ ?_ ?_ ?_ ?_ ?_ ?_ <;> simp [getT, e2, e5, e6, e12, e17, e22, e23]
  have n2047 : ∀ tb g, getT tb 2 = .ptr 16 1 0 → getT tb 5 = .ptr 4080 2 0 → getT tb 6 = .ptr 48 3 0 → getT tb 12 = .ptr 4080 2 0 → getT tb 13 = .ptr 48 3 0 → getT tb 14 = IL u → getT tb 15 = I64 (u.length : Int) → getT tb 16 = I64 y → getT tb 17 = .ptr 4080 2 0 → getT tb 18 = .ptr 48 3 0 → getT tb 19 = IL u → getT tb 20 = I64 (u.length : Int) → getT tb 21 = I64 z → getT tb 22 = .ptr 4080 2 0 → exT (CI inlR) 0 (inlW (CI inlR) [] [fw_someAlg, fw_pick, fw_element, fw_someT] 1 0) ro_62_3 Q ex_62_3_2047 ⟨tb, [⟨48, 3, .cells [IL u, RL t]⟩, ⟨4080, 2, .cells (RS b (p + 4))⟩, ⟨16, 1, .cells [.nil, .nil]⟩], g⟩ := by
    intro tb g e2 e5 e6 e12 e13 e14 e15 e16 e17 e18 e19 e20 e21 e22
    unfold ex_62_3_2047
    simp only [exT_alt, exT_one, exT_imm, exT_stop, and_true]
    rw [ro_62_3_11]
    simp [callDOWR, l0, l1, l2, rg3, e2, e5, e6, e12, e13, e14, e15, e16, e17, e18, e19, e20, e21, e22]
    refine n4095 _ _ ?_ ?_ ?_ ?_ ?_ ?_ ?_ ?_ ?_ ?_ ?_ ?_ ?_ ?_ ?_ <;> simp [getT, e2, e5, e6, e12, e13, e14, e15, e16, e17, e18, e19, e20, e21, e22]
  have n1535 : ∀ tb g, getT tb 2 = .ptr 16 1 0 → getT tb 5 = .ptr 4080 2 0 → getT tb 6 = .ptr 48 3 0 → getT tb 12 = .ptr 4080 2 0 → getT tb 13 = .ptr 48 3 0 → getT tb 14 = IL u → getT tb 15 = I64 (u.length : Int) → getT tb 16 = I64 y → getT tb 17 = .ptr 4080 2 0 → getT tb 18 = .ptr 48 3 0 → getT tb 19 = IL u → getT tb 20 = I64 (u.length : Int) → getT tb 22 = .ptr 4080 2 0 → exT (CI inlR) 0 (inlW (CI inlR) [] [fw_someAlg, fw_pick, fw_element, fw_someT] 1 0) ro_62_3 Q ex_62_3_1535 ⟨tb, [⟨48, 3, .cells [IL u, RL t]⟩, ⟨4080, 2, .cells (RS b (p + 2))⟩, ⟨16, 1, .cells [.nil, .nil]⟩], g⟩ := by
    intro tb g e2 e5 e6 e12 e13 e14 e15 e16 e17 e18 e19 e20 e22
    unfold ex_62_3_1535
    simp only [exT_alt, exT_one, exT_imm, exT_stop, and_true]
    refine ⟨?_, ?_⟩
    · rw [ro_62_3_9]
      simp [callDOWR, l0, l1, l2, rg3, e2, e5, e6, e12, e13, e14, e15, e16, e17, e18, e19, e20, e22]
      refine n2047 _ _ ?_ ?_ ?_ ?_ ?_ ?_ ?_ ?_ ?_ ?_ ?_ ?_ ?_ ?_ <;> simp [getT, e2, e5, e6, e12, e13, e14, e15, e16, e17, e18, e19, e20, e22]
    · rw [ro_62_3_11]
      simp [callDOWR, l0, l1, l2, rg3, e2, e5, e6, e12, e13, e14, e15, e16, e17, e18, e19, e20, e22]
      refine n3583 _ _ ?_ ?_ ?_ ?_ ?_ ?_ ?_ ?_ ?_ ?_ ?_ ?_ ?_ ?_ <;> simp [getT, e2, e5, e6, e12, e13, e14, e15, e16, e17, e18, e19, e20, e22]
  have n1519 : ∀ tb g, getT tb 2 = .ptr 16 1 0 → getT tb 5 = .ptr 4080 2 0 → getT tb 6 = .ptr 48 3 0 → getT tb 12 = .ptr 4080 2 0 → getT tb 13 = .ptr 48 3 0 → getT tb 14 = IL u → getT tb 15 = I64 (u.length : Int) → getT tb 17 = .ptr 4080 2 0 → getT tb 18 = .ptr 48 3 0 → getT tb 19 = IL u → getT tb 20 = I64 (u.length : Int) → getT tb 22 = .ptr 4080 2 0 → exT (CI inlR) 0 (inlW (CI inlR) [] [fw_someAlg, fw_pick, fw_element, fw_someT] 1 0) ro_62_3 Q ex_62_3_1519 ⟨tb, [⟨48, 3, .cells [IL u, RL t]⟩, ⟨4080, 2, .cells (RS b (p))⟩, ⟨16, 1, .cells [.nil, .nil]⟩], g⟩ := by
    intro tb g e2 e5 e6 e12 e13 e14 e15 e17 e18 e19 e20 e22
    unfold ex_62_3_1519
    simp only [exT_alt, exT_one, exT_imm, exT_stop, and_true]
    refine ⟨?_, ?_⟩
    · rw [ro_62_3_4]
      simp [callDOWR, l0, l1, l2, rg3, e2, e5, e6, e12, e13, e14, e15, e17, e18, e19, e20, e22]
      refine n1535 _ _ ?_ ?_ ?_ ?_ ?_ ?_ ?_ ?_ ?_ ?_ ?_ ?_ ?_ <;> simp [getT, e2, e5, e6, e12, e13, e14, e15, e17, e18, e19, e20, e22]
    · rw [ro_62_3_11]
      simp [callDOWR, l0, l1, l2, rg3, e2, e5, e6, e12, e13, e14, e15, e17, e18, e19, e20, e22]
      refine n3567 _ _ ?_ ?_ ?_ ?_ ?_ ?_ ?_ ?_ ?_ ?_ ?_ ?_ ?_ <;> simp [getT, e2, e5, e6, e12, e13, e14, e15, e17, e18, e19, e20, e22]
  have n1511 : ∀ tb g, getT tb 2 = .ptr 16 1 0 → getT tb 5 = .ptr 4080 2 0 → getT tb 6 = .ptr 48 3 0 → getT tb 12 = .ptr 4080 2 0 → getT tb 13 = .ptr 48 3 0 → getT tb 14 = IL u → getT tb 17 = .ptr 4080 2 0 → getT tb 18 = .ptr 48 3 0 → getT tb 19 = IL u → getT tb 20 = I64 (u.length : Int) → getT tb 22 = .ptr 4080 2 0 → exT (CI inlR) 0 (inlW (CI inlR) [] [fw_someAlg, fw_pick, fw_element, fw_someT] 1 0) ro_62_3 Q ex_62_3_1511 ⟨tb, [⟨48, 3, .cells [IL u, RL t]⟩, ⟨4080, 2, .cells (RS b (p))⟩, ⟨16, 1, .cells [.nil, .nil]⟩], g⟩ := by
    intro tb g e2 e5 e6 e12 e13 e14 e17 e18 e19 e20 e22
    unfold ex_62_3_1511
    simp only [exT_alt, exT_one, exT_imm, exT_stop, and_true]
    rw [ro_62_3_3]
    simp [callDOWR, l0, l1, l2, rg3, e2, e5, e6, e12, e13, e14, e17, e18, e19, e20, e22]
    refine n1519 _ _ ?_ ?_ ?_ ?_ ?_ ?_ ?_ ?_ ?_ ?_ ?_ ?_ <;> simp [getT, e2, e5, e6, e12, e13, e14, e17, e18, e19, e20, e22]
  have n1507 : ∀ tb g, getT tb 2 = .ptr 16 1 0 → getT tb 5 = .ptr 4080 2 0 → getT tb 6 = .ptr 48 3 0 → getT tb 12 = .ptr 4080 2 0 → getT tb 13 = .ptr 48 3 0 → getT tb 17 = .ptr 4080 2 0 → getT tb 18 = .ptr 48 3 0 → getT tb 19 = IL u → getT tb 20 = I64 (u.length : Int) → getT tb 22 = .ptr 4080 2 0 → exT (CI inlR) 0 (inlW (CI inlR) [] [fw_someAlg, fw_pick, fw_element, fw_someT] 1 0) ro_62_3 Q ex_62_3_1507 ⟨tb, [⟨48, 3, .cells [IL u, RL t]⟩, ⟨4080, 2, .cells (RS b (p))⟩, ⟨16, 1, .cells [.nil, .nil]⟩], g⟩ := by
    intro tb g e2 e5 e6 e12 e13 e17 e18 e19 e20 e22
    unfold ex_62_3_1507
    simp only [exT_alt, exT_one, exT_imm, exT_stop, and_true]
    refine ⟨?_, ?_⟩
    · rw [ro_62_3_2]
      simp [callDOWR, l0, l1, l2, rg3, e2, e5, e6, e12, e13, e17, e18, e19, e20, e22]
      refine n1511 _ _ ?_ ?_ ?_ ?_ ?_ ?_ ?_ ?_ ?_ ?_ ?_ <;> simp [getT, e2, e5, e6, e12, e13, e17, e18, e19, e20, e22]
    · rw [ro_62_3_11]
      simp [callDOWR, l0, l1, l2, rg3, e2, e5, e6, e12, e13, e17, e18, e19, e20, e22]
      refine n3555 _ _ ?_ ?_ ?_ ?_ ?_ ?_ ?_ ?_ ?_ ?_ ?_ <;> simp [getT, e2, e5, e6, e12, e13, e17, e18, e19, e20, e22]
  have n1505 : ∀ tb g, getT tb 2 = .ptr 16 1 0 → getT tb 5 = .ptr 4080 2 0 → getT tb 6 = .ptr 48 3 0 → getT tb 12 = .ptr 4080 2 0 → getT tb 17 = .ptr 4080 2 0 → getT tb 18 = .ptr 48 3 0 → getT tb 19 = IL u → getT tb 20 = I64 (u.length : Int) → getT tb 22 = .ptr 4080 2 0 → exT (CI inlR) 0 (inlW (CI inlR) [] [fw_someAlg, fw_pick, fw_element, fw_someT] 1 0) ro_62_3 Q ex_62_3_1505 ⟨tb, [⟨48, 3, .cells [IL u, RL t]⟩, ⟨4080, 2, .cells (RS b (p))⟩, ⟨16, 1, .cells [.nil, .nil]⟩], g⟩ := by
    intro tb g e2 e5 e6 e12 e17 e18 e19 e20 e22
    unfold ex_62_3_1505
    simp only [exT_alt, exT_one, exT_imm, exT_stop, and_true]
    refine ⟨?_, ?_⟩
    · rw [ro_62_3_1]
      simp [callDOWR, l0, l1, l2, rg3, e2, e5, e6, e12, e17, e18, e19, e20, e22]
      refine n1507 _ _ ?_ ?_ ?_ ?_ ?_ ?_ ?_ ?_ ?_ ?_ <;> simp [getT, e2, e5, e6, e12, e17, e18, e19, e20, e22]
    · rw [ro_62_3_11]
      simp [callDOWR, l0, l1, l2, rg3, e2, e5, e6, e12, e17, e18, e19, e20, e22]
      refine n3553 _ _ ?_ ?_ ?_ ?_ ?_ ?_ ?_ ?_ ?_ ?_ <;> simp [getT, e2, e5, e6, e12, e17, e18, e19, e20, e22]
  have n1249 : ∀ tb g, getT tb 2 = .ptr 16 1 0 → getT tb 5 = .ptr 4080 2 0 → getT tb 6 = .ptr 48 3 0 → getT tb 12 = .ptr 4080 2 0 → getT tb 17 = .ptr 4080 2 0 → getT tb 18 = .ptr 48 3 0 → getT tb 19 = IL u → getT tb 22 = .ptr 4080 2 0 → exT (CI inlR) 0 (inlW (CI inlR) [] [fw_someAlg, fw_pick, fw_element, fw_someT] 1 0) ro_62_3 Q ex_62_3_1249 ⟨tb, [⟨48, 3, .cells [IL u, RL t]⟩, ⟨4080, 2, .cells (RS b (p))⟩, ⟨16, 1, .cells [.nil, .nil]⟩], g⟩ := by
    intro tb g e2 e5 e6 e12 e17 e18 e19 e22
    unfold ex_62_3_1249
    simp only [exT_alt, exT_one, exT_imm, exT_stop, and_true]
    rw [ro_62_3_8]
    simp [callDOWR, l0, l1, l2, rg3, e2, e5, e6, e12, e17, e18, e19, e22]
    refine n1505 _ _ ?_ ?_ ?_ ?_ ?_ ?_ ?_ ?_ ?_ <;> simp [getT, e2, e5, e6, e12, e17, e18, e19, e22]
  have n1251 : ∀ tb g, getT tb 2 = .ptr 16 1 0 → getT tb 5 = .ptr 4080 2 0 → getT tb 6 = .ptr 48 3 0 → getT tb 12 = .ptr 4080 2 0 → getT tb 13 = .ptr 48 3 0 → getT tb 17 = .ptr 4080 2 0 → getT tb 18 = .ptr 48 3 0 → getT tb 19 = IL u → getT tb 22 = .ptr 4080 2 0 → exT (CI inlR) 0 (inlW (CI inlR) [] [fw_someAlg, fw_pick, fw_element, fw_someT] 1 0) ro_62_3 Q ex_62_3_1251 ⟨tb, [⟨48, 3, .cells [IL u, RL t]⟩, ⟨4080, 2, .cells (RS b (p))⟩, ⟨16, 1, .cells [.nil, .nil]⟩], g⟩ := by
    intro tb g e2 e5 e6 e12 e13 e17 e18 e19 e22
    unfold ex_62_3_1251
    simp only [exT_alt, exT_one, exT_imm, exT_stop, and_true]
    rw [ro_62_3_8]
    simp [callDOWR, l0, l1, l2, rg3, e2, e5, e6, e12, e13, e17, e18, e19, e22]
    refine n1507 _ _ ?_ ?_ ?_ ?_ ?_ ?_ ?_ ?_ ?_ ?_ <;> simp [getT, e2, e5, e6, e12, e13, e17, e18, e19, e22]
  have n1263 : ∀ tb g, getT tb 2 = .ptr 16 1 0 → getT tb 5 = .ptr 4080 2 0 → getT tb 6 = .ptr 48 3 0 → getT tb 12 = .ptr 4080 2 0 → getT tb 13 = .ptr 48 3 0 → getT tb 14 = IL u → getT tb 15 = I64 (u.length : Int) → getT tb 17 = .ptr 4080 2 0 → getT tb 18 = .ptr 48 3 0 → getT tb 19 = IL u → getT tb 22 = .ptr 4080 2 0 → exT (CI inlR) 0 (inlW (CI inlR) [] [fw_someAlg, fw_pick, fw_element, fw_someT] 1 0) ro_62_3 Q ex_62_3_1263 ⟨tb, [⟨48, 3, .cells [IL u, RL t]⟩, ⟨4080, 2, .cells (RS b (p))⟩, ⟨16, 1, .cells [.nil, .nil]⟩], g⟩ := by
    intro tb g e2 e5 e6 e12 e13 e14 e15 e17 e18 e19 e22
    unfold ex_62_3_1263
    simp only [exT_alt, exT_one, exT_imm, exT_stop, and_true]
    rw [ro_62_3_8]
    simp [callDOWR, l0, l1, l2, rg3, e2, e5, e6, e12, e13, e14, e15, e17, e18, e19, e22]
    refine n1519 _ _ ?_ ?_ ?_ ?_ ?_ ?_ ?_ ?_ ?_ ?_ ?_ ?_ <;> simp [getT, e2, e5, e6, e12, e13, e14, e15, e17, e18, e19, e22]
  have n1279 : ∀ tb g, getT tb 2 = .ptr 16 1 0 → getT tb 5 = .ptr 4080 2 0 → getT tb 6 = .ptr 48 3 0 → getT tb 12 = .ptr 4080 2 0 → getT tb 13 = .ptr 48 3 0 → getT tb 14 = IL u → getT tb 15 = I64 (u.length : Int) → getT tb 16 = I64 y → getT tb 17 = .ptr 4080 2 0 → getT tb 18 = .ptr 48 3 0 → getT tb 19 = IL u → getT tb 22 = .ptr 4080 2 0 → exT (CI inlR) 0 (inlW (CI inlR) [] [fw_someAlg, fw_pick, fw_element, fw_someT] 1 0) ro_62_3 Q ex_62_3_1279 ⟨tb, [⟨48, 3, .cells [IL u, RL t]⟩, ⟨4080, 2, .cells (RS b (p + 2))⟩, ⟨16, 1, .cells [.nil, .nil]⟩], g⟩ := by
    intro tb g e2 e5 e6 e12 e13 e14 e15 e16 e17 e18 e19 e22
    unfold ex_62_3_1279
    simp only [exT_alt, exT_one, exT_imm, exT_stop, and_true]
    rw [ro_62_3_8]
    simp [callDOWR, l0, l1, l2, rg3, e2, e5, e6, e12, e13, e14, e15, e16, e17, e18, e19, e22]
    refine n1535 _ _ ?_ ?_ ?_ ?_ ?_ ?_ ?_ ?_ ?_ ?_ ?_ ?_ ?_ <;> simp [getT, e2, e5, e6, e12, e13, e14, e15, e16, e17, e18, e19, e22]
  have n1151 : ∀ tb g, getT tb 2 = .ptr 16 1 0 → getT tb 5 = .ptr 4080 2 0 → getT tb 6 = .ptr 48 3 0 → getT tb 12 = .ptr 4080 2 0 → getT tb 13 = .ptr 48 3 0 → getT tb 14 = IL u → getT tb 15 = I64 (u.length : Int) → getT tb 16 = I64 y → getT tb 17 = .ptr 4080 2 0 → getT tb 18 = .ptr 48 3 0 → getT tb 22 = .ptr 4080 2 0 → exT (CI inlR) 0 (inlW (CI inlR) [] [fw_someAlg, fw_pick, fw_element, fw_someT] 1 0) ro_62_3 Q ex_62_3_1151 ⟨tb, [⟨48, 3, .cells [IL u, RL t]⟩, ⟨4080, 2, .cells (RS b (p + 2))⟩, ⟨16, 1, .cells [.nil, .nil]⟩], g⟩ := by
    intro tb g e2 e5 e6 e12 e13 e14 e15 e16 e17 e18 e22
    unfold ex_62_3_1151
    simp only [exT_alt, exT_one, exT_imm, exT_stop, and_true]
    refine ⟨?_, ?_⟩
    · rw [ro_62_3_7]
      simp [callDOWR, l0, l1, l2, rg3, e2, e5, e6, e12, e13, e14, e15, e16, e17, e18, e22]
      refine n1279 _ _ ?_ ?_ ?_ ?_ ?_ ?_ ?_ ?_ ?_ ?_ ?_ ?_ <;> simp [getT, e2, e5, e6, e12, e13, e14, e15, e16, e17, e18, e22]
    · rw [ro_62_3_11]
      simp [callDOWR, l0, l1, l2, rg3, e2, e5, e6, e12, e13, e14, e15, e16, e17, e18, e22]
      refine n3199 _ _ ?_ ?_ ?_ ?_ ?_ ?_ ?_ ?_ ?_ ?_ ?_ ?_ <;> simp [getT, e2, e5, e6, e12, e13, e14, e15, e16, e17, e18, e22]
  have n1135 : ∀ tb g, getT tb 2 = .ptr 16 1 0 → getT tb 5 = .ptr 4080 2 0 → getT tb 6 = .ptr 48 3 0 → getT tb 12 = .ptr 4080 2 0 → getT tb 13 = .ptr 48 3 0 → getT tb 14 = IL u → getT tb 15 = I64 (u.length : Int) → getT tb 17 = .ptr 4080 2 0 → getT tb 18 = .ptr 48 3 0 → getT tb 22 = .ptr 4080 2 0 → exT (CI inlR) 0 (inlW (CI inlR) [] [fw_someAlg, fw_pick, fw_element, fw_someT] 1 0) ro_62_3 Q ex_62_3_1135 ⟨tb, [⟨48, 3, .cells [IL u, RL t]⟩, ⟨4080, 2, .cells (RS b (p))⟩, ⟨16, 1, .cells [.nil, .nil]⟩], g⟩ := by
    intro tb g e2 e5 e6 e12 e13 e14 e15 e17 e18 e22
    unfold ex_62_3_1135
    simp only [exT_alt, exT_one, exT_imm, exT_stop, and_true]
    refine ⟨?_, ?_, ?_⟩
    · rw [ro_62_3_4]
      simp [callDOWR, l0, l1, l2, rg3, e2, e5, e6, e12, e13, e14, e15, e17, e18, e22]
      refine n1151 _ _ ?_ ?_ ?_ ?_ ?_ ?_ ?_ ?_ ?_ ?_ ?_ <;> simp [getT, e2, e5, e6, e12, e13, e14, e15, e17, e18, e22]
    · rw [ro_62_3_7]
      simp [callDOWR, l0, l1, l2, rg3, e2, e5, e6, e12, e13, e14, e15, e17, e18, e22]
      refine n1263 _ _ ?_ ?_ ?_ ?_ ?_ ?_ ?_ ?_ ?_ ?_ ?_ <;> simp [getT, e2, e5, e6, e12, e13, e14, e15, e17, e18, e22]
    · rw [ro_62_3_11]
      simp [callDOWR, l0, l1, l2, rg3, e2, e5, e6, e12, e13, e14, e15, e17, e18, e22]
      refine n3183 _ _ ?_ ?_ ?_ ?_ ?_ ?_ ?_ ?_ ?_ ?_ ?_ <;> simp [getT, e2, e5, e6, e12, e13, e14, e15, e17, e18, e22]
  have n1127 : ∀ tb g, getT tb 2 = .ptr 16 1 0 → getT tb 5 = .ptr 4080 2 0 → getT tb 6 = .ptr 48 3 0 → getT tb 12 = .ptr 4080 2 0 → getT tb 13 = .ptr 48 3 0 → getT tb 14 = IL u → getT tb 17 = .ptr 4080 2 0 → getT tb 18 = .ptr 48 3 0 → getT tb 22 = .ptr 4080 2 0 → exT (CI inlR) 0 (inlW (CI inlR) [] [fw_someAlg, fw_pick, fw_element, fw_someT] 1 0) ro_62_3 Q ex_62_3_1127 ⟨tb, [⟨48, 3, .cells [IL u, RL t]⟩, ⟨4080, 2, .cells (RS b (p))⟩, ⟨16, 1, .cells [.nil, .nil]⟩], g⟩ := by
    intro tb g e2 e5 e6 e12 e13 e14 e17 e18 e22
    unfold ex_62_3_1127
    simp only [exT_alt, exT_one, exT_imm, exT_stop, and_true]
    rw [ro_62_3_3]
    simp [callDOWR, l0, l1, l2, rg3, e2, e5, e6, e12, e13, e14, e17, e18, e22]
    refine n1135 _ _ ?_ ?_ ?_ ?_ ?_ ?_ ?_ ?_ ?_ ?_ <;> simp [getT, e2, e5, e6, e12, e13, e14, e17, e18, e22]
  have n1123 : ∀ tb g, getT tb 2 = .ptr 16 1 0 → getT tb 5 = .ptr 4080 2 0 → getT tb 6 = .ptr 48 3 0 → getT tb 12 = .ptr 4080 2 0 → getT tb 13 = .ptr 48 3 0 → getT tb 17 = .ptr 4080 2 0 → getT tb 18 = .ptr 48 3 0 → getT tb 22 = .ptr 4080 2 0 → exT (CI inlR) 0 (inlW (CI inlR) [] [fw_someAlg, fw_pick, fw_element, fw_someT] 1 0) ro_62_3 Q ex_62_3_1123 ⟨tb, [⟨48, 3, .cells [IL u, RL t]⟩, ⟨4080, 2, .cells (RS b (p))⟩, ⟨16, 1, .cells [.nil, .nil]⟩], g⟩ := by
    intro tb g e2 e5 e6 e12 e13 e17 e18 e22
    unfold ex_62_3_1123
    simp only [exT_alt, exT_one, exT_imm, exT_stop, and_true]
    refine ⟨?_, ?_, ?_⟩
    · rw [ro_62_3_2]
      simp [callDOWR, l0, l1, l2, rg3, e2, e5, e6, e12, e13, e17, e18, e22]
      refine n1127 _ _ ?_ ?_ ?_ ?_ ?_ ?_ ?_ ?_ ?_ <;> simp [getT, e2, e5, e6, e12, e13, e17, e18, e22]
    · rw [ro_62_3_7]
      simp [callDOWR, l0, l1, l2, rg3, e2, e5, e6, e12, e13, e17, e18, e22]
      refine n1251 _ _ ?_ ?_ ?_ ?_ ?_ ?_ ?_ ?_ ?_ <;> simp [getT, e2, e5, e6, e12, e13, e17, e18, e22]
    · rw [ro_62_3_11]
      simp [callDOWR, l0, l1, l2, rg3, e2, e5, e6, e12, e13, e17, e18, e22]
      refine n3171 _ _ ?_ ?_ ?_ ?_ ?_ ?_ ?_ ?_ ?_ <;> simp [getT, e2, e5, e6, e12, e13, e17, e18, e22]
  have n1121 : ∀ tb g, getT tb 2 = .ptr 16 1 0 → getT tb 5 = .ptr 4080 2 0 → getT tb 6 = .ptr 48 3 0 → getT tb 12 = .ptr 4080 2 0 → getT tb 17 = .ptr 4080 2 0 → getT tb 18 = .ptr 48 3 0 → getT tb 22 = .ptr 4080 2 0 → exT (CI inlR) 0 (inlW (CI inlR) [] [fw_someAlg, fw_pick, fw_element, fw_someT] 1 0) ro_62_3 Q ex_62_3_1121 ⟨tb, [⟨48, 3, .cells [IL u, RL t]⟩, ⟨4080, 2, .cells (RS b (p))⟩, ⟨16, 1, .cells [.nil, .nil]⟩], g⟩ := by
    intro tb g e2 e5 e6 e12 e17 e18 e22
    unfold ex_62_3_1121
    simp only [exT_alt, exT_one, exT_imm, exT_stop, and_true]
    refine ⟨?_, ?_, ?_⟩
    · rw [ro_62_3_1]
      simp [callDOWR, l0, l1, l2, rg3, e2, e5, e6, e12, e17, e18, e22]
      refine n1123 _ _ ?_ ?_ ?_ ?_ ?_ ?_ ?_ ?_ <;> simp [getT, e2, e5, e6, e12, e17, e18, e22]
    · rw [ro_62_3_7]
      simp [callDOWR, l0, l1, l2, rg3, e2, e5, e6, e12, e17, e18, e22]
      refine n1249 _ _ ?_ ?_ ?_ ?_ ?_ ?_ ?_ ?_ <;> simp [getT, e2, e5, e6, e12, e17, e18, e22]
    · rw [ro_62_3_11]
      simp [callDOWR, l0, l1, l2, rg3, e2, e5, e6, e12, e17, e18, e22]
      refine n3169 _ _ ?_ ?_ ?_ ?_ ?_ ?_ ?_ ?_ <;> simp [getT, e2, e5, e6, e12, e17, e18, e22]
  have n1087 : ∀ tb g, getT tb 2 = .ptr 16 1 0 → getT tb 5 = .ptr 4080 2 0 → getT tb 6 = .ptr 48 3 0 → getT tb 12 = .ptr 4080 2 0 → getT tb 13 = .ptr 48 3 0 → getT tb 14 = IL u → getT tb 15 = I64 (u.length : Int) → getT tb 16 = I64 y → getT tb 17 = .ptr 4080 2 0 → getT tb 22 = .ptr 4080 2 0 → exT (CI inlR) 0 (inlW (CI inlR) [] [fw_someAlg, fw_pick, fw_element, fw_someT] 1 0) ro_62_3 Q ex_62_3_1087 ⟨tb, [⟨48, 3, .cells [IL u, RL t]⟩, ⟨4080, 2, .cells (RS b (p + 2))⟩, ⟨16, 1, .cells [.nil, .nil]⟩], g⟩ := by
    intro tb g e2 e5 e6 e12 e13 e14 e15 e16 e17 e22
    unfold ex_62_3_1087
    simp only [exT_alt, exT_one, exT_imm, exT_stop, and_true]
    refine ⟨?_, ?_⟩
    · rw [ro_62_3_6]
      simp [callDOWR, l0, l1, l2, rg3, e2, e5, e6, e12, e13, e14, e15, e16, e17, e22]
      refine n1151 _ _ ?_ ?_ ?_ ?_ ?_ ?_ ?_ ?_ ?_ ?_ ?_ <;> simp [getT, e2, e5, e6, e12, e13, e14, e15, e16, e17, e22]
    · rw [ro_62_3_11]
      simp [callDOWR, l0, l1, l2, rg3, e2, e5, e6, e12, e13, e14, e15, e16, e17, e22]
      refine n3135 _ _ ?_ ?_ ?_ ?_ ?_ ?_ ?_ ?_ ?_ ?_ ?_ <;> simp [getT, e2, e5, e6, e12, e13, e14, e15, e16, e17, e22]
  have n1071 : ∀ tb g, getT tb 2 = .ptr 16 1 0 → getT tb 5 = .ptr 4080 2 0 → getT tb 6 = .ptr 48 3 0 → getT tb 12 = .ptr 4080 2 0 → getT tb 13 = .ptr 48 3 0 → getT tb 14 = IL u → getT tb 15 = I64 (u.length : Int) → getT tb 17 = .ptr 4080 2 0 → getT tb 22 = .ptr 4080 2 0 → exT (CI inlR) 0 (inlW (CI inlR) [] [fw_someAlg, fw_pick, fw_element, fw_someT] 1 0) ro_62_3 Q ex_62_3_1071 ⟨tb, [⟨48, 3, .cells [IL u, RL t]⟩, ⟨4080, 2, .cells (RS b (p))⟩, ⟨16, 1, .cells [.nil, .nil]⟩], g⟩ := by
    intro tb g e2 e5 e6 e12 e13 e14 e15 e17 e22
    unfold ex_62_3_1071
    simp only [exT_alt, exT_one, exT_imm, exT_stop, and_true]
    refine ⟨?_, ?_, ?_⟩
    · rw [ro_62_3_4]
      simp [callDOWR, l0, l1, l2, rg3, e2, e5, e6, e12, e13, e14, e15, e17, e22]
      refine n1087 _ _ ?_ ?_ ?_ ?_ ?_ ?_ ?_ ?_ ?_ ?_ <;> simp [getT, e2, e5, e6, e12, e13, e14, e15, e17, e22]
    · rw [ro_62_3_6]
      simp [callDOWR, l0, l1, l2, rg3, e2, e5, e6, e12, e13, e14, e15, e17, e22]
      refine n1135 _ _ ?_ ?_ ?_ ?_ ?_ ?_ ?_ ?_ ?_ ?_ <;> simp [getT, e2, e5, e6, e12, e13, e14, e15, e17, e22]
    · rw [ro_62_3_11]
      simp [callDOWR, l0, l1, l2, rg3, e2, e5, e6, e12, e13, e14, e15, e17, e22]
      refine n3119 _ _ ?_ ?_ ?_ ?_ ?_ ?_ ?_ ?_ ?_ ?_ <;> simp [getT, e2, e5, e6, e12, e13, e14, e15, e17, e22]
  have n1063 : ∀ tb g, getT tb 2 = .ptr 16 1 0 → getT tb 5 = .ptr 4080 2 0 → getT tb 6 = .ptr 48 3 0 → getT tb 12 = .ptr 4080 2 0 → getT tb 13 = .ptr 48 3 0 → getT tb 14 = IL u → getT tb 17 = .ptr 4080 2 0 → getT tb 22 = .ptr 4080 2 0 → exT (CI inlR) 0 (inlW (CI inlR) [] [fw_someAlg, fw_pick, fw_element, fw_someT] 1 0) ro_62_3 Q ex_62_3_1063 ⟨tb, [⟨48, 3, .cells [IL u, RL t]⟩, ⟨4080, 2, .cells (RS b (p))⟩, ⟨16, 1, .cells [.nil, .nil]⟩], g⟩ := by
    intro tb g e2 e5 e6 e12 e13 e14 e17 e22
    unfold ex_62_3_1063
    simp only [exT_alt, exT_one, exT_imm, exT_stop, and_true]
    rw [ro_62_3_3]
    simp [callDOWR, l0, l1, l2, rg3, e2, e5, e6, e12, e13, e14, e17, e22]
    refine n1071 _ _ ?_ ?_ ?_ ?_ ?_ ?_ ?_ ?_ ?_ <;> simp [getT, e2, e5, e6, e12, e13, e14, e17, e22]
  have n1059 : ∀ tb g, getT tb 2 = .ptr 16 1 0 → getT tb 5 = .ptr 4080 2 0 → getT tb 6 = .ptr 48 3 0 → getT tb 12 = .ptr 4080 2 0 → getT tb 13 = .ptr 48 3 0 → getT tb 17 = .ptr 4080 2 0 → getT tb 22 = .ptr 4080 2 0 → exT (CI inlR) 0 (inlW (CI inlR) [] [fw_someAlg, fw_pick, fw_element, fw_someT] 1 0) ro_62_3 Q ex_62_3_1059 ⟨tb, [⟨48, 3, .cells [IL u, RL t]⟩, ⟨4080, 2, .cells (RS b (p))⟩, ⟨16, 1, .cells [.nil, .nil]⟩], g⟩ := by
    intro tb g e2 e5 e6 e12 e13 e17 e22
    unfold ex_62_3_1059
    simp only [exT_alt, exT_one, exT_imm, exT_stop, and_true]
    refine ⟨?_, ?_, ?_⟩
    · rw [ro_62_3_2]
      simp [callDOWR, l0, l1, l2, rg3, e2, e5, e6, e12, e13, e17, e22]
      refine n1063 _ _ ?_ ?_ ?_ ?_ ?_ ?_ ?_ ?_ <;> simp [getT, e2, e5, e6, e12, e13, e17, e22]
    · rw [ro_62_3_6]
      simp [callDOWR, l0, l1, l2, rg3, e2, e5, e6, e12, e13, e17, e22]
      refine n1123 _ _ ?_ ?_ ?_ ?_ ?_ ?_ ?_ ?_ <;> simp [getT, e2, e5, e6, e12, e13, e17, e22]
    · rw [ro_62_3_11]
      simp [callDOWR, l0, l1, l2, rg3, e2, e5, e6, e12, e13, e17, e22]
      refine n3107 _ _ ?_ ?_ ?_ ?_ ?_ ?_ ?_ ?_ <;> simp [getT, e2, e5, e6, e12, e13, e17, e22]
  have n1057 : ∀ tb g, getT tb 2 = .ptr 16 1 0 → getT tb 5 = .ptr 4080 2 0 → getT tb 6 = .ptr 48 3 0 → getT tb 12 = .ptr 4080 2 0 → getT tb 17 = .ptr 4080 2 0 → getT tb 22 = .ptr 4080 2 0 → exT (CI inlR) 0 (inlW (CI inlR) [] [fw_someAlg, fw_pick, fw_element, fw_someT] 1 0) ro_62_3 Q ex_62_3_1057 ⟨tb, [⟨48, 3, .cells [IL u, RL t]⟩, ⟨4080, 2, .cells (RS b (p))⟩, ⟨16, 1, .cells [.nil, .nil]⟩], g⟩ := by
    intro tb g e2 e5 e6 e12 e17 e22
    unfold ex_62_3_1057
    simp only [exT_alt, exT_one, exT_imm, exT_stop, and_true]
    refine ⟨?_, ?_, ?_⟩
    · rw [ro_62_3_1]
      simp [callDOWR, l0, l1, l2, rg3, e2, e5, e6, e12, e17, e22]
      refine n1059 _ _ ?_ ?_ ?_ ?_ ?_ ?_ ?_ <;> simp [getT, e2, e5, e6, e12, e17, e22]
    · rw [ro_62_3_6]
      simp [callDOWR, l0, l1, l2, rg3, e2, e5, e6, e12, e17, e22]
      refine n1121 _ _ ?_ ?_ ?_ ?_ ?_ ?_ ?_ <;> simp [getT, e2, e5, e6, e12, e17, e22]
    · rw [ro_62_3_11]
      simp [callDOWR, l0, l1, l2, rg3, e2, e5, e6, e12, e17, e22]
      refine n3105 _ _ ?_ ?_ ?_ ?_ ?_ ?_ ?_ <;> simp [getT, e2, e5, e6, e12, e17, e22]
  have n33 : ∀ tb g, getT tb 2 = .ptr 16 1 0 → getT tb 5 = .ptr 4080 2 0 → getT tb 6 = .ptr 48 3 0 → getT tb 12 = .ptr 4080 2 0 → getT tb 17 = .ptr 4080 2 0 → exT (CI inlR) 0 (inlW (CI inlR) [] [fw_someAlg, fw_pick, fw_element, fw_someT] 1 0) ro_62_3 Q ex_62_3_33 ⟨tb, [⟨48, 3, .cells [IL u, RL t]⟩, ⟨4080, 2, .cells (RS b (p))⟩, ⟨16, 1, .cells [.nil, .nil]⟩], g⟩ := by
    intro tb g e2 e5 e6 e12 e17
    unfold ex_62_3_33
    simp only [exT_alt, exT_one, exT_imm, exT_stop, and_true]
    rw [ro_62_3_10]
    simp [callDOWR, l0, l1, l2, rg3, e2, e5, e6, e12, e17]
    refine n1057 _ _ ?_ ?_ ?_ ?_ ?_ ?_ <;> simp [getT, e2, e5, e6, e12, e17]
  have n1 : ∀ tb g, getT tb 2 = .ptr 16 1 0 → getT tb 5 = .ptr 4080 2 0 → getT tb 6 = .ptr 48 3 0 → getT tb 12 = .ptr 4080 2 0 → exT (CI inlR) 0 (inlW (CI inlR) [] [fw_someAlg, fw_pick, fw_element, fw_someT] 1 0) ro_62_3 Q ex_62_3_1 ⟨tb, [⟨48, 3, .cells [IL u, RL t]⟩, ⟨4080, 2, .cells (RS b (p))⟩, ⟨16, 1, .cells [.nil, .nil]⟩], g⟩ := by
    intro tb g e2 e5 e6 e12
    unfold ex_62_3_1
    simp only [exT_alt, exT_one, exT_imm, exT_stop, and_true]
    rw [ro_62_3_5]
    simp [callDOWR, l0, l1, l2, rg3, e2, e5, e6, e12]
    refine n33 _ _ ?_ ?_ ?_ ?_ ?_ <;> simp [getT, e2, e5, e6, e12]
  have n0 : ∀ tb g, getT tb 2 = .ptr 16 1 0 → getT tb 5 = .ptr 4080 2 0 → getT tb 6 = .ptr 48 3 0 → exT (CI inlR) 0 (inlW (CI inlR) [] [fw_someAlg, fw_pick, fw_element, fw_someT] 1 0) ro_62_3 Q ex_62_3_0 ⟨tb, [⟨48, 3, .cells [IL u, RL t]⟩, ⟨4080, 2, .cells (RS b (p))⟩, ⟨16, 1, .cells [.nil, .nil]⟩], g⟩ := by
    intro tb g e2 e5 e6
    unfold ex_62_3_0
    simp only [exT_alt, exT_one, exT_imm, exT_stop, and_true]
    rw [ro_62_3_0]
    simp [callDOWR, l0, l1, l2, rg3, e2, e5, e6]
    refine n1 _ _ ?_ ?_ ?_ ?_ <;> simp [getT, e2, e5, e6]
  exact n0

set_option maxHeartbeats 4000000 in
theorem val_dag6 {Q : St → Prop} {b : List Int} {p p2 : Nat} {u : List Int} {t : List (List Int)} {y z : List Int} (l0 : fw_someT.look [.ptr 0 0 0] (RS b p) = some (IL z, RS b p2))
    (hQ : ∀ tb g, getT tb 2 = .ptr 16 1 0 → getT tb 3 = IL z → getT tb 4 = IL y → Q ⟨tb, [⟨48, 3, .cells [IL u, RL t]⟩, ⟨4080, 2, .cells (RS b (p2))⟩, ⟨16, 1, .cells [IL u, RL t]⟩], g⟩) : ∀ tb g, getT tb 2 = .ptr 16 1 0 → getT tb 5 = .ptr 4080 2 0 → getT tb 6 = .ptr 48 3 0 → getT tb 7 = IL y → exT (CI inlR) 0 (inlW (CI inlR) [] [fw_someAlg, fw_pick, fw_element, fw_someT] 1 0) ro_62_6 Q ex_62_6_0 ⟨tb, [⟨48, 3, .cells [IL u, RL t]⟩, ⟨4080, 2, .cells (RS b (p))⟩, ⟨16, 1, .cells [.nil, .nil]⟩], g⟩ := by
  have n127 : ∀ tb g, getT tb 2 = .ptr 16 1 0 → getT tb 5 = .ptr 4080 2 0 → getT tb 6 = .ptr 48 3 0 → getT tb 7 = IL y → getT tb 33 = AL u t → getT tb 34 = .ptr 4080 2 0 → getT tb 35 = IL z → getT tb 36 = IL y → getT tb 3 = IL z → getT tb 4 = IL y → exT (CI inlR) 0 (inlW (CI inlR) [] [fw_someAlg, fw_pick, fw_element, fw_someT] 1 0) ro_62_6 Q ex_62_6_127 ⟨tb, [⟨48, 3, .cells [IL u, RL t]⟩, ⟨4080, 2, .cells (RS b (p2))⟩, ⟨16, 1, .cells [IL u, RL t]⟩], g⟩ := by
    intro tb g e2 e5 e6 e7 e33 e34 e35 e36 e3 e4
    unfold ex_62_6_127
    exact hQ tb g e2 e3 e4
  have n63 : ∀ tb g, getT tb 2 = .ptr 16 1 0 → getT tb 5 = .ptr 4080 2 0 → getT tb 6 = .ptr 48 3 0 → getT tb 7 = IL y → getT tb 33 = AL u t → getT tb 34 = .ptr 4080 2 0 → getT tb 35 = IL z → getT tb 36 = IL y → getT tb 3 = IL z → exT (CI inlR) 0 (inlW (CI inlR) [] [fw_someAlg, fw_pick, fw_element, fw_someT] 1 0) ro_62_6 Q ex_62_6_63 ⟨tb, [⟨48, 3, .cells [IL u, RL t]⟩, ⟨4080, 2, .cells (RS b (p2))⟩, ⟨16, 1, .cells [IL u, RL t]⟩], g⟩ := by
    intro tb g e2 e5 e6 e7 e33 e34 e35 e36 e3
    unfold ex_62_6_63
    simp only [exT_alt, exT_one, exT_imm, exT_stop, and_true]
    rw [ro_62_6_6]
    simp [callDOWR, l0, e2, e5, e6, e7, e33, e34, e35, e36, e3]
    refine n127 _ _ ?_ ?_ ?_ ?_ ?_ ?_ ?_ ?_ ?_ ?_ <;> simp [getT, e2, e5, e6, e7, e33, e34, e35, e36, e3]
  have n31 : ∀ tb g, getT tb 2 = .ptr 16 1 0 → getT tb 5 = .ptr 4080 2 0 → getT tb 6 = .ptr 48 3 0 → getT tb 7 = IL y → getT tb 33 = AL u t → getT tb 34 = .ptr 4080 2 0 → getT tb 35 = IL z → getT tb 36 = IL y → exT (CI inlR) 0 (inlW (CI inlR) [] [fw_someAlg, fw_pick, fw_element, fw_someT] 1 0) ro_62_6 Q ex_62_6_31 ⟨tb, [⟨48, 3, .cells [IL u, RL t]⟩, ⟨4080, 2, .cells (RS b (p2))⟩, ⟨16, 1, .cells [IL u, RL t]⟩], g⟩ := by
    intro tb g e2 e5 e6 e7 e33 e34 e35 e36
    unfold ex_62_6_31
    simp only [exT_alt, exT_one, exT_imm, exT_stop, and_true]
    rw [ro_62_6_5]
    simp [callDOWR, l0, e2, e5, e6, e7, e33, e34, e35, e36]
    refine n63 _ _ ?_ ?_ ?_ ?_ ?_ ?_ ?_ ?_ ?_ <;> simp [getT, e2, e5, e6, e7, e33, e34, e35, e36]
  have n15 : ∀ tb g, getT tb 2 = .ptr 16 1 0 → getT tb 5 = .ptr 4080 2 0 → getT tb 6 = .ptr 48 3 0 → getT tb 7 = IL y → getT tb 33 = AL u t → getT tb 34 = .ptr 4080 2 0 → getT tb 35 = IL z → getT tb 36 = IL y → exT (CI inlR) 0 (inlW (CI inlR) [] [fw_someAlg, fw_pick, fw_element, fw_someT] 1 0) ro_62_6 Q ex_62_6_15 ⟨tb, [⟨48, 3, .cells [IL u, RL t]⟩, ⟨4080, 2, .cells (RS b (p2))⟩, ⟨16, 1, .cells [.nil, .nil]⟩], g⟩ := by
    intro tb g e2 e5 e6 e7 e33 e34 e35 e36
    unfold ex_62_6_15
    simp only [exT_alt, exT_one, exT_imm, exT_stop, and_true]
    rw [ro_62_6_4]
    simp [callDOWR, l0, e2, e5, e6, e7, e33, e34, e35, e36]
    refine n31 _ _ ?_ ?_ ?_ ?_ ?_ ?_ ?_ ?_ <;> simp [getT, e2, e5, e6, e7, e33, e34, e35, e36]
  have n14 : ∀ tb g, getT tb 2 = .ptr 16 1 0 → getT tb 5 = .ptr 4080 2 0 → getT tb 6 = .ptr 48 3 0 → getT tb 7 = IL y → getT tb 34 = .ptr 4080 2 0 → getT tb 35 = IL z → getT tb 36 = IL y → exT (CI inlR) 0 (inlW (CI inlR) [] [fw_someAlg, fw_pick, fw_element, fw_someT] 1 0) ro_62_6 Q ex_62_6_14 ⟨tb, [⟨48, 3, .cells [IL u, RL t]⟩, ⟨4080, 2, .cells (RS b (p2))⟩, ⟨16, 1, .cells [.nil, .nil]⟩], g⟩ := by
    intro tb g e2 e5 e6 e7 e34 e35 e36
    unfold ex_62_6_14
    simp only [exT_alt, exT_one, exT_imm, exT_stop, and_true]
    rw [ro_62_6_0]
    simp [callDOWR, l0, e2, e5, e6, e7, e34, e35, e36]
    refine n15 _ _ ?_ ?_ ?_ ?_ ?_ ?_ ?_ ?_ <;> simp [getT, e2, e5, e6, e7, e34, e35, e36]
  have n11 : ∀ tb g, getT tb 2 = .ptr 16 1 0 → getT tb 5 = .ptr 4080 2 0 → getT tb 6 = .ptr 48 3 0 → getT tb 7 = IL y → getT tb 33 = AL u t → getT tb 34 = .ptr 4080 2 0 → getT tb 36 = IL y → exT (CI inlR) 0 (inlW (CI inlR) [] [fw_someAlg, fw_pick, fw_element, fw_someT] 1 0) ro_62_6 Q ex_62_6_11 ⟨tb, [⟨48, 3, .cells [IL u, RL t]⟩, ⟨4080, 2, .cells (RS b (p))⟩, ⟨16, 1, .cells [.nil, .nil]⟩], g⟩ := by
    intro tb g e2 e5 e6 e7 e33 e34 e36
    unfold ex_62_6_11
    simp only [exT_alt, exT_one, exT_imm, exT_stop, and_true]
    rw [ro_62_6_2]
    simp [callDOWR, l0, e2, e5, e6, e7, e33, e34, e36]
    refine n15 _ _ ?_ ?_ ?_ ?_ ?_ ?_ ?_ ?_ <;> simp [getT, e2, e5, e6, e7, e33, e34, e36]
  have n10 : ∀ tb g, getT tb 2 = .ptr 16 1 0 → getT tb 5 = .ptr 4080 2 0 → getT tb 6 = .ptr 48 3 0 → getT tb 7 = IL y → getT tb 34 = .ptr 4080 2 0 → getT tb 36 = IL y → exT (CI inlR) 0 (inlW (CI inlR) [] [fw_someAlg, fw_pick, fw_element, fw_someT] 1 0) ro_62_6 Q ex_62_6_10 ⟨tb, [⟨48, 3, .cells [IL u, RL t]⟩, ⟨4080, 2, .cells (RS b (p))⟩, ⟨16, 1, .cells [.nil, .nil]⟩], g⟩ := by
    intro tb g e2 e5 e6 e7 e34 e36
    unfold ex_62_6_10
    simp only [exT_alt, exT_one, exT_imm, exT_stop, and_true]
    refine ⟨?_, ?_⟩
    · rw [ro_62_6_0]
      simp [callDOWR, l0, e2, e5, e6, e7, e34, e36]
      refine n11 _ _ ?_ ?_ ?_ ?_ ?_ ?_ ?_ <;> simp [getT, e2, e5, e6, e7, e34, e36]
    · rw [ro_62_6_2]
      simp [callDOWR, l0, e2, e5, e6, e7, e34, e36]
      refine n14 _ _ ?_ ?_ ?_ ?_ ?_ ?_ ?_ <;> simp [getT, e2, e5, e6, e7, e34, e36]
  have n2 : ∀ tb g, getT tb 2 = .ptr 16 1 0 → getT tb 5 = .ptr 4080 2 0 → getT tb 6 = .ptr 48 3 0 → getT tb 7 = IL y → getT tb 34 = .ptr 4080 2 0 → exT (CI inlR) 0 (inlW (CI inlR) [] [fw_someAlg, fw_pick, fw_element, fw_someT] 1 0) ro_62_6 Q ex_62_6_2 ⟨tb, [⟨48, 3, .cells [IL u, RL t]⟩, ⟨4080, 2, .cells (RS b (p))⟩, ⟨16, 1, .cells [.nil, .nil]⟩], g⟩ := by
    intro tb g e2 e5 e6 e7 e34
    unfold ex_62_6_2
    simp only [exT_alt, exT_one, exT_imm, exT_stop, and_true]
    rw [ro_62_6_3]
    simp [callDOWR, l0, e2, e5, e6, e7, e34]
    refine n10 _ _ ?_ ?_ ?_ ?_ ?_ ?_ <;> simp [getT, e2, e5, e6, e7, e34]
  have n0 : ∀ tb g, getT tb 2 = .ptr 16 1 0 → getT tb 5 = .ptr 4080 2 0 → getT tb 6 = .ptr 48 3 0 → getT tb 7 = IL y → exT (CI inlR) 0 (inlW (CI inlR) [] [fw_someAlg, fw_pick, fw_element, fw_someT] 1 0) ro_62_6 Q ex_62_6_0 ⟨tb, [⟨48, 3, .cells [IL u, RL t]⟩, ⟨4080, 2, .cells (RS b (p))⟩, ⟨16, 1, .cells [.nil, .nil]⟩], g⟩ := by
    intro tb g e2 e5 e6 e7
    unfold ex_62_6_0
    simp only [exT_alt, exT_one, exT_imm, exT_stop, and_true]
    rw [ro_62_6_1]
    simp [callDOWR, l0, e2, e5, e6, e7]
    refine n2 _ _ ?_ ?_ ?_ ?_ ?_ <;> simp [getT, e2, e5, e6, e7]
  exact n0

/-- Elements for the names, most often. -/
def dVn (b : List Int) (p : Nat) (n : Int) : List Int := if pkM b (p + 6) 24 = 0 then [elM b p n, elM b (p + 2) n] else [elM b p n, elM b (p + 2) n, elM b (p + 4) n]
set_option maxHeartbeats 4000000 in
theorem drVal_pc (c : List Int) (hc : Byt c) (hl : Big c.length) : PC Try.prog 62 [BL c] none false (fun r _ => r = .tup [AL (saM (rdB c) 0).1.1 (saM (rdB c) 0).1.2, IL (stM (rdB c) ((saM (rdB c) 0).2 + 7)).1, IL (dVn (rdB c) (saM (rdB c) 0).2 (saM (rdB c) 0).1.1.length)]) := by
  have hl := hl.le
  have hb := rdB_ok hc
  have l1 := fw_someAlg_look (rdB c) 0 hb (by omega) (by omega)
  obtain ⟨g, q⟩ := saM_few hb (p := 0) (by omega)
  have hu := g.u
  refine pcR [] [fw_someAlg, fw_pick, fw_element, fw_someT] fok_62 ?_
  generalize saM (rdB c) 0 = A at *
  obtain ⟨⟨u, t⟩, p1⟩ := A
  dsimp only at *
  have e1 := fw_element_look (rdB c) p1 u.length hb (by omega) (by omega) (by omega)
  have e2 := fw_element_look (rdB c) (p1 + 2) u.length hb (by omega) (by omega) (by omega)
  have e3 := fw_element_look (rdB c) (p1 + 4) u.length hb (by omega) (by omega) (by omega)
  have l3 := fw_pick_look (rdB c) (p1 + 6) 24 hb (by omega) (by omega)
  have l4 := fw_someT_look (rdB c) (p1 + 7) hb (by omega) (by omega)
  rw [show p1 + 2 + 2 = p1 + 4 from rfl] at e2
  rw [show p1 + 4 + 2 = p1 + 6 from rfl] at e3
  rw [show p1 + 6 + 1 = p1 + 7 from rfl] at l3
  unfold dVn
  generalize stM (rdB c) (p1 + 7) = Z at *
  generalize elM (rdB c) p1 u.length = x1 at *
  generalize elM (rdB c) (p1 + 2) u.length = x2 at *
  generalize elM (rdB c) (p1 + 4) u.length = x3 at *
  obtain ⟨z, p3⟩ := Z
  dsimp only at *
  simp [fa_62]
  refine newR hl ?_
  simp [callOWR, l1]
  refine cutE (α := Unit) (fun _ => [(2, .ptr 16 1 0), (5, .ptr 4080 2 0), (6, .ptr 48 3 0), (7, .list 1 [I64 x1, I64 x2, I64 x3])]) (fun _ => [⟨48, 3, .cells [IL u, RL t]⟩, ⟨4080, 2, .cells (RS (rdB c) (p1 + 6))⟩, ⟨16, 1, .cells [.nil, .nil]⟩]) ?_ (fun _ g0 => ?_)
  · refine val_dag3 (p := p1) e1 e2 e3 (fun tb g q2 q5 q6 q7 => ?_) _ _ (by simp) (by simp) (by simp)
    simp [q2, q5, q6, q7]
  · by_cases c0 : pkM (rdB c) (p1 + 6) 24 = 0
    · simp [callOWR, l3, c0]
      refine cutE (α := Unit) (fun _ => [(2, .ptr 16 1 0), (3, IL z), (4, .list 1 [I64 x1, I64 x2])]) (fun _ => [⟨48, 3, .cells [IL u, RL t]⟩, ⟨4080, 2, .cells (RS (rdB c) p3)⟩, ⟨16, 1, .cells [IL u, RL t]⟩]) ?_ (fun _ g0 => ?_)
      · refine val_dag6 (p := p1 + 7) (y := [x1, x2]) (z := z) l4 (fun tb g q2 q3 q4 => ?_) _ _ (by simp) (by simp) (by simp) (by simp [ints])
        simp [q2, q3, q4, ints]
      · simp [ints]
    · simp [callOWR, l3, c0]
      refine cutE (α := Unit) (fun _ => [(2, .ptr 16 1 0), (3, IL z), (4, .list 1 [I64 x1, I64 x2, I64 x3])]) (fun _ => [⟨48, 3, .cells [IL u, RL t]⟩, ⟨4080, 2, .cells (RS (rdB c) p3)⟩, ⟨16, 1, .cells [IL u, RL t]⟩]) ?_ (fun _ g0 => ?_)
      · refine val_dag6 (p := p1 + 7) (y := [x1, x2, x3]) (z := z) l4 (fun tb g q2 q3 q4 => ?_) _ _ (by simp) (by simp) (by simp) (by simp [ints])
        simp [q2, q3, q4, ints]
      · simp [ints]
noncomputable def fm_drVal : Fam Try.prog := mkFam (X := List Int) 62 false (fun c => [BL c]) (fun c => (Byt c) ∧ (Big c.length)) (fun c => .tup [AL (saM (rdB c) 0).1.1 (saM (rdB c) 0).1.2, IL (stM (rdB c) ((saM (rdB c) 0).2 + 7)).1, IL (dVn (rdB c) (saM (rdB c) 0).2 (saM (rdB c) 0).1.1.length)]) (by
  rintro c ⟨hc, hl⟩
  exact drVal_pc c hc hl)
@[simp] theorem fm_drVal_id : fm_drVal.id = 62 := rfl
@[simp] theorem fm_drVal_fresh : fm_drVal.fresh = false := rfl
@[simp] theorem fm_drVal_look (c : List Int) (hc : Byt c) (hl : Big c.length) : fm_drVal.look [BL c] = some (.tup [AL (saM (rdB c) 0).1.1 (saM (rdB c) 0).1.2, IL (stM (rdB c) ((saM (rdB c) 0).2 + 7)).1, IL (dVn (rdB c) (saM (rdB c) 0).2 (saM (rdB c) 0).1.1.length)]) :=
  lookF_of (X := List Int) (args := fun c => [BL c]) (pre := fun c => (Byt c) ∧ (Big c.length)) (val := fun c => .tup [AL (saM (rdB c) 0).1.1 (saM (rdB c) 0).1.2, IL (stM (rdB c) ((saM (rdB c) 0).2 + 7)).1, IL (dVn (rdB c) (saM (rdB c) 0).2 (saM (rdB c) 0).1.1.length)]) (by
  intro c c' h
  simp at h
  subst h
  rfl) c ⟨hc, hl⟩
attribute [irreducible] fm_drVal
end Go.PS
end

section
-- Terms with more behind them.
set_option linter.unusedVariables false
set_option linter.unusedSimpArgs false
namespace Go.PS

theorem sk_app : ∀ (l m : List Int) (k : Nat) (r : List Int), sk l k = some r → sk (l ++ m) k = some (r ++ m)
  | l, m, 0, r, h => by rw [sk_zero] at h ⊢; injection h with h; rw [h]
  | [], m, k + 1, r, h => by simp [sk] at h
  | x :: l, m, k + 1, r, h => by
    simp only [sk, List.cons_append] at h ⊢
    cases e : arity x with
    | none => rw [e] at h; cases h
    | some a => rw [e] at h; exact sk_app l m (k + a) r h
theorem validT_not {l : List Int} (h : validT l) (hl : l.length < 15) : validT (12 :: l) := by
  refine ⟨by simp; omega, ?_⟩
  have := h.2
  simp only [sk, show arity 12 = some 1 by decide]
  exact this
theorem validT_same {l : List Int} (h : validT l) (hl : 2 * l.length < 15) : validT (16 :: (l ++ l)) := by
  refine ⟨by simp; omega, ?_⟩
  have h2 := h.2
  have a16 : arity 16 = some 2 := by unfold arity isBin; simp
  simp only [sk, a16]
  rw [show 0 + 2 = 1 + 1 from rfl, sk_add, sk_app l l 1 [] h2]
  simpa using h2
theorem ev1_app {u : List Int} {t : List (List Int)} {nm : List Int} (f : TF u t) (hn : NmOk nm u.length) (m : List Int) : ∀ (n : Nat) (l r : List Int), l.length ≤ n → sk l 1 = some r → (ev1 u t nm (l ++ m)).1 = (ev1 u t nm l).1
  | n, [], r, _, h => by simp [sk] at h
  | 0, x :: l, r, hl, h => by simp at hl
  | n + 1, x :: l, r, hl, h => by
    simp only [List.length_cons] at hl
    rw [List.cons_append, ev1_cons, ev1_cons]
    by_cases c1 : x < 3
    · simp [c1]
    by_cases c2 : x = 10
    · simp [c1, c2]
    by_cases c3 : x = 11
    · simp [c1, c2, c3]
    rw [if_neg c1, if_neg c2, if_neg c3, if_neg c1, if_neg c2, if_neg c3]
    by_cases c4 : x = 12
    · subst c4
      simp only [sk, show arity 12 = some 1 by decide] at h
      have := ev1_app f hn m n l r (by omega) h
      simp [this]
    · rw [if_neg c4, if_neg c4]
      simp only [sk] at h
      cases e : arity x with
      | none => rw [e] at h; cases h
      | some a =>
        rw [e] at h
        have ha : a = 2 := by
          unfold arity at e
          rw [if_neg c4] at e
          split at e
          · injection e with e; exact e.symm
          · split at e
            · rename_i hl
              unfold isLeaf at hl
              omega
            · cases e
        subst ha
        change sk l (1 + 1) = some r at h
        rw [sk_add] at h
        cases e1 : sk l 1 with
        | none => rw [e1] at h; cases h
        | some r1 =>
          rw [e1] at h
          change sk r1 1 = some r at h
          have hs := (sk_suf l 1 r1 e1).2 (Nat.le_refl 1)
          have i1 := ev1_app f hn m n l r1 (by omega) e1
          have i2 := ev1_app f hn m n r1 r (by omega) h
          have o1 := (ev1_ok f hn _ l r1 (Nat.le_refl _) e1).2
          have o2 := (ev1_ok f hn _ (l ++ m) (r1 ++ m) (Nat.le_refl _) (sk_app l m 1 r1 e1)).2
          simp [i1, o1, o2, i2]
end Go.PS
end

section
-- Values of the opposite of a term, and of a term that implies itself.
set_option linter.unusedVariables false
set_option linter.unusedSimpArgs false
namespace Go.PS
open Go.Proofs

theorem valueOf_pos {u : List Int} {t : List (List Int)} {l nm : List Int} (h : 0 ≤ valueOfM u t l nm) : VA u t ∧ validT l ∧ nm.length = 3 ∧ allE nm u.length ∧ valueOfM u t l nm = (ev1 u t nm l).1 := by
  unfold valueOfM at h ⊢
  split at h
  · rename_i hb
    rw [if_pos hb]
    simp only [Bool.and_eq_true, decide_eq_true_eq] at hb
    exact ⟨hb.1.1, hb.1.2, hb.2.1, hb.2.2, rfl⟩
  · omega
theorem valueOf_eq {u : List Int} {t : List (List Int)} {l nm : List Int} (a : VA u t) (h : validT l) (h1 : nm.length = 3) (h2 : allE nm u.length) : valueOfM u t l nm = (ev1 u t nm l).1 := by
  unfold valueOfM
  rw [if_pos]
  simp only [Bool.and_eq_true, decide_eq_true_eq]
  exact ⟨⟨a, h⟩, h1, h2⟩
theorem value_not {u : List Int} {t : List (List Int)} {l nm : List Int} (h : 0 ≤ valueOfM u t l nm) (hl : l.length < 15) : valueOfM u t (12 :: l) nm = implyM u t (valueOfM u t l nm).toNat 0 ∧ (valueOfM u t l nm).toNat < u.length := by
  obtain ⟨a, v, h1, h2, e⟩ := valueOf_pos h
  have o := ev1_ok a.tf (NmOk.mk h1 h2) _ l [] (Nat.le_refl _) v.2
  rw [valueOf_eq a (validT_not v hl) h1 h2, e, ev1_cons]
  refine ⟨by simp, by omega⟩
theorem value_same {u : List Int} {t : List (List Int)} {l nm : List Int} (h : 0 ≤ valueOfM u t l nm) (hl : 2 * l.length < 15) : valueOfM u t (16 :: (l ++ l)) nm = u.length - 1 := by
  obtain ⟨a, v, h1, h2, e⟩ := valueOf_pos h
  have n := NmOk.mk h1 h2
  have hp := a.lat.pos
  have o := ev1_ok a.tf n _ l [] (Nat.le_refl _) v.2
  have o2 := (ev1_ok a.tf n _ (l ++ l) ([] ++ l) (Nat.le_refl _) (sk_app l l 1 [] v.2)).2
  have i1 := ev1_app a.tf n l _ l [] (Nat.le_refl _) v.2
  rw [valueOf_eq a (validT_same v hl) h1 h2, ev1_cons]
  simp only [List.nil_append] at o2
  simp [i1, o2, opM]
  have hx : (ev1 u t nm l).1.toNat < u.length := by omega
  have k := (a.im_top hx hx).2 (a.lat.rf hx)
  have k2 := a.im_int (x := (ev1 u t nm l).1.toNat) (y := (ev1 u t nm l).1.toNat)
  rw [k] at k2
  rw [k2]
  omega
end Go.PS
end

section
-- PRINTED by gen.py: clean texts of functions, and their tie to the program.
set_option maxRecDepth 100000
namespace Go.PS
open Go.Proofs
/-- spec.has -/
def an_125 : Ann := ⟨[(1, 1, 3), (1, 8, 3), (1, 16, 3)], [(0, [1, 2, 3]), (1, [6])], [], []⟩
def fa_125 : FnA := ⟨25, [.t 6],
  (.seq
    (.region false [⟨some 3, (.box 27 (.t 0)), 0, none, 0⟩, ⟨some 6, (.mv (.c (.bool false))), 4, none, 0⟩] (some [1, 2, 3]))
    (.seq
      (.region false (gops (seg [2, 3, 16] [⟨some 7, (.load 27 (.t 3)), 27, none, 0⟩, ⟨some 8, (.call (.f 111) [(.t 7)]), 4, none, 3⟩, ⟨some 9, (.mv (.t 8)), 4, none, 0⟩, ⟨some 10, (.mv (.t 1)), 3, some (9, true), 0⟩, ⟨some 11, (.faddr 27 (.t 3) 0), 0, some (9, true), 0⟩, ⟨some 12, (.load 23 (.t 11)), 23, some (9, true), 0⟩, ⟨some 13, (.len 23 (.t 12)), 3, some (9, true), 0⟩, ⟨some 14, (.bin .sub 3 (.t 13) (.c (.int .i64 1))), 3, some (9, true), 0⟩, ⟨some 15, (.call (.f 128) [(.t 10), (.c (.int .i64 0)), (.t 14)]), 4, some (9, true), 3⟩, ⟨some 16, (.pick (.t 9) (.t 15) (.c (.bool false))), 4, none, 0⟩]
      [⟨some 17, (.mv (.t 16)), 4, none, 0⟩, ⟨some 18, (.mv (.t 2)), 3, some (17, true), 0⟩, ⟨some 19, (.faddr 27 (.t 3) 0), 0, some (17, true), 0⟩, ⟨some 20, (.load 23 (.t 19)), 23, some (17, true), 0⟩, ⟨some 21, (.len 23 (.t 20)), 3, some (17, true), 0⟩, ⟨some 22, (.bin .sub 3 (.t 21) (.c (.int .i64 1))), 3, some (17, true), 0⟩, ⟨some 23, (.call (.f 128) [(.t 18), (.c (.int .i64 0)), (.t 22)]), 4, some (17, true), 3⟩, ⟨some 24, (.pick (.t 17) (.t 23) (.c (.bool false))), 4, none, 0⟩, ⟨some 6, (.mv (.t 24)), 4, none, 0⟩] [6] (by decide))) (some [6]))
      .ret))⟩
theorem fok_125 : FnOk Try.prog 125 fa_125 an_125 := ⟨Try.f125, _, Try.func125, rfl, by kernel_rfl, rfl, rfl, by decide, by kernel_rfl⟩
/-- spec.near -/
def an_176 : Ann := ⟨[(1, 5, 3), (1, 11, 3)], [(0, [1, 2, 3]), (1, [6])], [], []⟩
def fa_176 : FnA := ⟨21, [.t 6],
  (.seq
    (.region false [⟨some 3, (.box 27 (.t 0)), 0, none, 0⟩, ⟨some 6, (.mv (.c (.int .i64 0))), 3, none, 0⟩] (some [1, 2, 3]))
    (.seq
      (.region true [⟨some 7, (.faddr 27 (.t 3) 1), 0, none, 0⟩, ⟨some 8, (.load 25 (.t 7)), 25, none, 0⟩, ⟨some 9, (.load 27 (.t 3)), 27, none, 0⟩, ⟨some 10, (.mv (.t 1)), 3, none, 0⟩, ⟨some 11, (.mv (.t 2)), 3, none, 0⟩, ⟨some 12, (.call (.f 137) [(.t 9), (.t 10), (.t 11)]), 3, none, 3⟩, ⟨some 13, (.iaddr 25 (.t 8) (.t 12)), 0, none, 0⟩, ⟨some 14, (.load 23 (.t 13)), 23, none, 0⟩, ⟨some 15, (.load 27 (.t 3)), 27, none, 0⟩, ⟨some 16, (.mv (.t 2)), 3, none, 0⟩, ⟨some 17, (.mv (.t 1)), 3, none, 0⟩, ⟨some 18, (.call (.f 137) [(.t 15), (.t 16), (.t 17)]), 3, none, 3⟩, ⟨some 19, (.iaddr 23 (.t 14) (.t 18)), 0, none, 0⟩, ⟨some 20, (.load 3 (.t 19)), 3, none, 0⟩, ⟨some 6, (.mv (.t 20)), 3, none, 0⟩] (some [6]))
      .ret))⟩
theorem fok_176 : FnOk Try.prog 176 fa_176 an_176 := ⟨Try.f176, _, Try.func176, rfl, by kernel_rfl, rfl, rfl, by decide, by kernel_rfl⟩
/-- impl.near -/
def an_134 : Ann := ⟨[(1, 5, 3), (1, 11, 3)], [(0, [1, 2, 3]), (1, [6])], [], []⟩
def fa_134 : FnA := ⟨21, [.t 6],
  (.seq
    (.region false [⟨some 3, (.box 27 (.t 0)), 0, none, 0⟩, ⟨some 6, (.mv (.c (.int .i64 0))), 3, none, 0⟩] (some [1, 2, 3]))
    (.seq
      (.region true [⟨some 7, (.faddr 27 (.t 3) 1), 0, none, 0⟩, ⟨some 8, (.load 25 (.t 7)), 25, none, 0⟩, ⟨some 9, (.load 27 (.t 3)), 27, none, 0⟩, ⟨some 10, (.mv (.t 1)), 3, none, 0⟩, ⟨some 11, (.mv (.t 2)), 3, none, 0⟩, ⟨some 12, (.call (.f 118) [(.t 9), (.t 10), (.t 11)]), 3, none, 3⟩, ⟨some 13, (.iaddr 25 (.t 8) (.t 12)), 0, none, 0⟩, ⟨some 14, (.load 23 (.t 13)), 23, none, 0⟩, ⟨some 15, (.load 27 (.t 3)), 27, none, 0⟩, ⟨some 16, (.mv (.t 2)), 3, none, 0⟩, ⟨some 17, (.mv (.t 1)), 3, none, 0⟩, ⟨some 18, (.call (.f 118) [(.t 15), (.t 16), (.t 17)]), 3, none, 3⟩, ⟨some 19, (.iaddr 23 (.t 14) (.t 18)), 0, none, 0⟩, ⟨some 20, (.load 3 (.t 19)), 3, none, 0⟩, ⟨some 6, (.mv (.t 20)), 3, none, 0⟩] (some [6]))
      .ret))⟩
theorem fok_134 : FnOk Try.prog 134 fa_134 an_134 := ⟨Try.f134, _, Try.func134, rfl, by kernel_rfl, rfl, rfl, by decide, by kernel_rfl⟩
/-- impl.ImplyOf -/
def an_33 : Ann := ⟨[(1, 4, 3), (3, 3, 3)], [(0, [1, 2, 3]), (1, [1, 2, 3, 12]), (2, [6]), (3, [6])], [], []⟩
def fa_33 : FnA := ⟨17, [.t 6],
  (.seq
    (.region false [⟨some 3, (.box 27 (.t 0)), 0, none, 0⟩, ⟨some 6, (.mv (.c (.int .i64 0))), 3, none, 0⟩] (some [1, 2, 3]))
    (.seq
      (.seq
        (.region false [⟨some 7, (.load 27 (.t 3)), 27, none, 0⟩, ⟨some 8, (.mv (.t 1)), 3, none, 0⟩, ⟨some 9, (.mv (.t 2)), 3, none, 0⟩, ⟨some 10, (.bslice 23 2 [(0, (.t 8)), (1, (.t 9))]), 23, none, 0⟩, ⟨some 11, (.call (.f 117) [(.t 7), (.t 10)]), 4, none, 3⟩, ⟨some 12, (.un .not (.t 11)), 4, none, 0⟩] (some [1, 2, 3, 12]))
        (.cond (.t 12)
          (.seq
            (.region false [⟨some 6, (.mv (.c (.int .i64 (-1)))), 3, none, 0⟩] (some [6]))
            .ret)
          .skip))
      (.seq
        (.region false [⟨some 13, (.load 27 (.t 3)), 27, none, 0⟩, ⟨some 14, (.mv (.t 1)), 3, none, 0⟩, ⟨some 15, (.mv (.t 2)), 3, none, 0⟩, ⟨some 16, (.call (.f 118) [(.t 13), (.t 14), (.t 15)]), 3, none, 3⟩, ⟨some 6, (.mv (.t 16)), 3, none, 0⟩] (some [6]))
        .ret)))⟩
theorem fok_33 : FnOk Try.prog 33 fa_33 an_33 := ⟨Try.f33, _, Try.func33, rfl, by kernel_rfl, rfl, rfl, by decide, by kernel_rfl⟩
/-- impl.NotOf -/
def an_46 : Ann := ⟨[(1, 3, 3), (3, 2, 3)], [(0, [1, 2]), (1, [1, 2, 9]), (2, [4]), (3, [4])], [], []⟩
def fa_46 : FnA := ⟨13, [.t 4],
  (.seq
    (.region false [⟨some 2, (.box 27 (.t 0)), 0, none, 0⟩, ⟨some 4, (.mv (.c (.int .i64 0))), 3, none, 0⟩] (some [1, 2]))
    (.seq
      (.seq
        (.region false [⟨some 5, (.load 27 (.t 2)), 27, none, 0⟩, ⟨some 6, (.mv (.t 1)), 3, none, 0⟩, ⟨some 7, (.bslice 23 1 [(0, (.t 6))]), 23, none, 0⟩, ⟨some 8, (.call (.f 117) [(.t 5), (.t 7)]), 4, none, 3⟩, ⟨some 9, (.un .not (.t 8)), 4, none, 0⟩] (some [1, 2, 9]))
        (.cond (.t 9)
          (.seq
            (.region false [⟨some 4, (.mv (.c (.int .i64 (-1)))), 3, none, 0⟩] (some [4]))
            .ret)
          .skip))
      (.seq
        (.region false [⟨some 10, (.load 27 (.t 2)), 27, none, 0⟩, ⟨some 11, (.mv (.t 1)), 3, none, 0⟩, ⟨some 12, (.call (.f 127) [(.t 10), (.t 11)]), 3, none, 3⟩, ⟨some 4, (.mv (.t 12)), 3, none, 0⟩] (some [4]))
        .ret)))⟩
theorem fok_46 : FnOk Try.prog 46 fa_46 an_46 := ⟨Try.f46, _, Try.func46, rfl, by kernel_rfl, rfl, rfl, by decide, by kernel_rfl⟩
/-- impl.NearOf -/
def an_56 : Ann := ⟨[(1, 4, 3), (3, 3, 3)], [(0, [1, 2, 3]), (1, [1, 2, 3, 12]), (2, [6]), (3, [6])], [], []⟩
def fa_56 : FnA := ⟨17, [.t 6],
  (.seq
    (.region false [⟨some 3, (.box 27 (.t 0)), 0, none, 0⟩, ⟨some 6, (.mv (.c (.int .i64 0))), 3, none, 0⟩] (some [1, 2, 3]))
    (.seq
      (.seq
        (.region false [⟨some 7, (.load 27 (.t 3)), 27, none, 0⟩, ⟨some 8, (.mv (.t 1)), 3, none, 0⟩, ⟨some 9, (.mv (.t 2)), 3, none, 0⟩, ⟨some 10, (.bslice 23 2 [(0, (.t 8)), (1, (.t 9))]), 23, none, 0⟩, ⟨some 11, (.call (.f 117) [(.t 7), (.t 10)]), 4, none, 3⟩, ⟨some 12, (.un .not (.t 11)), 4, none, 0⟩] (some [1, 2, 3, 12]))
        (.cond (.t 12)
          (.seq
            (.region false [⟨some 6, (.mv (.c (.int .i64 (-1)))), 3, none, 0⟩] (some [6]))
            .ret)
          .skip))
      (.seq
        (.region false [⟨some 13, (.load 27 (.t 3)), 27, none, 0⟩, ⟨some 14, (.mv (.t 1)), 3, none, 0⟩, ⟨some 15, (.mv (.t 2)), 3, none, 0⟩, ⟨some 16, (.call (.f 134) [(.t 13), (.t 14), (.t 15)]), 3, none, 3⟩, ⟨some 6, (.mv (.t 16)), 3, none, 0⟩] (some [6]))
        .ret)))⟩
theorem fok_56 : FnOk Try.prog 56 fa_56 an_56 := ⟨Try.f56, _, Try.func56, rfl, by kernel_rfl, rfl, rfl, by decide, by kernel_rfl⟩
/-- impl.PowerOf -/
def an_48 : Ann := ⟨[(1, 3, 3), (1, 7, 3), (3, 3, 3)], [(0, [1, 2, 3]), (1, [1, 2, 3, 16]), (2, [6]), (3, [6])], [], []⟩
def fa_48 : FnA := ⟨21, [.t 6],
  (.seq
    (.region false [⟨some 3, (.box 27 (.t 0)), 0, none, 0⟩, ⟨some 6, (.mv (.c (.int .i64 0))), 3, none, 0⟩] (some [1, 2, 3]))
    (.seq
      (.seq
        (.region false (gops [⟨some 7, (.load 27 (.t 3)), 27, none, 0⟩, ⟨some 8, (.mv (.t 1)), 3, none, 0⟩, ⟨some 9, (.bslice 23 1 [(0, (.t 8))]), 23, none, 0⟩, ⟨some 10, (.call (.f 117) [(.t 7), (.t 9)]), 4, none, 3⟩, ⟨some 11, (.un .not (.t 10)), 4, none, 0⟩, ⟨some 12, (.mv (.t 11)), 4, none, 0⟩, ⟨some 13, (.mv (.t 2)), 3, some (12, false), 0⟩, ⟨some 14, (.call (.f 101) [(.t 13), (.c (.int .i64 0)), (.c (.int .i64 20))]), 4, some (12, false), 3⟩, ⟨some 15, (.un .not (.t 14)), 4, some (12, false), 0⟩, ⟨some 16, (.pick (.t 12) (.c (.bool true)) (.t 15)), 4, none, 0⟩]) (some [1, 2, 3, 16]))
        (.cond (.t 16)
          (.seq
            (.region false [⟨some 6, (.mv (.c (.int .i64 (-1)))), 3, none, 0⟩] (some [6]))
            .ret)
          .skip))
      (.seq
        (.region false [⟨some 17, (.load 27 (.t 3)), 27, none, 0⟩, ⟨some 18, (.mv (.t 1)), 3, none, 0⟩, ⟨some 19, (.mv (.t 2)), 3, none, 0⟩, ⟨some 20, (.call (.f 124) [(.t 17), (.t 18), (.t 19)]), 3, none, 3⟩, ⟨some 6, (.mv (.t 20)), 3, none, 0⟩] (some [6]))
        .ret)))⟩
theorem fok_48 : FnOk Try.prog 48 fa_48 an_48 := ⟨Try.f48, _, Try.func48, rfl, by kernel_rfl, rfl, rfl, by decide, by kernel_rfl⟩
/-- impl.latticeAt$1 -/
def an_175 : Ann := ⟨[(1, 4, 3)], [(0, [0, 1]), (1, [3])], [], []⟩
def fa_175 : FnA := ⟨10, [.t 3],
  (.seq
    (.region false [⟨some 3, (.mv (.c (.bool false))), 4, none, 0⟩] (some [0, 1]))
    (.seq
      (.region false [⟨some 4, (.mv (.t 0)), 3, none, 0⟩, ⟨some 5, (.load 23 (.t 1)), 23, none, 0⟩, ⟨some 6, (.len 23 (.t 5)), 3, none, 0⟩, ⟨some 7, (.bin .sub 3 (.t 6) (.c (.int .i64 1))), 3, none, 0⟩, ⟨some 8, (.call (.f 101) [(.t 4), (.c (.int .i64 0)), (.t 7)]), 4, none, 3⟩, ⟨some 9, (.un .not (.t 8)), 4, none, 0⟩, ⟨some 3, (.mv (.t 9)), 4, none, 0⟩] (some [3]))
      .ret))⟩
theorem fok_175 : FnOk Try.prog 175 fa_175 an_175 := ⟨Try.f175, _, Try.func175, rfl, by kernel_rfl, rfl, rfl, by decide, by kernel_rfl⟩
/-- impl.latticeAt -/
def an_130 : Ann := ⟨[(1, 1, 3), (1, 5, 3)], [(0, [1, 2]), (1, [4])], [], []⟩
def fa_130 : FnA := ⟨13, [.t 4],
  (.seq
    (.region false [⟨some 2, (.box 23 (.t 0)), 0, none, 0⟩, ⟨some 4, (.mv (.c (.bool false))), 4, none, 0⟩] (some [1, 2]))
    (.seq
      (.region false (gops [⟨some 5, (.load 23 (.t 2)), 23, none, 0⟩, ⟨some 6, (.call (.f 91) [(.t 5)]), 4, none, 3⟩, ⟨some 7, (.mv (.t 6)), 4, none, 0⟩, ⟨some 8, (.mv (.t 1)), 23, some (7, true), 0⟩, ⟨some 9, (.mkfn 175 [(.t 2)]), 80, some (7, true), 0⟩, ⟨some 10, (.call (.f 99) [(.t 8), (.t 9)]), 4, some (7, true), 3⟩, ⟨some 11, (.un .not (.t 10)), 4, some (7, true), 0⟩, ⟨some 12, (.pick (.t 7) (.t 11) (.c (.bool false))), 4, none, 0⟩, ⟨some 4, (.mv (.t 12)), 4, none, 0⟩]) (some [4]))
      .ret))⟩
theorem fok_130 : FnOk Try.prog 130 fa_130 an_130 := ⟨Try.f130, _, Try.func130, rfl, by kernel_rfl, rfl, rfl, by decide, by kernel_rfl⟩
/-- impl.IsBelow -/
def an_52 : Ann := ⟨[(1, 4, 3), (1, 9, 3)], [(0, [0, 1, 2]), (1, [6])], [], []⟩
def fa_52 : FnA := ⟨18, [.t 6],
  (.seq
    (.region false [⟨some 6, (.mv (.c (.bool false))), 4, none, 0⟩] (some [0, 1, 2]))
    (.seq
      (.region false (gops [⟨some 7, (.mv (.t 0)), 23, none, 0⟩, ⟨some 8, (.mv (.t 1)), 3, none, 0⟩, ⟨some 9, (.mv (.t 2)), 3, none, 0⟩, ⟨some 10, (.bslice 23 2 [(0, (.t 8)), (1, (.t 9))]), 23, none, 0⟩, ⟨some 11, (.call (.f 130) [(.t 7), (.t 10)]), 4, none, 3⟩, ⟨some 12, (.mv (.t 11)), 4, none, 0⟩, ⟨some 13, (.mv (.t 0)), 23, some (12, true), 0⟩, ⟨some 14, (.mv (.t 1)), 3, some (12, true), 0⟩, ⟨some 15, (.mv (.t 2)), 3, some (12, true), 0⟩, ⟨some 16, (.call (.f 131) [(.t 13), (.t 14), (.t 15)]), 4, some (12, true), 3⟩, ⟨some 17, (.pick (.t 12) (.t 16) (.c (.bool false))), 4, none, 0⟩, ⟨some 6, (.mv (.t 17)), 4, none, 0⟩]) (some [6]))
      .ret))⟩
theorem fok_52 : FnOk Try.prog 52 fa_52 an_52 := ⟨Try.f52, _, Try.func52, rfl, by kernel_rfl, rfl, rfl, by decide, by kernel_rfl⟩
end Go.PS
end

section
-- PRINTED by gen.py: clean texts of functions, and their tie to the program.
set_option maxRecDepth 100000
namespace Go.PS
open Go.Proofs
/-- spec.assignments -/
def an_150 : Ann := ⟨[(5, 0, 1), (12, 1, 1), (12, 10, 2), (13, 1, 2)], [(0, [0]), (1, [0, 3]), (2, [0, 3, 4]), (3, [0, 3, 4, 11]), (5, [0, 3, 4, 5]), (6, [0, 3, 4, 5, 6]), (7, [0, 3, 4, 5, 6, 18]), (9, [0, 3, 4, 5, 6, 7]), (10, [0, 3, 4, 5, 6, 7, 23]), (12, [0, 3, 4, 5, 6, 7]), (11, [0, 3, 4, 5, 6, 7]), (8, [0, 3, 4, 5, 6]), (13, [0, 3, 4]), (4, [0, 3, 4]), (14, [2])], [(3, [0, 3, 4], [112, 296]), (7, [0, 3, 4, 5, 6], [112, 296]), (10, [0, 3, 4, 5, 6, 7], [112, 296])], []⟩
def lb_150_10 : AC :=
  (.seq
    (.seq
      (.region false [⟨some 21, (.mv (.t 7)), 3, none, 0⟩, ⟨some 22, (.mv (.t 0)), 3, none, 0⟩, ⟨some 23, (.bin .lss 3 (.t 21) (.t 22)), 4, none, 0⟩] (some [0, 3, 4, 5, 6, 7, 23]))
      (.cond (.t 23)
        .skip
        (.exit 4)))
    (.seq
      (.block 5
        (.region false [⟨some 26, (.mv (.t 5)), 25, none, 0⟩, ⟨some 27, (.bslice 23 0 []), 23, none, 1⟩, ⟨some 28, (.mv (.t 3)), 25, none, 0⟩, ⟨some 29, (.mv (.t 6)), 3, none, 0⟩, ⟨some 30, (.iaddr 25 (.t 28) (.t 29)), 0, none, 0⟩, ⟨some 31, (.load 23 (.t 30)), 23, none, 0⟩, ⟨some 32, (.app 23 23 (.t 27) (.t 31)), 23, none, 0⟩, ⟨some 33, (.mv (.t 7)), 3, none, 0⟩, ⟨some 34, (.bslice 23 1 [(0, (.t 33))]), 23, none, 0⟩, ⟨some 35, (.app 23 23 (.t 32) (.t 34)), 23, none, 0⟩, ⟨some 36, (.bslice 25 1 [(0, (.t 35))]), 25, none, 2⟩, ⟨some 37, (.app 25 25 (.t 26) (.t 36)), 25, none, 0⟩, ⟨some 5, (.mv (.t 37)), 25, none, 0⟩] (some [0, 3, 4, 5, 6, 7])))
      (.region false [⟨some 24, (.mv (.t 7)), 3, none, 0⟩, ⟨some 25, (.bin .add 3 (.t 24) (.c (.int .i64 1))), 3, none, 0⟩, ⟨some 7, (.mv (.t 25)), 3, none, 0⟩] (some [0, 3, 4, 5, 6, 7]))))
def lb_150_7 : AC :=
  (.seq
    (.seq
      (.region false [⟨some 15, (.mv (.t 6)), 3, none, 0⟩, ⟨some 16, (.mv (.t 3)), 25, none, 0⟩, ⟨some 17, (.len 25 (.t 16)), 3, none, 0⟩, ⟨some 18, (.bin .lss 3 (.t 15) (.t 17)), 4, none, 0⟩] (some [0, 3, 4, 5, 6, 18]))
      (.cond (.t 18)
        .skip
        (.exit 2)))
    (.seq
      (.block 3
        (.seq
          (.region false [⟨some 7, (.mv (.c (.int .i64 0))), 3, none, 0⟩] (some [0, 3, 4, 5, 6, 7]))
          (.block 4
            (.loop [0, 3, 4, 5, 6, 7] [112, 296] lb_150_10))))
      (.region false [⟨some 19, (.mv (.t 6)), 3, none, 0⟩, ⟨some 20, (.bin .add 3 (.t 19) (.c (.int .i64 1))), 3, none, 0⟩, ⟨some 6, (.mv (.t 20)), 3, none, 0⟩] (some [0, 3, 4, 5, 6]))))
def lb_150_3 : AC :=
  (.seq
    (.seq
      (.region false [⟨some 10, (.mv (.t 4)), 3, none, 0⟩, ⟨some 11, (.bin .lss 3 (.t 10) (.c (.int .i64 3))), 4, none, 0⟩] (some [0, 3, 4, 11]))
      (.cond (.t 11)
        .skip
        (.exit 0)))
    (.seq
      (.block 1
        (.seq
          (.region false [⟨some 14, (.bslice 25 0 []), 25, none, 1⟩, ⟨some 5, (.mv (.t 14)), 25, none, 0⟩] (some [0, 3, 4, 5]))
          (.seq
            (.seq
              (.region false [⟨some 6, (.mv (.c (.int .i64 0))), 3, none, 0⟩] (some [0, 3, 4, 5, 6]))
              (.block 2
                (.loop [0, 3, 4, 5, 6] [112, 296] lb_150_7)))
            (.region false [⟨some 38, (.mv (.t 5)), 25, none, 0⟩, ⟨some 3, (.mv (.t 38)), 25, none, 2⟩] (some [0, 3, 4])))))
      (.region false [⟨some 12, (.mv (.t 4)), 3, none, 0⟩, ⟨some 13, (.bin .add 3 (.t 12) (.c (.int .i64 1))), 3, none, 0⟩, ⟨some 4, (.mv (.t 13)), 3, none, 0⟩] (some [0, 3, 4]))))
def fa_150 : FnA := ⟨40, [.t 2],
  (.seq
    (.region false [⟨some 2, (.mv (.c .nil)), 25, none, 0⟩] (some [0]))
    (.seq
      (.region false [⟨some 8, (.bslice 23 0 []), 23, none, 0⟩, ⟨some 9, (.bslice 25 1 [(0, (.t 8))]), 25, none, 0⟩, ⟨some 3, (.mv (.t 9)), 25, none, 0⟩] (some [0, 3]))
      (.seq
        (.seq
          (.region false [⟨some 4, (.mv (.c (.int .i64 0))), 3, none, 0⟩] (some [0, 3, 4]))
          (.block 0
            (.loop [0, 3, 4] [112, 296] lb_150_3)))
        (.seq
          (.region false [⟨some 39, (.mv (.t 3)), 25, none, 0⟩, ⟨some 2, (.mv (.t 39)), 25, none, 0⟩] (some [2]))
          .ret))))⟩
theorem fok_150 : FnOk Try.prog 150 fa_150 an_150 := ⟨Try.f150, _, Try.func150, rfl, by kernel_rfl, rfl, rfl, by decide, by kernel_rfl⟩
/-- spec.pow -/
def an_126 : Ann := ⟨[], [(0, [1, 2, 3]), (1, [1, 2, 3, 7]), (2, [1, 2, 3, 7, 13]), (4, [1, 2, 3, 7]), (3, [1, 2, 3, 7]), (5, [6])], [(2, [1, 2, 3, 7], [])], []⟩
def lb_126_2 : AC :=
  (.seq
    (.seq
      (.region false [⟨some 12, (.mv (.t 2)), 3, none, 0⟩, ⟨some 13, (.bin .gtr 3 (.t 12) (.c (.int .i64 0))), 4, none, 0⟩] (some [1, 2, 3, 7, 13]))
      (.cond (.t 13)
        .skip
        (.exit 0)))
    (.seq
      (.block 1
        (.region false [⟨some 16, (.faddr 27 (.t 3) 1), 0, none, 0⟩, ⟨some 17, (.load 25 (.t 16)), 25, none, 0⟩, ⟨some 18, (.mv (.t 7)), 3, none, 0⟩, ⟨some 19, (.iaddr 25 (.t 17) (.t 18)), 0, none, 0⟩, ⟨some 20, (.load 23 (.t 19)), 23, none, 0⟩, ⟨some 21, (.mv (.t 1)), 3, none, 0⟩, ⟨some 22, (.iaddr 23 (.t 20) (.t 21)), 0, none, 0⟩, ⟨some 23, (.load 3 (.t 22)), 3, none, 0⟩, ⟨some 7, (.mv (.t 23)), 3, none, 0⟩] (some [1, 2, 3, 7])))
      (.region false [⟨some 14, (.mv (.t 2)), 3, none, 0⟩, ⟨some 15, (.bin .sub 3 (.t 14) (.c (.int .i64 1))), 3, none, 0⟩, ⟨some 2, (.mv (.t 15)), 3, none, 0⟩] (some [1, 2, 3, 7]))))
def fa_126 : FnA := ⟨25, [.t 6],
  (.seq
    (.region false [⟨some 3, (.box 27 (.t 0)), 0, none, 0⟩, ⟨some 6, (.mv (.c (.int .i64 0))), 3, none, 0⟩] (some [1, 2, 3]))
    (.seq
      (.region false [⟨some 8, (.faddr 27 (.t 3) 0), 0, none, 0⟩, ⟨some 9, (.load 23 (.t 8)), 23, none, 0⟩, ⟨some 10, (.len 23 (.t 9)), 3, none, 0⟩, ⟨some 11, (.bin .sub 3 (.t 10) (.c (.int .i64 1))), 3, none, 0⟩, ⟨some 7, (.mv (.t 11)), 3, none, 0⟩] (some [1, 2, 3, 7]))
      (.seq
        (.block 0
          (.loop [1, 2, 3, 7] [] lb_126_2))
        (.seq
          (.region false [⟨some 24, (.mv (.t 7)), 3, none, 0⟩, ⟨some 6, (.mv (.t 24)), 3, none, 0⟩] (some [6]))
          .ret))))⟩
theorem fok_126 : FnOk Try.prog 126 fa_126 an_126 := ⟨Try.f126, _, Try.func126, rfl, by kernel_rfl, rfl, rfl, by decide, by kernel_rfl⟩
/-- spec.LeastPower -/
def an_82 : Ann := ⟨[(1, 1, 3), (1, 5, 3), (1, 10, 3), (3, 3, 3), (8, 6, 3), (9, 6, 3), (10, 5, 3), (10, 7, 3)], [(0, [1, 2, 3]), (1, [1, 2, 3, 25]), (2, [6, 7]), (3, [1, 2, 3, 8]), (4, [1, 2, 3, 8, 9]), (5, [1, 2, 3, 8, 9, 10]), (6, [1, 2, 3, 8, 9, 10, 33]), (8, [1, 2, 3, 8, 9, 10, 11]), (9, [1, 2, 3, 8, 9, 10, 11, 12]), (10, [1, 2, 3, 8, 9, 10, 11, 12, 58]), (11, [1, 2, 3, 8, 9, 10, 11, 12]), (12, [1, 2, 3, 8, 9, 10, 11, 12, 62]), (13, [6, 7]), (7, [1, 2, 3, 8, 9, 10]), (14, [6, 7])], [(6, [1, 2, 3, 8, 9, 10], []), (10, [1, 2, 3, 8, 9, 10, 11, 12], [])], []⟩
def lb_82_10 : AC :=
  (.seq
    (.seq
      (.region true [⟨some 50, (.faddr 27 (.t 3) 0), 0, none, 0⟩, ⟨some 51, (.load 23 (.t 50)), 23, none, 0⟩, ⟨some 52, (.load 27 (.t 3)), 27, none, 0⟩, ⟨some 53, (.mv (.t 11)), 3, none, 0⟩, ⟨some 54, (.mv (.t 9)), 3, none, 0⟩, ⟨some 55, (.call (.f 126) [(.t 52), (.t 53), (.t 54)]), 3, none, 3⟩, ⟨some 56, (.mv (.t 12)), 3, none, 0⟩, ⟨some 57, (.call (.f 156) [(.t 51), (.t 55), (.t 56)]), 4, none, 3⟩, ⟨some 58, (.un .not (.t 57)), 4, none, 0⟩] (some [1, 2, 3, 8, 9, 10, 11, 12, 58]))
      (.cond (.t 58)
        .skip
        (.exit 2)))
    (.block 3
      (.seq
        (.region false [⟨some 59, (.mv (.t 9)), 3, none, 0⟩, ⟨some 60, (.bin .add 3 (.t 59) (.c (.int .i64 1))), 3, none, 0⟩, ⟨some 9, (.mv (.t 60)), 3, none, 0⟩] (some [1, 2, 3, 8, 9, 10, 11, 12]))
        (.seq
          (.region false [⟨some 61, (.mv (.t 9)), 3, none, 0⟩, ⟨some 62, (.bin .gtr 3 (.t 61) (.c (.int .i64 20))), 4, none, 0⟩] (some [1, 2, 3, 8, 9, 10, 11, 12, 62]))
          (.cond (.t 62)
            (.seq
              (.region false [⟨some 6, (.mv (.c (.int .i64 0))), 3, none, 0⟩, ⟨some 7, (.mv (.c (.bool false))), 4, none, 0⟩] (some [6, 7]))
              .ret)
            .skip)))))
def lb_82_6 : AC :=
  (.seq
    (.seq
      (.region false [⟨some 30, (.mv (.t 10)), 3, none, 0⟩, ⟨some 31, (.mv (.t 8)), 25, none, 0⟩, ⟨some 32, (.len 25 (.t 31)), 3, none, 0⟩, ⟨some 33, (.bin .lss 3 (.t 30) (.t 32)), 4, none, 0⟩] (some [1, 2, 3, 8, 9, 10, 33]))
      (.cond (.t 33)
        .skip
        (.exit 0)))
    (.seq
      (.block 1
        (.seq
          (.region true [⟨some 36, (.load 27 (.t 3)), 27, none, 0⟩, ⟨some 37, (.mv (.t 1)), 23, none, 0⟩, ⟨some 38, (.mv (.t 8)), 25, none, 0⟩, ⟨some 39, (.mv (.t 10)), 3, none, 0⟩, ⟨some 40, (.iaddr 25 (.t 38) (.t 39)), 0, none, 0⟩, ⟨some 41, (.load 23 (.t 40)), 23, none, 0⟩, ⟨some 42, (.call (.f 142) [(.t 36), (.t 37), (.c (.int .i64 0)), (.t 41)]), 3, none, 3⟩, ⟨some 11, (.mv (.t 42)), 3, none, 0⟩] (some [1, 2, 3, 8, 9, 10, 11]))
          (.seq
            (.region true [⟨some 43, (.load 27 (.t 3)), 27, none, 0⟩, ⟨some 44, (.mv (.t 2)), 23, none, 0⟩, ⟨some 45, (.mv (.t 8)), 25, none, 0⟩, ⟨some 46, (.mv (.t 10)), 3, none, 0⟩, ⟨some 47, (.iaddr 25 (.t 45) (.t 46)), 0, none, 0⟩, ⟨some 48, (.load 23 (.t 47)), 23, none, 0⟩, ⟨some 49, (.call (.f 142) [(.t 43), (.t 44), (.c (.int .i64 0)), (.t 48)]), 3, none, 3⟩, ⟨some 12, (.mv (.t 49)), 3, none, 0⟩] (some [1, 2, 3, 8, 9, 10, 11, 12]))
            (.block 2
              (.loop [1, 2, 3, 8, 9, 10, 11, 12] [] lb_82_10)))))
      (.region false [⟨some 34, (.mv (.t 10)), 3, none, 0⟩, ⟨some 35, (.bin .add 3 (.t 34) (.c (.int .i64 1))), 3, none, 0⟩, ⟨some 10, (.mv (.t 35)), 3, none, 0⟩] (some [1, 2, 3, 8, 9, 10]))))
def fa_82 : FnA := ⟨64, [.t 6, .t 7],
  (.seq
    (.region false [⟨some 3, (.box 27 (.t 0)), 0, none, 0⟩, ⟨some 6, (.mv (.c (.int .i64 0))), 3, none, 0⟩, ⟨some 7, (.mv (.c (.bool false))), 4, none, 0⟩] (some [1, 2, 3]))
    (.seq
      (.seq
        (.region false (gops [⟨some 13, (.load 27 (.t 3)), 27, none, 0⟩, ⟨some 14, (.call (.f 111) [(.t 13)]), 4, none, 3⟩, ⟨some 15, (.un .not (.t 14)), 4, none, 0⟩, ⟨some 16, (.mv (.t 15)), 4, none, 0⟩, ⟨some 17, (.mv (.t 1)), 23, some (16, false), 0⟩, ⟨some 18, (.call (.f 140) [(.t 17)]), 4, some (16, false), 3⟩, ⟨some 19, (.un .not (.t 18)), 4, some (16, false), 0⟩, ⟨some 20, (.pick (.t 16) (.c (.bool true)) (.t 19)), 4, none, 0⟩, ⟨some 21, (.mv (.t 20)), 4, none, 0⟩, ⟨some 22, (.mv (.t 2)), 23, some (21, false), 0⟩, ⟨some 23, (.call (.f 140) [(.t 22)]), 4, some (21, false), 3⟩, ⟨some 24, (.un .not (.t 23)), 4, some (21, false), 0⟩, ⟨some 25, (.pick (.t 21) (.c (.bool true)) (.t 24)), 4, none, 0⟩]) (some [1, 2, 3, 25]))
        (.cond (.t 25)
          (.seq
            (.region false [⟨some 6, (.mv (.c (.int .i64 0))), 3, none, 0⟩, ⟨some 7, (.mv (.c (.bool false))), 4, none, 0⟩] (some [6, 7]))
            .ret)
          .skip))
      (.seq
        (.region false [⟨some 26, (.faddr 27 (.t 3) 0), 0, none, 0⟩, ⟨some 27, (.load 23 (.t 26)), 23, none, 0⟩, ⟨some 28, (.len 23 (.t 27)), 3, none, 0⟩, ⟨some 29, (.call (.f 150) [(.t 28)]), 25, none, 3⟩, ⟨some 8, (.mv (.t 29)), 25, none, 0⟩] (some [1, 2, 3, 8]))
        (.seq
          (.region false [⟨some 9, (.mv (.c (.int .i64 0))), 3, none, 0⟩] (some [1, 2, 3, 8, 9]))
          (.seq
            (.seq
              (.region false [⟨some 10, (.mv (.c (.int .i64 0))), 3, none, 0⟩] (some [1, 2, 3, 8, 9, 10]))
              (.block 0
                (.loop [1, 2, 3, 8, 9, 10] [] lb_82_6)))
            (.seq
              (.region false [⟨some 63, (.mv (.t 9)), 3, none, 0⟩, ⟨some 6, (.mv (.t 63)), 3, none, 0⟩, ⟨some 7, (.mv (.c (.bool true))), 4, none, 0⟩] (some [6, 7]))
              .ret))))))⟩
theorem fok_82 : FnOk Try.prog 82 fa_82 an_82 := ⟨Try.f82, _, Try.func82, rfl, by kernel_rfl, rfl, rfl, by decide, by kernel_rfl⟩
/-- impl.power -/
def an_124 : Ann := ⟨[], [(0, [1, 2, 3]), (1, [1, 2, 3, 7]), (2, [1, 2, 3, 7, 13]), (4, [1, 2, 3, 7]), (3, [1, 2, 3, 7]), (5, [6])], [(2, [1, 2, 3, 7], [])], []⟩
def lb_124_2 : AC :=
  (.seq
    (.seq
      (.region false [⟨some 12, (.mv (.t 2)), 3, none, 0⟩, ⟨some 13, (.bin .gtr 3 (.t 12) (.c (.int .i64 0))), 4, none, 0⟩] (some [1, 2, 3, 7, 13]))
      (.cond (.t 13)
        .skip
        (.exit 0)))
    (.seq
      (.block 1
        (.region false [⟨some 16, (.faddr 27 (.t 3) 1), 0, none, 0⟩, ⟨some 17, (.load 25 (.t 16)), 25, none, 0⟩, ⟨some 18, (.mv (.t 7)), 3, none, 0⟩, ⟨some 19, (.iaddr 25 (.t 17) (.t 18)), 0, none, 0⟩, ⟨some 20, (.load 23 (.t 19)), 23, none, 0⟩, ⟨some 21, (.mv (.t 1)), 3, none, 0⟩, ⟨some 22, (.iaddr 23 (.t 20) (.t 21)), 0, none, 0⟩, ⟨some 23, (.load 3 (.t 22)), 3, none, 0⟩, ⟨some 7, (.mv (.t 23)), 3, none, 0⟩] (some [1, 2, 3, 7])))
      (.region false [⟨some 14, (.mv (.t 2)), 3, none, 0⟩, ⟨some 15, (.bin .sub 3 (.t 14) (.c (.int .i64 1))), 3, none, 0⟩, ⟨some 2, (.mv (.t 15)), 3, none, 0⟩] (some [1, 2, 3, 7]))))
def fa_124 : FnA := ⟨25, [.t 6],
  (.seq
    (.region false [⟨some 3, (.box 27 (.t 0)), 0, none, 0⟩, ⟨some 6, (.mv (.c (.int .i64 0))), 3, none, 0⟩] (some [1, 2, 3]))
    (.seq
      (.region false [⟨some 8, (.faddr 27 (.t 3) 0), 0, none, 0⟩, ⟨some 9, (.load 23 (.t 8)), 23, none, 0⟩, ⟨some 10, (.len 23 (.t 9)), 3, none, 0⟩, ⟨some 11, (.bin .sub 3 (.t 10) (.c (.int .i64 1))), 3, none, 0⟩, ⟨some 7, (.mv (.t 11)), 3, none, 0⟩] (some [1, 2, 3, 7]))
      (.seq
        (.block 0
          (.loop [1, 2, 3, 7] [] lb_124_2))
        (.seq
          (.region false [⟨some 24, (.mv (.t 7)), 3, none, 0⟩, ⟨some 6, (.mv (.t 24)), 3, none, 0⟩] (some [6]))
          .ret))))⟩
theorem fok_124 : FnOk Try.prog 124 fa_124 an_124 := ⟨Try.f124, _, Try.func124, rfl, by kernel_rfl, rfl, rfl, by decide, by kernel_rfl⟩
/-- impl.LeastPower$1 -/
def an_155 : Ann := ⟨[(0, 8, 3), (0, 10, 3), (0, 14, 3), (0, 15, 3)], [(0, [])], [], []⟩
def fa_155 : FnA := ⟨24, [],
  (.region true (gops [⟨some 7, (.load 4 (.t 1)), 4, none, 0⟩, ⟨some 8, (.mv (.t 7)), 4, none, 0⟩, ⟨some 9, (.faddr 27 (.t 2) 0), 0, some (8, true), 0⟩, ⟨some 10, (.load 23 (.t 9)), 23, some (8, true), 0⟩, ⟨some 11, (.load 27 (.t 2)), 27, some (8, true), 0⟩, ⟨some 12, (.load 27 (.t 2)), 27, some (8, true), 0⟩, ⟨some 13, (.load 23 (.t 3)), 23, some (8, true), 0⟩, ⟨some 14, (.mv (.t 0)), 23, some (8, true), 0⟩, ⟨some 15, (.call (.f 139) [(.t 12), (.t 13), (.t 14)]), 3, some (8, true), 3⟩, ⟨some 16, (.load 3 (.t 4)), 3, some (8, true), 0⟩, ⟨some 17, (.call (.f 124) [(.t 11), (.t 15), (.t 16)]), 3, some (8, true), 3⟩, ⟨some 18, (.load 27 (.t 2)), 27, some (8, true), 0⟩, ⟨some 19, (.load 23 (.t 5)), 23, some (8, true), 0⟩, ⟨some 20, (.mv (.t 0)), 23, some (8, true), 0⟩, ⟨some 21, (.call (.f 139) [(.t 18), (.t 19), (.t 20)]), 3, some (8, true), 3⟩, ⟨some 22, (.call (.f 131) [(.t 10), (.t 17), (.t 21)]), 4, some (8, true), 3⟩, ⟨some 23, (.pick (.t 8) (.t 22) (.c (.bool false))), 4, none, 0⟩, ⟨none, (.store 4 (.t 1) (.t 23)), 0, none, 0⟩]) (some []))⟩
theorem fok_155 : FnOk Try.prog 155 fa_155 an_155 := ⟨Try.f155, _, Try.func155, rfl, by kernel_rfl, rfl, rfl, by decide, by kernel_rfl⟩
/-- impl.eachList -/
def an_183 : Ann := ⟨[(1, 2, 16)], [(0, [0, 1, 4]), (1, [0, 1, 4]), (2, [0, 1, 4, 5]), (3, [0, 1, 4, 5, 27]), (4, [0, 1, 4, 5]), (5, [0, 1, 4, 5]), (6, [0, 1, 4, 5, 34]), (7, [0, 1, 4])], [(1, [0, 1, 4], [12160, 8064, 4064, 8, 16, 24, 32, 40, 48, 56, 64, 72, 80, 88, 96, 104, 112, 120, 128]), (3, [0, 1, 4, 5], [12160, 8064, 4064, 8, 16, 24, 32, 40, 48, 56, 64, 72, 80, 88, 96, 104, 112, 120, 128])], []⟩
def lb_183_3 : AC :=
  (.seq
    (.seq
      (.region true (gops [⟨some 15, (.mv (.t 5)), 3, none, 0⟩, ⟨some 16, (.bin .geq 3 (.t 15) (.c (.int .i64 0))), 4, none, 0⟩, ⟨some 17, (.mv (.t 16)), 4, none, 0⟩, ⟨some 18, (.mv (.t 4)), 23, some (17, true), 0⟩, ⟨some 19, (.mv (.t 5)), 3, some (17, true), 0⟩, ⟨some 20, (.iaddr 23 (.t 18) (.t 19)), 0, some (17, true), 0⟩, ⟨some 21, (.load 3 (.t 20)), 3, some (17, true), 0⟩, ⟨some 22, (.mv (.t 0)), 23, some (17, true), 0⟩, ⟨some 23, (.mv (.t 5)), 3, some (17, true), 0⟩, ⟨some 24, (.iaddr 23 (.t 22) (.t 23)), 0, some (17, true), 0⟩, ⟨some 25, (.load 3 (.t 24)), 3, some (17, true), 0⟩, ⟨some 26, (.bin .eql 3 (.t 21) (.t 25)), 4, some (17, true), 0⟩, ⟨some 27, (.pick (.t 17) (.t 26) (.c (.bool false))), 4, none, 0⟩]) (some [0, 1, 4, 5, 27]))
      (.cond (.t 27)
        .skip
        (.exit 2)))
    (.block 3
      (.seq
        (.region false [⟨some 28, (.mv (.t 4)), 23, none, 0⟩, ⟨some 29, (.mv (.t 5)), 3, none, 0⟩, ⟨some 30, (.iaddr 23 (.t 28) (.t 29)), 0, none, 0⟩, ⟨none, (.store 3 (.t 30) (.c (.int .i64 0))), 0, none, 0⟩] (some [0, 1, 4, 5]))
        (.region false [⟨some 31, (.mv (.t 5)), 3, none, 0⟩, ⟨some 32, (.bin .sub 3 (.t 31) (.c (.int .i64 1))), 3, none, 0⟩, ⟨some 5, (.mv (.t 32)), 3, none, 0⟩] (some [0, 1, 4, 5])))))
def lb_183_1 : AC :=
  (.block 1
    (.seq
      (.region false [⟨some 9, (.mv (.t 1)), 94, none, 0⟩, ⟨some 10, (.mv (.t 4)), 23, none, 0⟩, ⟨some 11, (.call (.t 9) [(.t 10)]), 0, none, 16⟩] (some [0, 1, 4]))
      (.seq
        (.region false [⟨some 12, (.mv (.t 4)), 23, none, 0⟩, ⟨some 13, (.len 23 (.t 12)), 3, none, 0⟩, ⟨some 14, (.bin .sub 3 (.t 13) (.c (.int .i64 1))), 3, none, 0⟩, ⟨some 5, (.mv (.t 14)), 3, none, 0⟩] (some [0, 1, 4, 5]))
        (.seq
          (.block 2
            (.loop [0, 1, 4, 5] [12160, 8064, 4064, 8, 16, 24, 32, 40, 48, 56, 64, 72, 80, 88, 96, 104, 112, 120, 128] lb_183_3))
          (.seq
            (.seq
              (.region false [⟨some 33, (.mv (.t 5)), 3, none, 0⟩, ⟨some 34, (.bin .lss 3 (.t 33) (.c (.int .i64 0))), 4, none, 0⟩] (some [0, 1, 4, 5, 34]))
              (.cond (.t 34)
                .ret
                .skip))
            (.region false [⟨some 35, (.mv (.t 4)), 23, none, 0⟩, ⟨some 36, (.mv (.t 5)), 3, none, 0⟩, ⟨some 37, (.iaddr 23 (.t 35) (.t 36)), 0, none, 0⟩, ⟨some 38, (.load 3 (.t 37)), 3, none, 0⟩, ⟨some 39, (.bin .add 3 (.t 38) (.c (.int .i64 1))), 3, none, 0⟩, ⟨some 40, (.iaddr 23 (.t 35) (.t 36)), 0, none, 0⟩, ⟨none, (.store 3 (.t 40) (.t 39)), 0, none, 0⟩] (some [0, 1, 4])))))))
def fa_183 : FnA := ⟨41, [],
  (.seq
    (.region false [⟨some 6, (.mv (.t 0)), 23, none, 0⟩, ⟨some 7, (.len 23 (.t 6)), 3, none, 0⟩, ⟨some 8, (.make 23 (.t 7) (.t 7)), 23, none, 0⟩, ⟨some 4, (.mv (.t 8)), 23, none, 0⟩] (some [0, 1, 4]))
    (.block 0
      (.loop [0, 1, 4] [12160, 8064, 4064, 8, 16, 24, 32, 40, 48, 56, 64, 72, 80, 88, 96, 104, 112, 120, 128] lb_183_1)))⟩
theorem fok_183 : FnOk Try.prog 183 fa_183 an_183 := ⟨Try.f183, _, Try.func183, rfl, by kernel_rfl, rfl, rfl, by decide, by kernel_rfl⟩
/-- impl.eachNames -/
def an_148 : Ann := ⟨[(1, 5, 3), (1, 7, 16)], [(0, [1, 2]), (1, [])], [], []⟩
def fa_148 : FnA := ⟨12, [],
  (.seq
    (.region false [⟨some 2, (.box 27 (.t 0)), 0, none, 0⟩] (some [1, 2]))
    (.region false [⟨some 4, (.faddr 27 (.t 2) 0), 0, none, 0⟩, ⟨some 5, (.load 23 (.t 4)), 23, none, 0⟩, ⟨some 6, (.len 23 (.t 5)), 3, none, 0⟩, ⟨some 7, (.bin .sub 3 (.t 6) (.c (.int .i64 1))), 3, none, 0⟩, ⟨some 8, (.bslice 23 1 [(0, (.t 7))]), 23, none, 0⟩, ⟨some 9, (.call (.f 184) [(.t 8), (.c (.int .i64 3))]), 23, none, 3⟩, ⟨some 10, (.mv (.t 1)), 94, none, 0⟩, ⟨some 11, (.call (.f 183) [(.t 9), (.t 10)]), 0, none, 16⟩] (some [])))⟩
theorem fok_148 : FnOk Try.prog 148 fa_148 an_148 := ⟨Try.f148, _, Try.func148, rfl, by kernel_rfl, rfl, rfl, by decide, by kernel_rfl⟩
/-- impl.LeastPower -/
def an_81 : Ann := ⟨[(1, 1, 3), (1, 5, 3), (1, 10, 3), (7, 2, 16)], [(0, [3, 4, 5]), (1, [3, 4, 5, 22]), (2, [6, 7]), (3, [3, 4, 5, 8]), (4, [3, 4, 5, 8, 24]), (6, [3, 4, 5, 8, 9]), (7, [3, 4, 5, 8, 9]), (8, [3, 4, 5, 8, 30]), (9, [6, 7]), (10, [3, 4, 5, 32]), (11, [3, 4, 5, 8]), (5, [3, 4, 5, 8]), (12, [6, 7])], [(4, [3, 4, 5, 8], [64])], []⟩
def lb_81_4 : AC :=
  (.seq
    (.seq
      (.region false [⟨some 23, (.load 3 (.t 8)), 3, none, 0⟩, ⟨some 24, (.bin .leq 3 (.t 23) (.c (.int .i64 20))), 4, none, 0⟩] (some [3, 4, 5, 8, 24]))
      (.cond (.t 24)
        .skip
        (.exit 0)))
    (.seq
      (.block 1
        (.seq
          (.region false [⟨some 9, (.alloc 4), 0, none, 0⟩, ⟨none, (.store 4 (.t 9) (.c (.bool true))), 0, none, 0⟩] (some [3, 4, 5, 8, 9]))
          (.seq
            (.region false [⟨some 27, (.load 27 (.t 3)), 27, none, 0⟩, ⟨some 28, (.mkfn 155 [(.t 9), (.t 3), (.t 4), (.t 8), (.t 5)]), 94, none, 0⟩, ⟨some 29, (.call (.f 148) [(.t 27), (.t 28)]), 0, none, 16⟩] (some [3, 4, 5, 8, 9]))
            (.seq
              (.region false [⟨some 30, (.load 4 (.t 9)), 4, none, 0⟩] (some [3, 4, 5, 8, 30]))
              (.cond (.t 30)
                (.seq
                  (.region false [⟨some 31, (.load 3 (.t 8)), 3, none, 0⟩, ⟨some 6, (.mv (.t 31)), 3, none, 0⟩, ⟨some 7, (.mv (.c (.bool true))), 4, none, 0⟩] (some [6, 7]))
                  .ret)
                .skip)))))
      (.seq
        (.seq
          (.region false [⟨some 32, (.load 3 (.t 8)), 3, none, 0⟩] (some [3, 4, 5, 32]))
          (.region false [⟨some 8, (.alloc 3), 0, none, 0⟩, ⟨none, (.store 3 (.t 8) (.t 32)), 0, none, 0⟩] (some [3, 4, 5, 8])))
        (.region false [⟨some 25, (.load 3 (.t 8)), 3, none, 0⟩, ⟨some 26, (.bin .add 3 (.t 25) (.c (.int .i64 1))), 3, none, 0⟩, ⟨none, (.store 3 (.t 8) (.t 26)), 0, none, 0⟩] (some [3, 4, 5, 8])))))
def fa_81 : FnA := ⟨33, [.t 6, .t 7],
  (.seq
    (.region false [⟨some 3, (.box 27 (.t 0)), 0, none, 0⟩, ⟨some 4, (.box 23 (.t 1)), 0, none, 0⟩, ⟨some 5, (.box 23 (.t 2)), 0, none, 0⟩, ⟨some 6, (.mv (.c (.int .i64 0))), 3, none, 0⟩, ⟨some 7, (.mv (.c (.bool false))), 4, none, 0⟩] (some [3, 4, 5]))
    (.seq
      (.seq
        (.region false (gops [⟨some 10, (.load 27 (.t 3)), 27, none, 0⟩, ⟨some 11, (.call (.f 23) [(.t 10)]), 4, none, 3⟩, ⟨some 12, (.un .not (.t 11)), 4, none, 0⟩, ⟨some 13, (.mv (.t 12)), 4, none, 0⟩, ⟨some 14, (.load 23 (.t 4)), 23, some (13, false), 0⟩, ⟨some 15, (.call (.f 75) [(.t 14)]), 4, some (13, false), 3⟩, ⟨some 16, (.un .not (.t 15)), 4, some (13, false), 0⟩, ⟨some 17, (.pick (.t 13) (.c (.bool true)) (.t 16)), 4, none, 0⟩, ⟨some 18, (.mv (.t 17)), 4, none, 0⟩, ⟨some 19, (.load 23 (.t 5)), 23, some (18, false), 0⟩, ⟨some 20, (.call (.f 75) [(.t 19)]), 4, some (18, false), 3⟩, ⟨some 21, (.un .not (.t 20)), 4, some (18, false), 0⟩, ⟨some 22, (.pick (.t 18) (.c (.bool true)) (.t 21)), 4, none, 0⟩]) (some [3, 4, 5, 22]))
        (.cond (.t 22)
          (.seq
            (.region false [⟨some 6, (.mv (.c (.int .i64 0))), 3, none, 0⟩, ⟨some 7, (.mv (.c (.bool false))), 4, none, 0⟩] (some [6, 7]))
            .ret)
          .skip))
      (.seq
        (.seq
          (.region false [⟨some 8, (.alloc 3), 0, none, 0⟩, ⟨none, (.store 3 (.t 8) (.c (.int .i64 0))), 0, none, 0⟩] (some [3, 4, 5, 8]))
          (.block 0
            (.loop [3, 4, 5, 8] [64] lb_81_4)))
        (.seq
          (.region false [⟨some 6, (.mv (.c (.int .i64 0))), 3, none, 0⟩, ⟨some 7, (.mv (.c (.bool false))), 4, none, 0⟩] (some [6, 7]))
          .ret))))⟩
theorem fok_81 : FnOk Try.prog 81 fa_81 an_81 := ⟨Try.f81, _, Try.func81, rfl, by kernel_rfl, rfl, rfl, by decide, by kernel_rfl⟩
end Go.PS
end

section
-- Contracts: lists of elements for the names, powers, the least power of the reference.
set_option maxRecDepth 100000
set_option linter.unusedVariables false
set_option linter.unusedSimpArgs false
namespace Go.PS
open Go.Proofs

theorem powS_pc (u : List Int) (t : List (List Int)) (x k : Int) (f : TF u t) (hx0 : 0 ≤ x) (hx : x.toNat < u.length) (hk0 : 0 ≤ k) (hk : k ≤ 1000000) : PC Try.prog 126 [AL u t, I64 x, I64 k] none true (fun r _ => r = I64 (powM u t x.toNat k.toNat)) := by
  obtain ⟨x, rfl⟩ := Int.eq_ofNat_of_zero_le hx0
  obtain ⟨k, rfl⟩ := Int.eq_ofNat_of_zero_le hk0
  simp at hx
  have h6 := f.lat.six
  refine pcT [] fok_126 ?_
  simp [fa_126, wrap64 (n := (u.length : Int) - 1) (by omega) (by omega)]
  refine loopA (tabK_mono _) k (fun i => [(2, I64 ((k : Int) - i)), (7, I64 (powM u t x i))]) (fun _ => []) (fun _ => True) (by simp [powM]) (by simp) (fun i g hi _ => ?_)
  have hr := powM_rng f hx i
  simp [lb_126_2, f.len, f.rows, hr, hx, show (powM u t x i).toNat < u.length by omega, wrap64 (n := (k : Int) - i - 1) (by omega) (by omega), powM]
  refine ⟨fun h => ⟨by omega, by omega⟩, fun h => by rw [show i = k by omega]⟩
noncomputable def fm_powS : Fam Try.prog := mkFam (X := List Int × List (List Int) × Int × Int) 126 true (fun (u, t, x, k) => [AL u t, I64 x, I64 k]) (fun (u, t, x, k) => (TF u t) ∧ (0 ≤ x) ∧ (x.toNat < u.length) ∧ (0 ≤ k) ∧ (k ≤ 1000000)) (fun (u, t, x, k) => I64 (powM u t x.toNat k.toNat)) (by
  rintro ⟨u, t, x, k⟩ ⟨f, hx0, hx, hk0, hk⟩
  exact powS_pc u t x k f hx0 hx hk0 hk)
@[simp] theorem fm_powS_id : fm_powS.id = 126 := rfl
@[simp] theorem fm_powS_fresh : fm_powS.fresh = true := rfl
@[simp] theorem fm_powS_look (u : List Int) (t : List (List Int)) (x k : Int) (f : TF u t) (hx0 : 0 ≤ x) (hx : x.toNat < u.length) (hk0 : 0 ≤ k) (hk : k ≤ 1000000) : fm_powS.look [AL u t, I64 x, I64 k] = some (I64 (powM u t x.toNat k.toNat)) :=
  lookF_of (X := List Int × List (List Int) × Int × Int) (args := fun (u, t, x, k) => [AL u t, I64 x, I64 k]) (pre := fun (u, t, x, k) => (TF u t) ∧ (0 ≤ x) ∧ (x.toNat < u.length) ∧ (0 ≤ k) ∧ (k ≤ 1000000)) (val := fun (u, t, x, k) => I64 (powM u t x.toNat k.toNat)) (by
  rintro ⟨u, t, x, k⟩ ⟨u', t', x', k'⟩ h
  simp at h
  try simp only [and_assoc] at h
  obtain ⟨rfl, rfl, rfl, rfl⟩ := h
  rfl) (u, t, x, k) ⟨f, hx0, hx, hk0, hk⟩
attribute [irreducible] fm_powS

theorem powI_pc (u : List Int) (t : List (List Int)) (x k : Int) (f : TF u t) (hx0 : 0 ≤ x) (hx : x.toNat < u.length) (hk0 : 0 ≤ k) (hk : k ≤ 1000000) : PC Try.prog 124 [AL u t, I64 x, I64 k] none true (fun r _ => r = I64 (powM u t x.toNat k.toNat)) := by
  obtain ⟨x, rfl⟩ := Int.eq_ofNat_of_zero_le hx0
  obtain ⟨k, rfl⟩ := Int.eq_ofNat_of_zero_le hk0
  simp at hx
  have h6 := f.lat.six
  refine pcT [] fok_124 ?_
  simp [fa_124, wrap64 (n := (u.length : Int) - 1) (by omega) (by omega)]
  refine loopA (tabK_mono _) k (fun i => [(2, I64 ((k : Int) - i)), (7, I64 (powM u t x i))]) (fun _ => []) (fun _ => True) (by simp [powM]) (by simp) (fun i g hi _ => ?_)
  have hr := powM_rng f hx i
  simp [lb_124_2, f.len, f.rows, hr, hx, show (powM u t x i).toNat < u.length by omega, wrap64 (n := (k : Int) - i - 1) (by omega) (by omega), powM]
  refine ⟨fun h => ⟨by omega, by omega⟩, fun h => by rw [show i = k by omega]⟩
noncomputable def fm_powI : Fam Try.prog := mkFam (X := List Int × List (List Int) × Int × Int) 124 true (fun (u, t, x, k) => [AL u t, I64 x, I64 k]) (fun (u, t, x, k) => (TF u t) ∧ (0 ≤ x) ∧ (x.toNat < u.length) ∧ (0 ≤ k) ∧ (k ≤ 1000000)) (fun (u, t, x, k) => I64 (powM u t x.toNat k.toNat)) (by
  rintro ⟨u, t, x, k⟩ ⟨f, hx0, hx, hk0, hk⟩
  exact powI_pc u t x k f hx0 hx hk0 hk)
@[simp] theorem fm_powI_id : fm_powI.id = 124 := rfl
@[simp] theorem fm_powI_fresh : fm_powI.fresh = true := rfl
@[simp] theorem fm_powI_look (u : List Int) (t : List (List Int)) (x k : Int) (f : TF u t) (hx0 : 0 ≤ x) (hx : x.toNat < u.length) (hk0 : 0 ≤ k) (hk : k ≤ 1000000) : fm_powI.look [AL u t, I64 x, I64 k] = some (I64 (powM u t x.toNat k.toNat)) :=
  lookF_of (X := List Int × List (List Int) × Int × Int) (args := fun (u, t, x, k) => [AL u t, I64 x, I64 k]) (pre := fun (u, t, x, k) => (TF u t) ∧ (0 ≤ x) ∧ (x.toNat < u.length) ∧ (0 ≤ k) ∧ (k ≤ 1000000)) (val := fun (u, t, x, k) => I64 (powM u t x.toNat k.toNat)) (by
  rintro ⟨u, t, x, k⟩ ⟨u', t', x', k'⟩ h
  simp at h
  try simp only [and_assoc] at h
  obtain ⟨rfl, rfl, rfl, rfl⟩ := h
  rfl) (u, t, x, k) ⟨f, hx0, hx, hk0, hk⟩
attribute [irreducible] fm_powI

theorem assignments_pc (n : Int) (h0 : 0 ≤ n) (h6 : n ≤ 6) : PC Try.prog 150 [I64 n] none false (fun r _ => r = RL (asgK n.toNat 3)) := by
  obtain ⟨n, rfl⟩ := Int.eq_ofNat_of_zero_le h0
  have h6 : n ≤ 6 := by omega
  refine pcT [] fok_150 ?_
  simp [fa_150]
  refine loopA (tabK_mono _) 3 (fun i => [(3, RL (asgK n i)), (4, I64 i)]) (fun _ => []) (fun _ => True) (by simp [asgK, rowsD, ints]) (by simp) (fun i g hi _ => ?_)
  simp [lb_150_3, wrap_succ hi (by omega)]
  refine ⟨fun h => ?_, fun h => by rw [show i = 3 by omega]⟩
  have hlen : (asgK n i).length ≤ 36 := by
    rw [asgK_length]
    have : i = 0 ∨ i = 1 ∨ i = 2 := by omega
    rcases this with rfl | rfl | rfl
    · simp
    · simp; omega
    · have := Nat.pow_le_pow_left h6 2; omega
  have hrow : ∀ j, j < (asgK n i).length → (gr (asgK n i) j).length = i := fun j hj => asgK_row n i _ (by simp [gr, List.getElem?_eq_getElem hj])
  have hnx : asgK n (i + 1) = nxt n (asgK n i) := rfl
  generalize asgK n i = o at *
  refine loopX (tabK_mono _) o.length (fun j γ => [(5, .arr 112 γ), (6, I64 j)]) (fun j γ => [⟨112, γ, .arr 1 (orowsD (nxt n (o.take j)))⟩]) (fun _ _ => True) g (by simp) (by simp [nxt, orowsD]) trivial (fun j γ g2 hj _ => ?_)
  simp [lb_150_7, wrap_succ hj (by omega)]
  refine ⟨fun h2 => ?_, fun h2 => ?_⟩
  · refine loopX (tabK_mono _) n (fun x γ => [(5, .arr 112 γ), (7, I64 x)]) (fun x γ => [⟨112, γ, .arr 1 (orowsD (nxt n (o.take j) ++ (List.range x).map fun (z : Nat) => gr o j ++ [(z : Int)]))⟩]) (fun _ _ => True) γ (by simp) (by simp) trivial (fun x γ g3 hx _ => ?_)
    simp [lb_150_10, wrap_succ hx (by omega)]
    refine ⟨fun h3 => ?_, fun h3 => ?_⟩
    · have e1 := hrow j h2
      have e2 : j * n ≤ 36 * 6 := Nat.mul_le_mul (by omega) h6
      have e3 : (nxt n (List.take j o)).length = j * n := by rw [nxt_length, List.length_take, Nat.min_eq_left hj]
      have e4 : big = 1048576 * 1048576 := rfl
      refine ⟨h2, by omega, by omega, by omega, h3, by rw [List.range_succ, List.map_append]; rfl⟩
    · obtain rfl : x = n := by omega
      rw [← nxt_take h2]
      exact ⟨h2, γ, ⟨rfl, wrap_succ hj (by omega)⟩, rfl, rfl⟩
  · obtain rfl : j = o.length := by omega
    rw [List.take_length]
    exact ⟨by omega, hnx.symm, wrap_succ hi (by omega)⟩
noncomputable def fm_assignments : Fam Try.prog := mkFam (X := Int) 150 false (fun n => [I64 n]) (fun n => (0 ≤ n) ∧ (n ≤ 6)) (fun n => RL (asgK n.toNat 3)) (by
  rintro n ⟨h0, h6⟩
  exact assignments_pc n h0 h6)
@[simp] theorem fm_assignments_id : fm_assignments.id = 150 := rfl
@[simp] theorem fm_assignments_fresh : fm_assignments.fresh = false := rfl
@[simp] theorem fm_assignments_look (n : Int) (h0 : 0 ≤ n) (h6 : n ≤ 6) : fm_assignments.look [I64 n] = some (RL (asgK n.toNat 3)) :=
  lookF_of (X := Int) (args := fun n => [I64 n]) (pre := fun n => (0 ≤ n) ∧ (n ≤ 6)) (val := fun n => RL (asgK n.toNat 3)) (by
  intro n n' h
  simp at h
  subst h
  rfl) n ⟨h0, h6⟩
attribute [irreducible] fm_assignments

theorem all_gr {A : List (List Int)} {p : List Int → Bool} : A.all p = true ↔ ∀ j, j < A.length → p (gr A j) = true := by
  rw [List.all_eq_true]
  constructor
  · intro h j hj
    exact h _ (by simp [gr, List.getElem?_eq_getElem hj])
  · intro h x hx
    obtain ⟨j, hj, rfl⟩ := List.getElem_of_mem hx
    have := h j hj
    simpa [gr, List.getElem?_eq_getElem hj] using this

theorem okP_up {u : List Int} {t : List (List Int)} (a : VA u t) {p q nm : List Int} (hp : validT p) (hq : validT q) (hn : NmOk nm u.length) {k : Nat} (h : okP u t p q k nm = true) : ∀ i, okP u t p q (k + i) nm = true
  | 0 => h
  | i + 1 => okP_mono a hp hq hn (okP_up a hp hq hn h i)

theorem leastS_pc (u : List Int) (t : List (List Int)) (p q : List Int) (hu : Big u.length) (ht : BigR t) (hp : Big p.length) (hq : Big q.length) : PC Try.prog 82 [AL u t, IL p, IL q] none true (fun r _ => r = .tup [I64 (lpM u t p q).1, .bool (lpM u t p q).2]) := by
  have hul := hu.le
  refine pcT [fm_validAlgebraS, fm_validTermS, fm_assignments, fm_powS, fm_valueS, fm_belowS] fok_82 ?_
  simp [fa_82]
  refine cutW (tabK_mono _) [(25, .bool (!(decide (VA u t) && decide (validT p) && decide (validT q))))] (by simp [hu, ht, hp, hq]; grind) ?_
  cases hb : (decide (VA u t) && decide (validT p) && decide (validT q))
  · simp [lpM, hb]
  simp only [Bool.and_eq_true, decide_eq_true_eq] at hb
  obtain ⟨⟨a, vp⟩, vq⟩ := hb
  have f := a.tf
  have h6 := f.lat.six
  simp [h6, show (u.length : Int) ≤ 6 by omega]
  have hA : ∀ j, j < (asgK u.length 3).length → NmOk (gr (asgK u.length 3) j) u.length := fun j hj => asg3_ok (by simp [gr, List.getElem?_eq_getElem hj])
  have hAl : (asgK u.length 3).length ≤ 216 := by
    rw [asgK_length]
    exact Nat.pow_le_pow_left h6 3
  have elp : lpI u t p q = firstI 21 fun k => (asgK u.length 3).all (okP u t p q k) := rfl
  have ee : lpM u t p q = if 0 ≤ lpI u t p q then (lpI u t p q, true) else (0, false) := by simp [lpM, a, vp, vq]
  rw [ee, elp]
  clear ee elp
  have hall : ∀ k, (asgK u.length 3).all (okP u t p q k) = true ↔ ∀ j, j < (asgK u.length 3).length → okP u t p q k (gr (asgK u.length 3) j) = true := fun k => all_gr
  generalize asgK u.length 3 = A at *
  refine loopX (tabK_mono _) A.length (fun j m => [(9, I64 (m : Nat)), (10, I64 j)]) (fun _ _ => []) (fun j m => m ≤ 20 ∧ (∀ z, z < j → okP u t p q m (gr A z) = true) ∧ ∀ m', m' < m → A.all (okP u t p q m') = false) (0 : Nat) (by simp) (by simp) (by simp) (fun j m g hj hP => ?_)
  obtain ⟨hm, hP1, hP2⟩ := hP
  rcases Nat.lt_or_ge j A.length with h | h
  · have nm := hA j h
    have ho1 := (ev1_ok f nm _ _ _ (Nat.le_refl _) vp.2).1
    have ho2 := (ev1_ok f nm _ _ _ (Nat.le_refl _) vq.2).1
    have eo : ∀ k, okP u t p q k (gr A j) = tb u (powM u t (ev1 u t (gr A j) p).1.toNat k).toNat (ev1 u t (gr A j) q).1.toNat := fun _ => rfl
    simp [lb_82_6, wrap_succ hj (by omega), h, f, nm, hp, hq, vp.some, vq.some]
    generalize hx : (ev1 u t (gr A j) p).1 = x at *
    generalize hy : (ev1 u t (gr A j) q).1 = y at *
    refine loopA (tabK_mono _) (20 - m) (fun i => [(9, I64 ((m + i : Nat)))]) (fun _ => []) (fun i => okP u t p q (m + i) (gr A j) = false) (by simp) (by simp) (fun i g hi hQ => ?_)
    have hr := powM_rng f (x := x.toNat) (by omega) (m + i)
    have s := f.lat.sm
    simp [lb_82_10, f, s, hr, ho1, ho2, show x.toNat < u.length by omega, show y.toNat < u.length by omega, show (0 : Int) ≤ (m : Int) + i by omega, show (m : Int) + i ≤ 1000000 by omega, show ((m : Int) + i).toNat = m + i by omega, show (powM u t x.toNat (m + i)).toNat < u.length by omega, ← eo, wrap64 (n := (m : Int) + i + 1) (by omega) (by omega)]
    have hmem : gr A j ∈ A := by simp [gr, List.getElem?_eq_getElem h]
    have hbad : ∀ m', m' < m + i → A.all (okP u t p q m') = false := fun m' hm' => by
      rcases Nat.lt_or_ge m' m with c | c
      · exact hP2 m' c
      · have := hQ (m' - m) (by omega)
        rw [show m + (m' - m) = m' by omega] at this
        rw [List.all_eq_false]
        exact ⟨_, hmem, by simp [this]⟩
    refine ⟨fun h3 => ⟨fun h4 => ?_, fun h4 => ⟨by omega, by omega, h3⟩⟩, fun h3 => ⟨h, m + i, ⟨by simp, wrap_succ hj (by omega)⟩, by omega, fun z hz => ?_, fun m' hm' => by simpa using hbad m' hm'⟩⟩
    · have hno : (firstI 21 fun k => A.all (okP u t p q k)) = -1 := firstI_none fun k hk => by
        rcases Nat.lt_or_ge k (m + i) with c | c
        · exact hbad k c
        · obtain rfl : k = m + i := by omega
          rw [List.all_eq_false]
          exact ⟨_, hmem, by simp [h3]⟩
      rw [hno]
      simp
    · rcases Nat.lt_or_ge z j with c | c
      · exact okP_up a vp vq (hA z (by omega)) (hP1 z c) i
      · obtain rfl : z = j := by omega
        exact h3
  · obtain rfl : j = A.length := by omega
    simp [lb_82_6]
    rw [firstI_some (z := m) (by omega) ((hall m).2 hP1) hP2]
    simp
noncomputable def fm_leastS : Fam Try.prog := mkFam (X := List Int × List (List Int) × List Int × List Int) 82 true (fun (u, t, p, q) => [AL u t, IL p, IL q]) (fun (u, t, p, q) => (Big u.length) ∧ (BigR t) ∧ (Big p.length) ∧ (Big q.length)) (fun (u, t, p, q) => .tup [I64 (lpM u t p q).1, .bool (lpM u t p q).2]) (by
  rintro ⟨u, t, p, q⟩ ⟨hu, ht, hp, hq⟩
  exact leastS_pc u t p q hu ht hp hq)
@[simp] theorem fm_leastS_id : fm_leastS.id = 82 := rfl
@[simp] theorem fm_leastS_fresh : fm_leastS.fresh = true := rfl
@[simp] theorem fm_leastS_look (u : List Int) (t : List (List Int)) (p q : List Int) (hu : Big u.length) (ht : BigR t) (hp : Big p.length) (hq : Big q.length) : fm_leastS.look [AL u t, IL p, IL q] = some (.tup [I64 (lpM u t p q).1, .bool (lpM u t p q).2]) :=
  lookF_of (X := List Int × List (List Int) × List Int × List Int) (args := fun (u, t, p, q) => [AL u t, IL p, IL q]) (pre := fun (u, t, p, q) => (Big u.length) ∧ (BigR t) ∧ (Big p.length) ∧ (Big q.length)) (val := fun (u, t, p, q) => .tup [I64 (lpM u t p q).1, .bool (lpM u t p q).2]) (by
  rintro ⟨u, t, p, q⟩ ⟨u', t', p', q'⟩ h
  simp at h
  try simp only [and_assoc] at h
  obtain ⟨rfl, rfl, rfl, rfl⟩ := h
  rfl) (u, t, p, q) ⟨hu, ht, hp, hq⟩
attribute [irreducible] fm_leastS

end Go.PS
end

section
-- Contracts: implications, nearness, powers; orders, meets and joins, of any numbers.
set_option maxRecDepth 100000
set_option linter.unusedVariables false
set_option linter.unusedSimpArgs false
namespace Go.PS
open Go.Proofs

/-- Is a number an element? -/
def inE (n : Nat) (x : Int) : Bool := decide (0 ≤ x ∧ x < n)
theorem inE_iff {n : Nat} {x : Int} : inE n x = true ↔ 0 ≤ x ∧ x.toNat < n := by simp [inE]; omega
theorem inE_rng {n : Nat} {x : Int} : (decide (0 ≤ x) && decide (x ≤ (n : Int) - 1)) = inE n x := by
  rw [Bool.eq_iff_iff]; simp [inE]; omega
theorem allE_two {n : Nat} {x y : Int} : decide (allE [x, y] n) = (inE n x && inE n y) := by
  rw [Bool.eq_iff_iff]; simp [allE, inE]
theorem allE_one {n : Nat} {x : Int} : decide (allE [x] n) = inE n x := by
  rw [Bool.eq_iff_iff]; simp [allE, inE]

theorem hasS_pc (u : List Int) (t : List (List Int)) (x y : Int) (hu : Big u.length) (ht : BigR t) : PC Try.prog 125 [AL u t, I64 x, I64 y] none true (fun r _ => r = .bool (decide (VA u t) && (inE u.length x && inE u.length y))) := by
  have hl := hu.le
  have w1 : IntKind.i64.wrap ((u.length : Int) - 1) = u.length - 1 := wrap64 (by omega) (by omega)
  refine pcT [fm_validAlgebraS, fm_inRange] fok_125 ?_
  simp [fa_125]
  refine cutW (tabK_mono _) [(6, .bool (decide (VA u t) && (inE u.length x && inE u.length y)))] (by
    rw [← inE_rng, ← inE_rng]
    cases hb : decide (VA u t)
    · simp [hu, ht, hb]
    · cases hb2 : (decide (0 ≤ x) && decide (x ≤ (u.length : Int) - 1))
      · simp [hu, ht, hb, w1, hb2]
      · simp [hu, ht, hb, w1, hb2]) ?_
  simp
noncomputable def fm_hasS : Fam Try.prog := mkFam (X := List Int × List (List Int) × Int × Int) 125 true (fun (u, t, x, y) => [AL u t, I64 x, I64 y]) (fun (u, t, x, y) => (Big u.length) ∧ (BigR t)) (fun (u, t, x, y) => .bool (decide (VA u t) && (inE u.length x && inE u.length y))) (by
  rintro ⟨u, t, x, y⟩ ⟨hu, ht⟩
  exact hasS_pc u t x y hu ht)
@[simp] theorem fm_hasS_id : fm_hasS.id = 125 := rfl
@[simp] theorem fm_hasS_fresh : fm_hasS.fresh = true := rfl
@[simp] theorem fm_hasS_look (u : List Int) (t : List (List Int)) (x y : Int) (hu : Big u.length) (ht : BigR t) : fm_hasS.look [AL u t, I64 x, I64 y] = some (.bool (decide (VA u t) && (inE u.length x && inE u.length y))) :=
  lookF_of (X := List Int × List (List Int) × Int × Int) (args := fun (u, t, x, y) => [AL u t, I64 x, I64 y]) (pre := fun (u, t, x, y) => (Big u.length) ∧ (BigR t)) (val := fun (u, t, x, y) => .bool (decide (VA u t) && (inE u.length x && inE u.length y))) (by
  rintro ⟨u, t, x, y⟩ ⟨u', t', x', y'⟩ h
  simp at h
  try simp only [and_assoc] at h
  obtain ⟨rfl, rfl, rfl, rfl⟩ := h
  rfl) (u, t, x, y) ⟨hu, ht⟩
attribute [irreducible] fm_hasS

theorem nearS_pc (u : List Int) (t : List (List Int)) (x y : Int) (f : TF u t) (hx0 : 0 ≤ x) (hx : x.toNat < u.length) (hy0 : 0 ≤ y) (hy : y.toNat < u.length) : PC Try.prog 176 [AL u t, I64 x, I64 y] none true (fun r _ => r = I64 (tm t (implyM u t x.toNat y.toNat).toNat (implyM u t y.toNat x.toNat).toNat)) := by
  have v := f.lat
  have r1 := v.imply_rng (t := t) (x := x.toNat) (y := y.toNat)
  have r2 := v.imply_rng (t := t) (x := y.toNat) (y := x.toNat)
  refine pcT [fm_implyS] fok_176 ?_
  simp [fa_176, f, hx0, hx, hy0, hy, r1, r2, f.len, f.rows, show (implyM u t x.toNat y.toNat).toNat < u.length by omega]
noncomputable def fm_nearS : Fam Try.prog := mkFam (X := List Int × List (List Int) × Int × Int) 176 true (fun (u, t, x, y) => [AL u t, I64 x, I64 y]) (fun (u, t, x, y) => (TF u t) ∧ (0 ≤ x) ∧ (x.toNat < u.length) ∧ (0 ≤ y) ∧ (y.toNat < u.length)) (fun (u, t, x, y) => I64 (tm t (implyM u t x.toNat y.toNat).toNat (implyM u t y.toNat x.toNat).toNat)) (by
  rintro ⟨u, t, x, y⟩ ⟨f, hx0, hx, hy0, hy⟩
  exact nearS_pc u t x y f hx0 hx hy0 hy)
@[simp] theorem fm_nearS_id : fm_nearS.id = 176 := rfl
@[simp] theorem fm_nearS_fresh : fm_nearS.fresh = true := rfl
@[simp] theorem fm_nearS_look (u : List Int) (t : List (List Int)) (x y : Int) (f : TF u t) (hx0 : 0 ≤ x) (hx : x.toNat < u.length) (hy0 : 0 ≤ y) (hy : y.toNat < u.length) : fm_nearS.look [AL u t, I64 x, I64 y] = some (I64 (tm t (implyM u t x.toNat y.toNat).toNat (implyM u t y.toNat x.toNat).toNat)) :=
  lookF_of (X := List Int × List (List Int) × Int × Int) (args := fun (u, t, x, y) => [AL u t, I64 x, I64 y]) (pre := fun (u, t, x, y) => (TF u t) ∧ (0 ≤ x) ∧ (x.toNat < u.length) ∧ (0 ≤ y) ∧ (y.toNat < u.length)) (val := fun (u, t, x, y) => I64 (tm t (implyM u t x.toNat y.toNat).toNat (implyM u t y.toNat x.toNat).toNat)) (by
  rintro ⟨u, t, x, y⟩ ⟨u', t', x', y'⟩ h
  simp at h
  try simp only [and_assoc] at h
  obtain ⟨rfl, rfl, rfl, rfl⟩ := h
  rfl) (u, t, x, y) ⟨f, hx0, hx, hy0, hy⟩
attribute [irreducible] fm_nearS
theorem nearI_pc (u : List Int) (t : List (List Int)) (x y : Int) (f : TF u t) (hx0 : 0 ≤ x) (hx : x.toNat < u.length) (hy0 : 0 ≤ y) (hy : y.toNat < u.length) : PC Try.prog 134 [AL u t, I64 x, I64 y] none true (fun r _ => r = I64 (tm t (implyM u t x.toNat y.toNat).toNat (implyM u t y.toNat x.toNat).toNat)) := by
  have v := f.lat
  have r1 := v.imply_rng (t := t) (x := x.toNat) (y := y.toNat)
  have r2 := v.imply_rng (t := t) (x := y.toNat) (y := x.toNat)
  refine pcT [fm_implyI] fok_134 ?_
  simp [fa_134, f, hx0, hx, hy0, hy, r1, r2, f.len, f.rows, show (implyM u t x.toNat y.toNat).toNat < u.length by omega]
noncomputable def fm_nearI : Fam Try.prog := mkFam (X := List Int × List (List Int) × Int × Int) 134 true (fun (u, t, x, y) => [AL u t, I64 x, I64 y]) (fun (u, t, x, y) => (TF u t) ∧ (0 ≤ x) ∧ (x.toNat < u.length) ∧ (0 ≤ y) ∧ (y.toNat < u.length)) (fun (u, t, x, y) => I64 (tm t (implyM u t x.toNat y.toNat).toNat (implyM u t y.toNat x.toNat).toNat)) (by
  rintro ⟨u, t, x, y⟩ ⟨f, hx0, hx, hy0, hy⟩
  exact nearI_pc u t x y f hx0 hx hy0 hy)
@[simp] theorem fm_nearI_id : fm_nearI.id = 134 := rfl
@[simp] theorem fm_nearI_fresh : fm_nearI.fresh = true := rfl
@[simp] theorem fm_nearI_look (u : List Int) (t : List (List Int)) (x y : Int) (f : TF u t) (hx0 : 0 ≤ x) (hx : x.toNat < u.length) (hy0 : 0 ≤ y) (hy : y.toNat < u.length) : fm_nearI.look [AL u t, I64 x, I64 y] = some (I64 (tm t (implyM u t x.toNat y.toNat).toNat (implyM u t y.toNat x.toNat).toNat)) :=
  lookF_of (X := List Int × List (List Int) × Int × Int) (args := fun (u, t, x, y) => [AL u t, I64 x, I64 y]) (pre := fun (u, t, x, y) => (TF u t) ∧ (0 ≤ x) ∧ (x.toNat < u.length) ∧ (0 ≤ y) ∧ (y.toNat < u.length)) (val := fun (u, t, x, y) => I64 (tm t (implyM u t x.toNat y.toNat).toNat (implyM u t y.toNat x.toNat).toNat)) (by
  rintro ⟨u, t, x, y⟩ ⟨u', t', x', y'⟩ h
  simp at h
  try simp only [and_assoc] at h
  obtain ⟨rfl, rfl, rfl, rfl⟩ := h
  rfl) (u, t, x, y) ⟨f, hx0, hx, hy0, hy⟩
attribute [irreducible] fm_nearI

noncomputable def ImM (u : List Int) (t : List (List Int)) (x y : Int) : Int := if decide (VA u t) && (inE u.length x && inE u.length y) then implyM u t x.toNat y.toNat else -1
noncomputable def NoM (u : List Int) (t : List (List Int)) (x : Int) : Int := if decide (VA u t) && inE u.length x then implyM u t x.toNat 0 else -1
noncomputable def NeM (u : List Int) (t : List (List Int)) (x y : Int) : Int := if decide (VA u t) && (inE u.length x && inE u.length y) then tm t (implyM u t x.toNat y.toNat).toNat (implyM u t y.toNat x.toNat).toNat else -1
noncomputable def PoM (u : List Int) (t : List (List Int)) (x k : Int) : Int := if decide (VA u t) && inE u.length x && (decide (0 ≤ k) && decide (k ≤ 20)) then powM u t x.toNat k.toNat else -1

theorem ImplyI_pc (u : List Int) (t : List (List Int)) (x y : Int) (hu : Big u.length) (ht : BigR t) : PC Try.prog 33 [AL u t, I64 x, I64 y] none true (fun r _ => r = I64 (ImM u t x y)) := by
  have l1 : fm_atI.look [AL u t, .list 1 [.int .i64 x, .int .i64 y]] = some (.bool (decide (VA u t) && decide (allE [x, y] u.length))) := fm_atI_look u t [x, y] hu ht (by unfold Big; simp)
  rw [allE_two] at l1
  refine pcT [fm_atI, fm_implyI] fok_33 ?_
  unfold ImM
  cases hb : (decide (VA u t) && (inE u.length x && inE u.length y))
  · rw [hb] at l1
    simp [fa_33, l1, show List.range 2 = [0, 1] from rfl]
  · have h := hb
    rw [hb] at l1
    simp only [Bool.and_eq_true, decide_eq_true_eq, inE_iff] at h
    simp [fa_33, l1, h.1.tf, h.2, show List.range 2 = [0, 1] from rfl]
noncomputable def fm_ImplyI : Fam Try.prog := mkFam (X := List Int × List (List Int) × Int × Int) 33 true (fun (u, t, x, y) => [AL u t, I64 x, I64 y]) (fun (u, t, x, y) => (Big u.length) ∧ (BigR t)) (fun (u, t, x, y) => I64 (ImM u t x y)) (by
  rintro ⟨u, t, x, y⟩ ⟨hu, ht⟩
  exact ImplyI_pc u t x y hu ht)
@[simp] theorem fm_ImplyI_id : fm_ImplyI.id = 33 := rfl
@[simp] theorem fm_ImplyI_fresh : fm_ImplyI.fresh = true := rfl
@[simp] theorem fm_ImplyI_look (u : List Int) (t : List (List Int)) (x y : Int) (hu : Big u.length) (ht : BigR t) : fm_ImplyI.look [AL u t, I64 x, I64 y] = some (I64 (ImM u t x y)) :=
  lookF_of (X := List Int × List (List Int) × Int × Int) (args := fun (u, t, x, y) => [AL u t, I64 x, I64 y]) (pre := fun (u, t, x, y) => (Big u.length) ∧ (BigR t)) (val := fun (u, t, x, y) => I64 (ImM u t x y)) (by
  rintro ⟨u, t, x, y⟩ ⟨u', t', x', y'⟩ h
  simp at h
  try simp only [and_assoc] at h
  obtain ⟨rfl, rfl, rfl, rfl⟩ := h
  rfl) (u, t, x, y) ⟨hu, ht⟩
attribute [irreducible] fm_ImplyI
theorem NotI_pc (u : List Int) (t : List (List Int)) (x : Int) (hu : Big u.length) (ht : BigR t) : PC Try.prog 46 [AL u t, I64 x] none true (fun r _ => r = I64 (NoM u t x)) := by
  have l1 : fm_atI.look [AL u t, .list 1 [.int .i64 x]] = some (.bool (decide (VA u t) && decide (allE [x] u.length))) := fm_atI_look u t [x] hu ht (by unfold Big; simp)
  rw [allE_one] at l1
  refine pcT [fm_atI, fm_notI] fok_46 ?_
  unfold NoM
  cases hb : (decide (VA u t) && inE u.length x)
  · rw [hb] at l1
    simp [fa_46, l1, show List.range 1 = [0] from rfl]
  · have h := hb
    rw [hb] at l1
    simp only [Bool.and_eq_true, decide_eq_true_eq, inE_iff] at h
    simp [fa_46, l1, h.1.tf, h.2, show List.range 1 = [0] from rfl]
noncomputable def fm_NotI : Fam Try.prog := mkFam (X := List Int × List (List Int) × Int) 46 true (fun (u, t, x) => [AL u t, I64 x]) (fun (u, t, x) => (Big u.length) ∧ (BigR t)) (fun (u, t, x) => I64 (NoM u t x)) (by
  rintro ⟨u, t, x⟩ ⟨hu, ht⟩
  exact NotI_pc u t x hu ht)
@[simp] theorem fm_NotI_id : fm_NotI.id = 46 := rfl
@[simp] theorem fm_NotI_fresh : fm_NotI.fresh = true := rfl
@[simp] theorem fm_NotI_look (u : List Int) (t : List (List Int)) (x : Int) (hu : Big u.length) (ht : BigR t) : fm_NotI.look [AL u t, I64 x] = some (I64 (NoM u t x)) :=
  lookF_of (X := List Int × List (List Int) × Int) (args := fun (u, t, x) => [AL u t, I64 x]) (pre := fun (u, t, x) => (Big u.length) ∧ (BigR t)) (val := fun (u, t, x) => I64 (NoM u t x)) (by
  rintro ⟨u, t, x⟩ ⟨u', t', x'⟩ h
  simp at h
  try simp only [and_assoc] at h
  obtain ⟨rfl, rfl, rfl⟩ := h
  rfl) (u, t, x) ⟨hu, ht⟩
attribute [irreducible] fm_NotI
theorem NearI_pc (u : List Int) (t : List (List Int)) (x y : Int) (hu : Big u.length) (ht : BigR t) : PC Try.prog 56 [AL u t, I64 x, I64 y] none true (fun r _ => r = I64 (NeM u t x y)) := by
  have l1 : fm_atI.look [AL u t, .list 1 [.int .i64 x, .int .i64 y]] = some (.bool (decide (VA u t) && decide (allE [x, y] u.length))) := fm_atI_look u t [x, y] hu ht (by unfold Big; simp)
  rw [allE_two] at l1
  refine pcT [fm_atI, fm_nearI] fok_56 ?_
  unfold NeM
  cases hb : (decide (VA u t) && (inE u.length x && inE u.length y))
  · rw [hb] at l1
    simp [fa_56, l1, show List.range 2 = [0, 1] from rfl]
  · have h := hb
    rw [hb] at l1
    simp only [Bool.and_eq_true, decide_eq_true_eq, inE_iff] at h
    simp [fa_56, l1, h.1.tf, h.2, show List.range 2 = [0, 1] from rfl]
noncomputable def fm_NearI : Fam Try.prog := mkFam (X := List Int × List (List Int) × Int × Int) 56 true (fun (u, t, x, y) => [AL u t, I64 x, I64 y]) (fun (u, t, x, y) => (Big u.length) ∧ (BigR t)) (fun (u, t, x, y) => I64 (NeM u t x y)) (by
  rintro ⟨u, t, x, y⟩ ⟨hu, ht⟩
  exact NearI_pc u t x y hu ht)
@[simp] theorem fm_NearI_id : fm_NearI.id = 56 := rfl
@[simp] theorem fm_NearI_fresh : fm_NearI.fresh = true := rfl
@[simp] theorem fm_NearI_look (u : List Int) (t : List (List Int)) (x y : Int) (hu : Big u.length) (ht : BigR t) : fm_NearI.look [AL u t, I64 x, I64 y] = some (I64 (NeM u t x y)) :=
  lookF_of (X := List Int × List (List Int) × Int × Int) (args := fun (u, t, x, y) => [AL u t, I64 x, I64 y]) (pre := fun (u, t, x, y) => (Big u.length) ∧ (BigR t)) (val := fun (u, t, x, y) => I64 (NeM u t x y)) (by
  rintro ⟨u, t, x, y⟩ ⟨u', t', x', y'⟩ h
  simp at h
  try simp only [and_assoc] at h
  obtain ⟨rfl, rfl, rfl, rfl⟩ := h
  rfl) (u, t, x, y) ⟨hu, ht⟩
attribute [irreducible] fm_NearI
theorem PowerI_pc (u : List Int) (t : List (List Int)) (x k : Int) (hu : Big u.length) (ht : BigR t) : PC Try.prog 48 [AL u t, I64 x, I64 k] none true (fun r _ => r = I64 (PoM u t x k)) := by
  have l1 : fm_atI.look [AL u t, .list 1 [.int .i64 x]] = some (.bool (decide (VA u t) && decide (allE [x] u.length))) := fm_atI_look u t [x] hu ht (by unfold Big; simp)
  rw [allE_one] at l1
  refine pcT [fm_atI, fm_powI, fm_within] fok_48 ?_
  simp [fa_48]
  refine cutW (tabK_mono _) [(16, .bool (!(decide (VA u t) && inE u.length x && (decide (0 ≤ k) && decide (k ≤ 20)))))] (by
    cases hb : (decide (VA u t) && inE u.length x)
    · rw [hb] at l1
      simp [l1, show List.range 1 = [0] from rfl]
    · rw [hb] at l1
      simp [l1, show List.range 1 = [0] from rfl]) ?_
  unfold PoM
  cases hb : (decide (VA u t) && inE u.length x && (decide (0 ≤ k) && decide (k ≤ 20)))
  · simp
  · have h := hb
    simp only [Bool.and_eq_true, decide_eq_true_eq, inE_iff] at h
    simp [h.1.1.tf, h.1.2, h.2, show k ≤ 1000000 by omega]
noncomputable def fm_PowerI : Fam Try.prog := mkFam (X := List Int × List (List Int) × Int × Int) 48 true (fun (u, t, x, k) => [AL u t, I64 x, I64 k]) (fun (u, t, x, k) => (Big u.length) ∧ (BigR t)) (fun (u, t, x, k) => I64 (PoM u t x k)) (by
  rintro ⟨u, t, x, k⟩ ⟨hu, ht⟩
  exact PowerI_pc u t x k hu ht)
@[simp] theorem fm_PowerI_id : fm_PowerI.id = 48 := rfl
@[simp] theorem fm_PowerI_fresh : fm_PowerI.fresh = true := rfl
@[simp] theorem fm_PowerI_look (u : List Int) (t : List (List Int)) (x k : Int) (hu : Big u.length) (ht : BigR t) : fm_PowerI.look [AL u t, I64 x, I64 k] = some (I64 (PoM u t x k)) :=
  lookF_of (X := List Int × List (List Int) × Int × Int) (args := fun (u, t, x, k) => [AL u t, I64 x, I64 k]) (pre := fun (u, t, x, k) => (Big u.length) ∧ (BigR t)) (val := fun (u, t, x, k) => I64 (PoM u t x k)) (by
  rintro ⟨u, t, x, k⟩ ⟨u', t', x', k'⟩ h
  simp at h
  try simp only [and_assoc] at h
  obtain ⟨rfl, rfl, rfl, rfl⟩ := h
  rfl) (u, t, x, k) ⟨hu, ht⟩
attribute [irreducible] fm_PowerI

theorem latC_pc (x : Int) (u : List Int) (h2 : Big u.length) : PC Try.prog 175 [I64 x, .iptr (IL u)] none true (fun r _ => r = .bool (outR u.length x)) := by
  have h2 := h2.le
  refine pcT [fm_within] fok_175 ?_
  simp [fa_175, outR, wrap64 (n := (u.length : Int) - 1) (by omega) (by omega)]
noncomputable def fm_latC : Fam Try.prog := mkFam (X := Int × List Int) 175 true (fun (x, u) => [I64 x, .iptr (IL u)]) (fun (x, u) => (Big u.length)) (fun (x, u) => .bool (outR u.length x)) (by
  rintro ⟨x, u⟩ h2
  exact latC_pc x u h2)
@[simp] theorem fm_latC_id : fm_latC.id = 175 := rfl
@[simp] theorem fm_latC_fresh : fm_latC.fresh = true := rfl
@[simp] theorem fm_latC_look (x : Int) (u : List Int) (h2 : Big u.length) : fm_latC.look [I64 x, .iptr (IL u)] = some (.bool (outR u.length x)) :=
  lookF_of (X := Int × List Int) (args := fun (x, u) => [I64 x, .iptr (IL u)]) (pre := fun (x, u) => (Big u.length)) (val := fun (x, u) => .bool (outR u.length x)) (by
  rintro ⟨x, u⟩ ⟨x', u'⟩ h
  simp at h
  try simp only [and_assoc] at h
  obtain ⟨rfl, rfl⟩ := h
  rfl) (x, u) h2
attribute [irreducible] fm_latC
theorem contLat_pc (xs : List Int) (u : List Int) (hl : Big xs.length) (h2 : Big u.length) : PC Try.prog 99 [IL xs, .fn 175 [.iptr (IL u)]] none true (fun r _ => r = .bool (xs.any (outR u.length))) := by
  exact containsFunc_pc hl (by simp) (by simp) (outR u.length) (fun x hx => latC_pc x u h2)
noncomputable def fm_contLat : Fam Try.prog := mkFam (X := List Int × List Int) 99 true (fun (xs, u) => [IL xs, .fn 175 [.iptr (IL u)]]) (fun (xs, u) => (Big xs.length) ∧ (Big u.length)) (fun (xs, u) => .bool (xs.any (outR u.length))) (by
  rintro ⟨xs, u⟩ ⟨hl, h2⟩
  exact contLat_pc xs u hl h2)
@[simp] theorem fm_contLat_id : fm_contLat.id = 99 := rfl
@[simp] theorem fm_contLat_fresh : fm_contLat.fresh = true := rfl
@[simp] theorem fm_contLat_look (xs : List Int) (u : List Int) (hl : Big xs.length) (h2 : Big u.length) : fm_contLat.look [IL xs, .fn 175 [.iptr (IL u)]] = some (.bool (xs.any (outR u.length))) :=
  lookF_of (X := List Int × List Int) (args := fun (xs, u) => [IL xs, .fn 175 [.iptr (IL u)]]) (pre := fun (xs, u) => (Big xs.length) ∧ (Big u.length)) (val := fun (xs, u) => .bool (xs.any (outR u.length))) (by
  rintro ⟨xs, u⟩ ⟨xs', u'⟩ h
  simp at h
  try simp only [and_assoc] at h
  obtain ⟨rfl, rfl⟩ := h
  rfl) (xs, u) ⟨hl, h2⟩
attribute [irreducible] fm_contLat
theorem latAt_pc (u : List Int) (xs : List Int) (hu : Big u.length) (hx : Big xs.length) : PC Try.prog 130 [IL u, IL xs] none true (fun r _ => r = .bool (decide (VL u) && decide (allE xs u.length))) := by
  refine pcT [fm_validLatticeI, fm_contLat] fok_130 ?_
  simp [fa_130]
  refine cutW (tabK_mono _) [(4, .bool (decide (VL u) && decide (allE xs u.length)))] (by rw [← allE_any]; simp [hu, hx]; grind) ?_
  simp
noncomputable def fm_latAt : Fam Try.prog := mkFam (X := List Int × List Int) 130 true (fun (u, xs) => [IL u, IL xs]) (fun (u, xs) => (Big u.length) ∧ (Big xs.length)) (fun (u, xs) => .bool (decide (VL u) && decide (allE xs u.length))) (by
  rintro ⟨u, xs⟩ ⟨hu, hx⟩
  exact latAt_pc u xs hu hx)
@[simp] theorem fm_latAt_id : fm_latAt.id = 130 := rfl
@[simp] theorem fm_latAt_fresh : fm_latAt.fresh = true := rfl
@[simp] theorem fm_latAt_look (u : List Int) (xs : List Int) (hu : Big u.length) (hx : Big xs.length) : fm_latAt.look [IL u, IL xs] = some (.bool (decide (VL u) && decide (allE xs u.length))) :=
  lookF_of (X := List Int × List Int) (args := fun (u, xs) => [IL u, IL xs]) (pre := fun (u, xs) => (Big u.length) ∧ (Big xs.length)) (val := fun (u, xs) => .bool (decide (VL u) && decide (allE xs u.length))) (by
  rintro ⟨u, xs⟩ ⟨u', xs'⟩ h
  simp at h
  try simp only [and_assoc] at h
  obtain ⟨rfl, rfl⟩ := h
  rfl) (u, xs) ⟨hu, hx⟩
attribute [irreducible] fm_latAt
noncomputable def BeM (u : List Int) (x y : Int) : Bool := decide (VL u) && (inE u.length x && inE u.length y) && tb u x.toNat y.toNat
noncomputable def MeM (u : List Int) (x y : Int) : Int := if decide (VL u) && (inE u.length x && inE u.length y) then meetM u x.toNat y.toNat else -1
noncomputable def JoM (u : List Int) (x y : Int) : Int := if decide (VL u) && (inE u.length x && inE u.length y) then joinM u x.toNat y.toNat else -1
theorem BelowI_pc (u : List Int) (x y : Int) (hu : Big u.length) : PC Try.prog 52 [IL u, I64 x, I64 y] none true (fun r _ => r = .bool (BeM u x y)) := by
  have l1 : fm_latAt.look [IL u, .list 1 [.int .i64 x, .int .i64 y]] = some (.bool (decide (VL u) && decide (allE [x, y] u.length))) := fm_latAt_look u [x, y] hu (by unfold Big; simp)
  rw [allE_two] at l1
  refine pcT [fm_latAt, fm_belowI] fok_52 ?_
  simp [fa_52]
  unfold BeM
  refine cutW (tabK_mono _) [(6, .bool (decide (VL u) && (inE u.length x && inE u.length y) && tb u x.toNat y.toNat))] (by
    cases hb : (decide (VL u) && (inE u.length x && inE u.length y))
    · rw [hb] at l1
      simp [l1, show List.range 2 = [0, 1] from rfl]
    · have h := hb
      rw [hb] at l1
      simp only [Bool.and_eq_true, decide_eq_true_eq, inE_iff] at h
      simp [l1, h.1.six, h.2, show List.range 2 = [0, 1] from rfl]) ?_
  simp
noncomputable def fm_BelowI : Fam Try.prog := mkFam (X := List Int × Int × Int) 52 true (fun (u, x, y) => [IL u, I64 x, I64 y]) (fun (u, x, y) => (Big u.length)) (fun (u, x, y) => .bool (BeM u x y)) (by
  rintro ⟨u, x, y⟩ hu
  exact BelowI_pc u x y hu)
@[simp] theorem fm_BelowI_id : fm_BelowI.id = 52 := rfl
@[simp] theorem fm_BelowI_fresh : fm_BelowI.fresh = true := rfl
@[simp] theorem fm_BelowI_look (u : List Int) (x y : Int) (hu : Big u.length) : fm_BelowI.look [IL u, I64 x, I64 y] = some (.bool (BeM u x y)) :=
  lookF_of (X := List Int × Int × Int) (args := fun (u, x, y) => [IL u, I64 x, I64 y]) (pre := fun (u, x, y) => (Big u.length)) (val := fun (u, x, y) => .bool (BeM u x y)) (by
  rintro ⟨u, x, y⟩ ⟨u', x', y'⟩ h
  simp at h
  try simp only [and_assoc] at h
  obtain ⟨rfl, rfl, rfl⟩ := h
  rfl) (u, x, y) hu
attribute [irreducible] fm_BelowI
end Go.PS
end

section
-- The law of values of opposites.
set_option maxRecDepth 100000
set_option linter.unusedVariables false
set_option linter.unusedSimpArgs false
namespace Go.PS
open Go.Proofs

set_option maxHeartbeats 2000000 in
theorem FnValueOf_pc (c : List Int) (hl : Hu c.length) (hc : Byt c) : PC Try.prog 12 [BL c] none true (fun r _ => r = .bool true) := by
  have hl' := hl.le
  refine pcT [fm_drVal, fm_ValueOfI, fm_ValueOfS, fm_NotI] fok_12 ?_
  rcases Nat.lt_or_ge 1048576 c.length with q | q
  · simp [fa_12, show ((1048576 : Int) < c.length) by omega]
  · have hbig : Big c.length := by unfold Big; omega
    have l1 := fm_drVal_look c hc hbig
    obtain ⟨g, hg⟩ := saM_few (rdB_ok hc) (p := 0) (by omega)
    have hu := g.big
    have ht := g.bigR
    generalize saM (rdB c) 0 = A at *
    obtain ⟨⟨u, t⟩, p1⟩ := A
    dsimp only at *
    have hj := stM_ok (rdB_ok hc) (p := p1 + 7) (by omega)
    have hn : (dVn (rdB c) p1 u.length).length ≤ 3 := by unfold dVn; split <;> simp
    generalize (stM (rdB c) (p1 + 7)).1 = l at *
    generalize dVn (rdB c) p1 u.length = nm at *
    have hlb : Big l.length := by unfold Big; omega
    have hnb : Big nm.length := by unfold Big; omega
    have m1 := fm_ValueOfI_look u t l nm hu ht hlb hnb
    have m2 := fm_ValueOfS_look u t l nm hu ht hlb hnb
    have m3 : fm_ValueOfI.look [AL u t, .list 1 (.int .i64 12 :: ints l), IL nm] = some (I64 (valueOfM u t (12 :: l) nm)) := fm_ValueOfI_look u t (12 :: l) nm hu ht (by unfold Big; simp; omega) hnb
    have m4 : fm_ValueOfI.look [AL u t, .list 1 (.int .i64 16 :: ints (l ++ l)), IL nm] = some (I64 (valueOfM u t (16 :: (l ++ l)) nm)) := fm_ValueOfI_look u t (16 :: (l ++ l)) nm hu ht (by unfold Big; simp; omega) hnb
    have v1 := value_not (u := u) (t := t) (l := l) (nm := nm)
    have v2 := value_same (u := u) (t := t) (l := l) (nm := nm)
    have v3 := valueOf_pos (u := u) (t := t) (l := l) (nm := nm)
    simp [fa_12, show ¬ ((1048576 : Int) < c.length) by omega, show ((c.length : Int) ≤ 1048576) by omega, l1, m1, m2]
    refine cutW (tabK_mono _) [(31, .bool (decide (valueOfM u t l nm < 0)))] (by simp [m2]) ?_
    simp [m2]
    intro h
    have hb1 : l.length + 1 ≤ big := le_big (by omega)
    have hb2 : l.length + 1 + l.length ≤ big := le_big (by omega)
    have hb3 : 1 + l.length ≤ big := le_big (by omega)
    have hb4 : 1 + l.length + l.length ≤ big := le_big (by omega)
    obtain ⟨a, vl, _, _, _⟩ := v3 h
    have hp := a.lat.pos
    have h6 := a.lat.six
    have h15 : l.length ≤ 15 := vl.1
    have w1 : IntKind.i64.wrap ((u.length : Int) - 1) = u.length - 1 := wrap64 (by omega) (by omega)
    have w2 : IntKind.i64.wrap (2 * (l.length : Int)) = 2 * l.length := wrap64 (by omega) (by omega)
    simp [hb1, hb2, hb3, hb4]
    refine cutWc (tabK_mono _) [(2, .bool true)] (by
      by_cases c1 : l.length = 15
      · simp [c1, w2, show ¬ (IntKind.i64.wrap 30 < 15) by decide]
      · have v1 := v1 h (by omega)
        obtain ⟨k, hk⟩ := Int.eq_ofNat_of_zero_le h
        have hkn : k < u.length := by have := v1.2; rw [hk] at this; simpa using this
        have m5 := fm_NotI_look u t k hu ht
        have hno : NoM u t k = implyM u t k 0 := by rw [NoM]; simp [a, inE]; omega
        rw [hno] at m5
        have e3 := v1.1
        rw [hk, Int.toNat_natCast] at e3
        rw [e3] at m3
        rw [hk]
        generalize implyM u t k 0 = z at *
        by_cases c2 : 2 * l.length < 15
        · have v2 := v2 h c2
          rw [v2] at m4
          simp [c1, m3, m4, m5, w1, w2, show ((l.length : Int) = 15) ↔ False by simp; omega, show ¬ ((15 : Int) ≤ 2 * l.length) by omega]
        · simp [c1, m3, m5, w2, show ((l.length : Int) = 15) ↔ False by simp; omega, show ((15 : Int) ≤ 2 * l.length) by omega]) ?_
    simp
end Go.PS
end
