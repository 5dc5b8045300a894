/- Part 1 of what the last text proves: Least powers: the law holds at every input. -/
import Derived.Test.YthbdihoacfhflaaQo6
section
-- PRINTED by gen.py: clean texts of functions, and their tie to the program.
set_option maxRecDepth 100000
namespace Go.PS
open Go.Proofs
/-- spec.termOf -/
def an_177 : Ann := ⟨[(1, 4, 16), (2, 2, 16), (3, 1, 16), (4, 0, 1), (4, 4, 16), (4, 5, 2), (5, 2, 16), (6, 3, 16), (7, 1, 1), (7, 7, 16), (7, 8, 2)], [(0, [0, 1]), (1, [0, 1, 13]), (2, [4]), (3, [0, 1, 20]), (4, [4]), (5, [0, 1, 5]), (6, [0, 1, 5, 6]), (7, [4])], [], []⟩
def fa_177 : FnA := ⟨43, [.t 4],
  (.seq
    (.region false [⟨some 4, (.mv (.c .nil)), 23, none, 0⟩] (some [0, 1]))
    (.seq
      (.seq
        (.region false (gops [⟨some 7, (.mv (.t 1)), 3, none, 0⟩, ⟨some 8, (.bin .lss 3 (.t 7) (.c (.int .i64 1))), 4, none, 0⟩, ⟨some 9, (.mv (.t 8)), 4, none, 0⟩, ⟨some 10, (.mv (.t 0)), 72, some (9, false), 0⟩, ⟨some 11, (.call (.f 106) [(.t 10), (.c (.int .i64 4))]), 3, some (9, false), 16⟩, ⟨some 12, (.bin .eql 3 (.t 11) (.c (.int .i64 0))), 4, some (9, false), 0⟩, ⟨some 13, (.pick (.t 9) (.c (.bool true)) (.t 12)), 4, none, 0⟩]) (some [0, 1, 13]))
        (.cond (.t 13)
          (.seq
            (.region false [⟨some 14, (.mv (.t 0)), 72, none, 0⟩, ⟨some 15, (.bslice 23 7 [(0, (.c (.int .i64 0))), (1, (.c (.int .i64 1))), (2, (.c (.int .i64 0))), (3, (.c (.int .i64 2))), (4, (.c (.int .i64 1))), (5, (.c (.int .i64 10))), (6, (.c (.int .i64 11)))]), 23, none, 0⟩, ⟨some 16, (.call (.f 161) [(.t 14), (.t 15)]), 3, none, 16⟩, ⟨some 17, (.bslice 23 1 [(0, (.t 16))]), 23, none, 0⟩, ⟨some 4, (.mv (.t 17)), 23, none, 0⟩] (some [4]))
            .ret)
          .skip))
      (.seq
        (.seq
          (.region false [⟨some 18, (.mv (.t 0)), 72, none, 0⟩, ⟨some 19, (.call (.f 106) [(.t 18), (.c (.int .i64 5))]), 3, none, 16⟩, ⟨some 20, (.bin .eql 3 (.t 19) (.c (.int .i64 0))), 4, none, 0⟩] (some [0, 1, 20]))
          (.cond (.t 20)
            (.seq
              (.region false [⟨some 21, (.bslice 23 1 [(0, (.c (.int .i64 12)))]), 23, none, 1⟩, ⟨some 22, (.mv (.t 0)), 72, none, 0⟩, ⟨some 23, (.mv (.t 1)), 3, none, 0⟩, ⟨some 24, (.bin .sub 3 (.t 23) (.c (.int .i64 1))), 3, none, 0⟩, ⟨some 25, (.call (.f 177) [(.t 22), (.t 24)]), 23, none, 16⟩, ⟨some 26, (.app 23 23 (.t 21) (.t 25)), 23, none, 2⟩, ⟨some 4, (.mv (.t 26)), 23, none, 0⟩] (some [4]))
              .ret)
            .skip))
        (.seq
          (.region false [⟨some 27, (.mv (.t 0)), 72, none, 0⟩, ⟨some 28, (.bslice 23 5 [(0, (.c (.int .i64 16))), (1, (.c (.int .i64 15))), (2, (.c (.int .i64 14))), (3, (.c (.int .i64 13))), (4, (.c (.int .i64 16)))]), 23, none, 0⟩, ⟨some 29, (.call (.f 161) [(.t 27), (.t 28)]), 3, none, 16⟩, ⟨some 5, (.mv (.t 29)), 3, none, 0⟩] (some [0, 1, 5]))
          (.seq
            (.region false [⟨some 30, (.mv (.t 0)), 72, none, 0⟩, ⟨some 31, (.mv (.t 1)), 3, none, 0⟩, ⟨some 32, (.bin .sub 3 (.t 31) (.c (.int .i64 1))), 3, none, 0⟩, ⟨some 33, (.call (.f 177) [(.t 30), (.t 32)]), 23, none, 16⟩, ⟨some 6, (.mv (.t 33)), 23, none, 0⟩] (some [0, 1, 5, 6]))
            (.seq
              (.region false [⟨some 34, (.mv (.t 5)), 3, none, 0⟩, ⟨some 35, (.bslice 23 1 [(0, (.t 34))]), 23, none, 1⟩, ⟨some 36, (.mv (.t 6)), 23, none, 0⟩, ⟨some 37, (.app 23 23 (.t 35) (.t 36)), 23, none, 0⟩, ⟨some 38, (.mv (.t 0)), 72, none, 0⟩, ⟨some 39, (.mv (.t 1)), 3, none, 0⟩, ⟨some 40, (.bin .sub 3 (.t 39) (.c (.int .i64 1))), 3, none, 0⟩, ⟨some 41, (.call (.f 177) [(.t 38), (.t 40)]), 23, none, 16⟩, ⟨some 42, (.app 23 23 (.t 37) (.t 41)), 23, none, 2⟩, ⟨some 4, (.mv (.t 42)), 23, none, 0⟩] (some [4]))
              .ret))))))⟩
theorem fok_177 : FnOk Try.prog 177 fa_177 an_177 := ⟨Try.f177, _, Try.func177, rfl, by kernel_rfl, rfl, rfl, by decide, by kernel_rfl⟩
/-- spec.termOf -/
def an_177b : Ann := ⟨[(1, 4, 16), (2, 2, 16), (2, 3, 1), (3, 1, 16), (4, 0, 1), (4, 4, 16), (5, 2, 16), (6, 3, 16), (7, 1, 1), (7, 7, 16)], [(0, [0, 1]), (1, [0, 1, 13]), (2, [4]), (3, [0, 1, 20]), (4, [4]), (5, [0, 1, 5]), (6, [0, 1, 5, 6]), (7, [4])], [], []⟩
def fa_177b : FnA := ⟨43, [.t 4],
  (.seq
    (.region false [⟨some 4, (.mv (.c .nil)), 23, none, 0⟩] (some [0, 1]))
    (.seq
      (.seq
        (.region false (gops [⟨some 7, (.mv (.t 1)), 3, none, 0⟩, ⟨some 8, (.bin .lss 3 (.t 7) (.c (.int .i64 1))), 4, none, 0⟩, ⟨some 9, (.mv (.t 8)), 4, none, 0⟩, ⟨some 10, (.mv (.t 0)), 72, some (9, false), 0⟩, ⟨some 11, (.call (.f 106) [(.t 10), (.c (.int .i64 4))]), 3, some (9, false), 16⟩, ⟨some 12, (.bin .eql 3 (.t 11) (.c (.int .i64 0))), 4, some (9, false), 0⟩, ⟨some 13, (.pick (.t 9) (.c (.bool true)) (.t 12)), 4, none, 0⟩]) (some [0, 1, 13]))
        (.cond (.t 13)
          (.seq
            (.region false [⟨some 14, (.mv (.t 0)), 72, none, 0⟩, ⟨some 15, (.bslice 23 7 [(0, (.c (.int .i64 0))), (1, (.c (.int .i64 1))), (2, (.c (.int .i64 0))), (3, (.c (.int .i64 2))), (4, (.c (.int .i64 1))), (5, (.c (.int .i64 10))), (6, (.c (.int .i64 11)))]), 23, none, 0⟩, ⟨some 16, (.call (.f 161) [(.t 14), (.t 15)]), 3, none, 16⟩, ⟨some 17, (.bslice 23 1 [(0, (.t 16))]), 23, none, 1⟩, ⟨some 4, (.mv (.t 17)), 23, none, 0⟩] (some [4]))
            .ret)
          .skip))
      (.seq
        (.seq
          (.region false [⟨some 18, (.mv (.t 0)), 72, none, 0⟩, ⟨some 19, (.call (.f 106) [(.t 18), (.c (.int .i64 5))]), 3, none, 16⟩, ⟨some 20, (.bin .eql 3 (.t 19) (.c (.int .i64 0))), 4, none, 0⟩] (some [0, 1, 20]))
          (.cond (.t 20)
            (.seq
              (.region false [⟨some 21, (.bslice 23 1 [(0, (.c (.int .i64 12)))]), 23, none, 1⟩, ⟨some 22, (.mv (.t 0)), 72, none, 0⟩, ⟨some 23, (.mv (.t 1)), 3, none, 0⟩, ⟨some 24, (.bin .sub 3 (.t 23) (.c (.int .i64 1))), 3, none, 0⟩, ⟨some 25, (.call (.f 177) [(.t 22), (.t 24)]), 23, none, 16⟩, ⟨some 26, (.app 23 23 (.t 21) (.t 25)), 23, none, 0⟩, ⟨some 4, (.mv (.t 26)), 23, none, 0⟩] (some [4]))
              .ret)
            .skip))
        (.seq
          (.region false [⟨some 27, (.mv (.t 0)), 72, none, 0⟩, ⟨some 28, (.bslice 23 5 [(0, (.c (.int .i64 16))), (1, (.c (.int .i64 15))), (2, (.c (.int .i64 14))), (3, (.c (.int .i64 13))), (4, (.c (.int .i64 16)))]), 23, none, 0⟩, ⟨some 29, (.call (.f 161) [(.t 27), (.t 28)]), 3, none, 16⟩, ⟨some 5, (.mv (.t 29)), 3, none, 0⟩] (some [0, 1, 5]))
          (.seq
            (.region false [⟨some 30, (.mv (.t 0)), 72, none, 0⟩, ⟨some 31, (.mv (.t 1)), 3, none, 0⟩, ⟨some 32, (.bin .sub 3 (.t 31) (.c (.int .i64 1))), 3, none, 0⟩, ⟨some 33, (.call (.f 177) [(.t 30), (.t 32)]), 23, none, 16⟩, ⟨some 6, (.mv (.t 33)), 23, none, 0⟩] (some [0, 1, 5, 6]))
            (.seq
              (.region false [⟨some 34, (.mv (.t 5)), 3, none, 0⟩, ⟨some 35, (.bslice 23 1 [(0, (.t 34))]), 23, none, 1⟩, ⟨some 36, (.mv (.t 6)), 23, none, 0⟩, ⟨some 37, (.app 23 23 (.t 35) (.t 36)), 23, none, 0⟩, ⟨some 38, (.mv (.t 0)), 72, none, 0⟩, ⟨some 39, (.mv (.t 1)), 3, none, 0⟩, ⟨some 40, (.bin .sub 3 (.t 39) (.c (.int .i64 1))), 3, none, 0⟩, ⟨some 41, (.call (.f 177) [(.t 38), (.t 40)]), 23, none, 16⟩, ⟨some 42, (.app 23 23 (.t 37) (.t 41)), 23, none, 0⟩, ⟨some 4, (.mv (.t 42)), 23, none, 0⟩] (some [4]))
              .ret))))))⟩
theorem fok_177b : FnOk Try.prog 177 fa_177b an_177b := ⟨Try.f177, _, Try.func177, rfl, by kernel_rfl, rfl, rfl, by decide, by kernel_rfl⟩
/-- spec.someTerm -/
def an_138 : Ann := ⟨[(1, 3, 16), (1, 4, 16), (2, 1, 16), (6, 4, 16), (6, 7, 16), (8, 1, 2)], [(0, [0]), (1, [0, 3]), (2, [0, 3, 10]), (3, [0, 3, 10, 11]), (4, [2]), (5, [0, 3, 10, 16]), (6, [3]), (7, [3, 27]), (8, [2]), (9, [2])], [], []⟩
def fa_138 : FnA := ⟨32, [.t 2],
  (.seq
    (.region false [⟨some 2, (.mv (.c .nil)), 23, none, 0⟩] (some [0]))
    (.seq
      (.region false [⟨some 4, (.mv (.t 0)), 72, none, 0⟩, ⟨some 5, (.mv (.t 0)), 72, none, 0⟩, ⟨some 6, (.bslice 23 4 [(0, (.c (.int .i64 2))), (1, (.c (.int .i64 3))), (2, (.c (.int .i64 1))), (3, (.c (.int .i64 0)))]), 23, none, 0⟩, ⟨some 7, (.call (.f 161) [(.t 5), (.t 6)]), 3, none, 16⟩, ⟨some 8, (.call (.f 177) [(.t 4), (.t 7)]), 23, none, 16⟩, ⟨some 3, (.mv (.t 8)), 23, none, 0⟩] (some [0, 3]))
      (.seq
        (.seq
          (.region false [⟨some 9, (.mv (.t 0)), 72, none, 0⟩, ⟨some 10, (.call (.f 106) [(.t 9), (.c (.int .i64 30))]), 3, none, 16⟩] (some [0, 3, 10]))
          (.block 0
            (.seq
              (.region false [⟨some 12, (.bin .eql 3 (.t 10) (.c (.int .i64 0))), 4, none, 0⟩, ⟨some 11, (.mv (.t 12)), 4, none, 0⟩] (some [0, 3, 10, 11]))
              (.cond (.t 11)
                (.seq
                  (.region false [⟨some 13, (.mv (.t 3)), 23, none, 0⟩, ⟨some 14, (.bslice 23 1 [(0, (.c (.int .i64 0)))]), 23, none, 0⟩, ⟨some 15, (.app 23 23 (.t 13) (.t 14)), 23, none, 0⟩, ⟨some 2, (.mv (.t 15)), 23, none, 0⟩] (some [2]))
                  .ret)
                (.seq
                  (.region false [⟨some 17, (.bin .eql 3 (.t 10) (.c (.int .i64 1))), 4, none, 0⟩, ⟨some 16, (.mv (.t 17)), 4, none, 0⟩] (some [0, 3, 10, 16]))
                  (.cond (.t 16)
                    (.region false [⟨some 18, (.mv (.t 3)), 23, none, 0⟩, ⟨some 19, (.mv (.t 0)), 72, none, 0⟩, ⟨some 20, (.mv (.t 3)), 23, none, 0⟩, ⟨some 21, (.len 23 (.t 20)), 3, none, 0⟩, ⟨some 22, (.call (.f 106) [(.t 19), (.t 21)]), 3, none, 16⟩, ⟨some 23, (.mv (.t 0)), 72, none, 0⟩, ⟨some 24, (.bslice 23 4 [(0, (.c (.int .i64 3))), (1, (.c (.int .i64 17))), (2, (.c (.int .i64 (-1)))), (3, (.c (.int .i64 12)))]), 23, none, 0⟩, ⟨some 25, (.call (.f 161) [(.t 23), (.t 24)]), 3, none, 16⟩, ⟨some 26, (.iaddr 23 (.t 18) (.t 22)), 0, none, 0⟩, ⟨none, (.store 3 (.t 26) (.t 25)), 0, none, 0⟩] (some [3]))
                    (.seq
                      (.region false [⟨some 28, (.bin .eql 3 (.t 10) (.c (.int .i64 2))), 4, none, 0⟩, ⟨some 27, (.mv (.t 28)), 4, none, 0⟩] (some [3, 27]))
                      (.cond (.t 27)
                        (.seq
                          (.region false [⟨some 29, (.mv (.t 3)), 23, none, 0⟩, ⟨some 30, (.slice 23 (.t 29) (some (.c (.int .i64 1))) none), 23, none, 2⟩, ⟨some 2, (.mv (.t 30)), 23, none, 0⟩] (some [2]))
                          .ret)
                        .skip))))))))
        (.seq
          (.region false [⟨some 31, (.mv (.t 3)), 23, none, 0⟩, ⟨some 2, (.mv (.t 31)), 23, none, 0⟩] (some [2]))
          .ret))))⟩
theorem fok_138 : FnOk Try.prog 138 fa_138 an_138 := ⟨Try.f138, _, Try.func138, rfl, by kernel_rfl, rfl, rfl, by decide, by kernel_rfl⟩
end Go.PS
end

section
-- Contracts: a term that is drawn.
set_option maxRecDepth 100000
set_option linter.unusedVariables false
set_option linter.unusedSimpArgs false
namespace Go.PS
open Go.Proofs

def lf7 (b : List Int) (p : Nat) : Int := gi [0, 1, 0, 2, 1, 10, 11] (pkM b p 7).toNat
def sg5 (b : List Int) (p : Nat) : Int := gi [16, 15, 14, 13, 16] (pkM b p 5).toNat
/-- A term of at most some depth, and how many numbers have been drawn. -/
def tkM (b : List Int) : Nat → Nat → List Int × Nat
  | 0, p => ([lf7 b p], p + 1)
  | d + 1, p => if pkM b p 4 = 0 then ([lf7 b (p + 1)], p + 2) else if pkM b (p + 1) 5 = 0 then (12 :: (tkM b d (p + 2)).1, (tkM b d (p + 2)).2)
    else (sg5 b (p + 2) :: ((tkM b d (p + 3)).1 ++ (tkM b d (tkM b d (p + 3)).2).1), (tkM b d (tkM b d (p + 3)).2).2)
theorem tkM_ok (b : List Int) : ∀ d p, (tkM b d p).1.length + 1 ≤ 2 ^ (d + 1) ∧ 1 ≤ (tkM b d p).1.length ∧ (tkM b d p).2 + 3 ≤ p + 4 * 2 ^ d
  | 0, p => by simp [tkM]
  | d + 1, p => by
    have h1 := tkM_ok b d (p + 2)
    have h2 := tkM_ok b d (p + 3)
    have h3 := tkM_ok b d (tkM b d (p + 3)).2
    have hp : 0 < 2 ^ d := Nat.pow_pos (by omega)
    have e1 : 2 ^ (d + 1) = 2 * 2 ^ d := by rw [Nat.pow_succ]; omega
    have e2 : 2 ^ (d + 1 + 1) = 4 * 2 ^ d := by rw [Nat.pow_succ, e1]; omega
    rw [e1] at h1 h2 h3
    rw [e1, e2]
    simp only [tkM]
    split
    · simp; omega
    · split
      · simp; omega
      · simp; omega
theorem tkM_one {b : List Int} (hb : BB b) {p : Nat} (hp : p ≤ 1000000) : fw_one.look [.ptr 0 0 0, .list 1 [.int .i64 0, .int .i64 1, .int .i64 0, .int .i64 2, .int .i64 1, .int .i64 10, .int .i64 11]] (RS b p) = some (I64 (lf7 b p), RS b (p + 1)) :=
  fw_one_look b p [0, 1, 0, 2, 1, 10, 11] hb (by omega) (by unfold Big; simp) (by simp)
theorem tkM_sign {b : List Int} (hb : BB b) {p : Nat} (hp : p ≤ 1000000) : fw_one.look [.ptr 0 0 0, .list 1 [.int .i64 16, .int .i64 15, .int .i64 14, .int .i64 13, .int .i64 16]] (RS b p) = some (I64 (sg5 b p), RS b (p + 1)) :=
  fw_one_look b p [16, 15, 14, 13, 16] hb (by omega) (by unfold Big; simp) (by simp)
theorem famWE {X : Type} (id : Nat) (args cell : X → List D) (pre : X → Prop) (val : X → D) (cell' : X → List D) (ok : ∀ x, pre x → PC Try.prog id (args x) (some (cell x)) false (fun r c => imm 5 r = imm 5 (val x) ∧ c = cell' x))
    (inj : ∀ x y, args x = args y → cell x = cell y → val x = val y ∧ cell' x = cell' y) : ∃ fw : FamW Try.prog, fw.id = id ∧ ∀ x, pre x → fw.look (args x) (cell x) = some (val x, cell' x) :=
  ⟨mkFamW (X := X) id args cell pre val cell' ok, rfl, fun x h => lookG_of (args := args) (cell := cell) (pre := pre) (val := val) (cell' := cell') inj x h⟩
theorem termOf_aux {b : List Int} (hb : BB b) : ∀ (d p : Nat), d ≤ 3 → p + 4 * 2 ^ d ≤ 999000 → PC Try.prog 177 [.ptr 0 0 0, I64 d] (some (RS b p)) false (fun r c => imm 5 r = imm 5 (IL (tkM b d p).1) ∧ c = RS b (tkM b d p).2)
  | 0, p, _, hp => by
    have l1 := tkM_one hb (p := p) (by omega)
    refine pcW [] [fw_pick, fw_one] fok_177 ?_
    simp [gops, fa_177, callOW, l1, rg7, rg1, tkM]
    rfl
  | d + 1, p, hd, hp => by
    have hpow : 2 ^ (d + 1) = 2 * 2 ^ d := by rw [Nat.pow_succ]; omega
    have hpos : 0 < 2 ^ d := Nat.pow_pos (by omega)
    have h8 : 2 ^ (d + 1) ≤ 2 ^ 3 := Nat.pow_le_pow_right (by omega) hd
    obtain ⟨fw, hid, hlk⟩ := famWE (X := Nat) 177 (fun _ => [.ptr 0 0 0, I64 d]) (fun q => RS b q) (fun q => q + 4 * 2 ^ d ≤ 999000) (fun q => IL (tkM b d q).1) (fun q => RS b (tkM b d q).2) (fun q hq => termOf_aux hb d q (by omega) hq) (by
      intro x y _ h
      simp at h
      subst h
      exact ⟨rfl, rfl⟩)
    have hq := tkM_ok b d (p + 2)
    have hq3 := tkM_ok b d (p + 3)
    have hq4 := tkM_ok b d (tkM b d (p + 3)).2
    have k1 := hlk (p + 2) (by omega)
    have k2 := hlk (p + 3) (by omega)
    have k3 := hlk (tkM b d (p + 3)).2 (by omega)
    have l0 := fw_pick_look b p 4 hb (by omega) (by omega)
    have l1 := fw_pick_look b (p + 1) 5 hb (by omega) (by omega)
    have l2 := tkM_one hb (p := p + 1) (by omega)
    have l3 := tkM_sign hb (p := p + 2) (by omega)
    have w1 : IntKind.i64.wrap (d : Int) = d := wrap64 (by omega) (by omega)
    rw [show p + 1 + 1 = p + 2 from rfl] at l1 l2
    rw [show p + 2 + 1 = p + 3 from rfl] at l3
    refine pcW [] [fw_pick, fw_one, fw] fok_177 ?_
    simp only [tkM]
    generalize tkM b d (tkM b d (p + 3)).2 = C at *
    generalize tkM b d (p + 3) = B at *
    generalize tkM b d (p + 2) = A at *
    by_cases c0 : pkM b p 4 = 0
    · simp [gops, fa_177, callOW, l0, l2, c0, rg7, rg1, show ¬ ((d : Int) + 1 < 1) by omega]
      rfl
    · by_cases c1 : pkM b (p + 1) 5 = 0
      · simp [gops, fa_177, callOW, hid, l0, l1, c0, c1, k1, w1, rg7, rg1, show ¬ ((d : Int) + 1 < 1) by omega]
        exact ⟨le_big (by omega), rfl⟩
      · simp [gops, fa_177, callOW, hid, l0, l1, l3, c0, c1, k2, k3, w1, rg5, rg1, show ¬ ((d : Int) + 1 < 1) by omega]
        exact ⟨le_big (by omega), le_big (by omega), rfl⟩
end Go.PS
end

section
-- Contracts: a term that is drawn, of any kind.
set_option maxRecDepth 100000
set_option linter.unusedVariables false
set_option linter.unusedSimpArgs false
namespace Go.PS
open Go.Proofs

theorem termOf_pc (b : List Int) (p : Nat) (d : Int) (hb : BB b) (hp : p ≤ 1000000) (h0 : 0 ≤ d) (h3 : d ≤ 3) (hp2 : p ≤ 900000) : PC Try.prog 177 (.ptr 0 0 0 :: [I64 d]) (some (RS b p)) false (fun r c => imm 5 r = imm 5 (IL (tkM b d.toNat p).1) ∧ c = (RS b ((tkM b d.toNat p).2))) := by
  obtain ⟨d, rfl⟩ := Int.eq_ofNat_of_zero_le h0
  have : 2 ^ d ≤ 2 ^ 3 := Nat.pow_le_pow_right (by omega) (by omega)
  exact termOf_aux hb d p (by omega) (by omega)
noncomputable def fw_termOf : FamW Try.prog := mkFamW (X := List Int × Nat × Int) 177 (fun (b, p, d) => (.ptr 0 0 0 :: [I64 d])) (fun (b, p, d) => (RS b p)) (fun (b, p, d) => (BB b) ∧ (p ≤ 1000000) ∧ (0 ≤ d) ∧ (d ≤ 3) ∧ (p ≤ 900000)) (fun (b, p, d) => IL (tkM b d.toNat p).1) (fun (b, p, d) => (RS b ((tkM b d.toNat p).2))) (by
  rintro ⟨b, p, d⟩ ⟨hb, hp, h0, h3, hp2⟩
  exact termOf_pc b p d hb hp h0 h3 hp2)
@[simp] theorem fw_termOf_id : fw_termOf.id = 177 := rfl
@[simp] theorem fw_termOf_look (b : List Int) (p : Nat) (d : Int) (hb : BB b) (hp : p ≤ 1000000) (h0 : 0 ≤ d) (h3 : d ≤ 3) (hp2 : p ≤ 900000) : fw_termOf.look (.ptr 0 0 0 :: [I64 d]) (RS b p) = some (IL (tkM b d.toNat p).1, (RS b ((tkM b d.toNat p).2))) :=
  lookG_of (X := List Int × Nat × Int) (args := fun (b, p, d) => (.ptr 0 0 0 :: [I64 d])) (cell := fun (b, p, d) => (RS b p)) (pre := fun (b, p, d) => (BB b) ∧ (p ≤ 1000000) ∧ (0 ≤ d) ∧ (d ≤ 3) ∧ (p ≤ 900000)) (val := fun (b, p, d) => IL (tkM b d.toNat p).1) (cell' := fun (b, p, d) => (RS b ((tkM b d.toNat p).2))) (by
  rintro ⟨b, p, d⟩ ⟨b', p', d'⟩ h h2
  simp at h h2
  try simp only [and_assoc] at h
  obtain ⟨rfl, rfl⟩ := h2
  subst h
  exact ⟨rfl, rfl⟩) (b, p, d) ⟨hb, hp, h0, h3, hp2⟩
attribute [irreducible] fw_termOf
def inlTm (id : Nat) : Option FnA := if id = 177 then some fa_177b else none
theorem inlT_fok (id : Nat) (fa : FnA) (h : inlTm id = some fa) : ∃ A, FnOk Try.prog id fa A := by
  unfold inlTm at h
  split at h
  · rename_i e; injection h with h; subst h; exact ⟨_, e ▸ fok_177b⟩
  · cases h
theorem pcWI (T : List (Fam Try.prog)) (TW : List (FamW Try.prog)) {f : Nat} {fa : FnA} {A : Ann} (hf : FnOk Try.prog f fa A) {ds cs : List D} {R : D → List D → Prop}
    (h : run (CI inlTm) 0 (inlW (CI inlTm) T TW 1 0) fa.ac (retQ2 (CI inlTm).tt fa.res R) ⟨args0 0 ds, [⟨0, 0, .cells cs⟩], 1⟩) : PC Try.prog f ds (some cs) false R :=
  pc_of_run2 (C := CI inlTm) (kb := 0) hty0 Try.checked.mixed (inlW_ok (C := CI inlTm) hty0 Try.checked.mixed (by intro f fa h; exact inlT_fok f fa h) T TW 1 0) hf h
section
variable {T : List (Fam Try.prog)} {TW : List (FamW Try.prog)} {n kb kb' id : Nat} {caps args : List D} {σ : St} {d : Option Nat} {ops : List AOper} {Q : St → Prop}
theorem callOWI (hn : (id == 177) = false) (hw : (findW id TW).isSome = true) : callO (CI inlTm) kb' (inlW (CI inlTm) T TW n kb) d 16 (.fn id caps) args σ ops Q = tabW2 (findW id TW) (args ++ caps) σ.h (fun v h => opsK (CI inlTm) kb' (inlW (CI inlTm) T TW n kb) ops ⟨put σ.t d (imm 5 v), h, σ.g⟩ Q) :=
  callO16W' (by show inlTm id = none; unfold inlTm; rw [if_neg (by simpa using hn)]) hw
theorem callOT0 : callO (CI inlTm) kb' (inlW (CI inlTm) T TW 1 kb) d 16 (.fn 177 caps) args σ ops Q =
    run (CI inlTm) (kb + 4000) (inlW (CI inlTm) T TW 0 (kb + 4000)) fa_177b.ac (inlQ (CI inlTm).tt fa_177b.res (backK (CI inlTm) kb' (inlW (CI inlTm) T TW 1 kb) σ.t d ops Q)) ⟨args0 0 (args ++ caps), σ.h, σ.g⟩ := callO16I (by rfl)
theorem callOTW {f : FamW Try.prog} (hw : findW id TW = some f) : callO (CI inlTm) kb' (inlW (CI inlTm) T TW 0 kb) d 16 (.fn id caps) args σ ops Q = tabW2 (some f) (args ++ caps) σ.h (fun v h => opsK (CI inlTm) kb' (inlW (CI inlTm) T TW 0 kb) ops ⟨put σ.t d (imm 5 v), h, σ.g⟩ Q) := by
  show tabW T TW id (args ++ caps) σ.h σ.g (fun v h g => opsK (CI inlTm) kb' (inlW (CI inlTm) T TW 0 kb) ops ⟨put σ.t d v, h, g⟩ Q) = _
  unfold tabW
  rw [hw]
end

def dep4 (b : List Int) (p : Nat) : Int := gi [2, 3, 1, 0] (pkM b p 4).toNat
theorem dep4_rng {b : List Int} (hb : BB b) {p : Nat} (hp : p ≤ 1000000) : 0 ≤ dep4 b p ∧ dep4 b p ≤ 3 := by
  have h := pkM_rng hb (p := p) (by omega) (n := 4) (by omega)
  unfold dep4
  generalize pkM b p 4 = k at *
  have : k = 0 ∨ k = 1 ∨ k = 2 ∨ k = 3 := by omega
  rcases this with rfl | rfl | rfl | rfl <;> simp [gi]
/-- Numbers that may be no term, and how many numbers have been drawn. -/
def stT (b : List Int) (l : List Int) (q : Nat) : List Int × Nat :=
  if pkM b q 30 = 0 then (l ++ [0], q + 1)
  else if pkM b q 30 = 1 then (l.set (pkM b (q + 1) l.length).toNat (gi [3, 17, -1, 12] (pkM b (q + 2) 4).toNat), q + 3)
  else if pkM b q 30 = 2 then (l.tail, q + 1)
  else (l, q + 1)
def stM (b : List Int) (p : Nat) : List Int × Nat := stT b (tkM b (dep4 b p).toNat (p + 1)).1 (tkM b (dep4 b p).toNat (p + 1)).2
def st0 : AC := match fa_138.ac with | .seq x _ => x | x => x
def st1 : AC := match fa_138.ac with | .seq _ (.seq x _) => x | x => x
def st2 : AC := match fa_138.ac with | .seq _ (.seq _ x) => x | x => x
theorem st_split : fa_138.ac = .seq st0 (.seq st1 st2) := rfl
set_option maxHeartbeats 4000000 in
theorem st_rest {b : List Int} (hb : BB b) {k g g2 q : Nat} {l : List Int} (hk : k = 4136 ∨ k = 4168 ∨ k = 4280) (h1 : 1 ≤ l.length) (h15 : l.length ≤ 15) (hq : q ≤ 900000) :
    run (CI inlTm) 0 (inlW (CI inlTm) [] [fw_pick, fw_one, fw_termOf] 1 0) st2 (retQ2 (CI inlTm).tt fa_138.res (fun r c => imm 5 r = imm 5 (IL (stT b l q).1) ∧ c = RS b (stT b l q).2)) ⟨[(0, .ptr 0 0 0), (3, .arr k g)], [⟨k, g, .arr 1 (ints l)⟩, ⟨0, 0, .cells (RS b q)⟩], g2⟩ := by
  have l0 := fw_pick_look b q 30 hb (by omega) (by omega)
  have l1 := fw_pick_look b (q + 1) l.length hb (by omega) (by omega)
  have l2 : fw_one.look [.ptr 0 0 0, .list 1 [.int .i64 3, .int .i64 17, .int .i64 (-1), .int .i64 12]] (RS b (q + 2)) = some (I64 (gi [3, 17, -1, 12] (pkM b (q + 2) 4).toNat), RS b (q + 3)) := fw_one_look b (q + 2) [3, 17, -1, 12] hb (by omega) (by unfold Big; simp) (by simp)
  rw [show q + 1 + 1 = q + 2 from rfl] at l1
  have hr := pkM_rng hb (p := q + 1) (by omega) (n := l.length) (by omega)
  have hne : ¬ l = [] := fun e => by rw [e] at h1; simp at h1
  unfold stT
  generalize pkM b (q + 1) l.length = k2 at *
  generalize gi [3, 17, -1, 12] (pkM b (q + 2) 4).toNat = z at *
  have hset : (ints l).set k2.toNat (I64 z) = ints (l.set k2.toNat z) := by simp [ints, List.map_set]
  have hkn : k2.toNat < l.length := by omega
  have hb1 : l.length + 1 ≤ big := le_big (by omega)
  rcases hk with rfl | rfl | rfl
  all_goals
    by_cases c0 : pkM b q 30 = 0
    · simp [st2, fa_138, callOWI, l0, c0, hb1]
    · by_cases c1 : pkM b q 30 = 1
      · simp [st2, fa_138, callOWI, l0, l1, l2, hr, hkn, hset, c0, c1, rg4]
      · by_cases c2 : pkM b q 30 = 2
        · simp [st2, fa_138, callOWI, l0, c0, c1, c2, h1]
          exact ⟨by omega, by cases l <;> rfl⟩
        · simp [st2, fa_138, callOWI, l0, c0, c1, c2]
set_option maxHeartbeats 4000000 in
theorem someT_pc (b : List Int) (p : Nat) (hb : BB b) (hp : p ≤ 1000000) (hp2 : p ≤ 800000) : PC Try.prog 138 (.ptr 0 0 0 :: []) (some (RS b p)) false (fun r c => imm 5 r = imm 5 (IL (stM b p).1) ∧ c = (RS b ((stM b p).2))) := by
  have hr := dep4_rng hb (p := p) (by omega)
  have l1 : fw_one.look [.ptr 0 0 0, .list 1 [.int .i64 2, .int .i64 3, .int .i64 1, .int .i64 0]] (RS b p) = some (I64 (dep4 b p), RS b (p + 1)) := fw_one_look b p [2, 3, 1, 0] hb (by omega) (by unfold Big; simp) (by simp)
  unfold stM
  generalize dep4 b p = d at *
  obtain ⟨d, rfl⟩ := Int.eq_ofNat_of_zero_le hr.1
  have h3 : d ≤ 3 := by omega
  simp only [Int.toNat_natCast]
  have hpow : 2 ^ d ≤ 2 ^ 3 := Nat.pow_le_pow_right (by omega) h3
  have hpow2 : 2 ^ (d + 1) ≤ 2 ^ 4 := Nat.pow_le_pow_right (by omega) (by omega)
  have hok := tkM_ok b d (p + 1)
  refine pcWI [] [fw_pick, fw_one, fw_termOf] fok_138 ?_
  rw [st_split]
  simp [st0, st1, fa_138, callOWI, l1, rg4]
  rw [callOT0]
  rcases d with _ | d
  · have l2 := tkM_one hb (p := p + 1) (by omega)
    simp [gops, fa_177b, callOTW (f := fw_one), l2, rg7]
    exact st_rest hb (k := 4136) (l := [lf7 b (p + 1)]) (q := p + 2) (.inl rfl) (by simp) (by simp) (by omega)
  · have hq := tkM_ok b d (p + 3)
    have hq3 := tkM_ok b d (p + 4)
    have hq4 := tkM_ok b d (tkM b d (p + 4)).2
    have hdp : 2 ^ (d + 1) = 2 * 2 ^ d := by rw [Nat.pow_succ]; omega
    have k1 := fw_termOf_look b (p + 3) d hb (by omega) (by omega) (by omega) (by omega)
    have k2 := fw_termOf_look b (p + 4) d hb (by omega) (by omega) (by omega) (by omega)
    have k3 := fw_termOf_look b (tkM b d (p + 4)).2 d hb (by omega) (by omega) (by omega) (by omega)
    simp only [Int.toNat_natCast] at k1 k2 k3
    have l0 := fw_pick_look b (p + 1) 4 hb (by omega) (by omega)
    have l4 := fw_pick_look b (p + 2) 5 hb (by omega) (by omega)
    have l2 := tkM_one hb (p := p + 2) (by omega)
    have l3 := tkM_sign hb (p := p + 3) (by omega)
    have w1 : IntKind.i64.wrap (d : Int) = d := wrap64 (by omega) (by omega)
    rw [show p + 1 + 1 = p + 2 from rfl] at l0
    rw [show p + 2 + 1 = p + 3 from rfl] at l4 l2
    rw [show p + 3 + 1 = p + 4 from rfl] at l3
    have et : tkM b (d + 1) (p + 1) = if pkM b (p + 1) 4 = 0 then ([lf7 b (p + 2)], p + 3) else if pkM b (p + 2) 5 = 0 then (12 :: (tkM b d (p + 3)).1, (tkM b d (p + 3)).2)
        else (sg5 b (p + 3) :: ((tkM b d (p + 4)).1 ++ (tkM b d (tkM b d (p + 4)).2).1), (tkM b d (tkM b d (p + 4)).2).2) := rfl
    rw [et]
    generalize tkM b d (tkM b d (p + 4)).2 = C at *
    generalize tkM b d (p + 4) = B at *
    generalize tkM b d (p + 3) = A at *
    by_cases c0 : pkM b (p + 1) 4 = 0
    · simp [gops, fa_177b, callOTW (f := fw_one), callOTW (f := fw_pick), l0, l2, c0, rg7, show ¬ ((d : Int) + 1 < 1) by omega]
      exact st_rest hb (k := 4136) (l := [lf7 b (p + 2)]) (q := p + 3) (.inl rfl) (by simp) (by simp) (by omega)
    · by_cases c1 : pkM b (p + 2) 5 = 0
      · simp [gops, fa_177b, callOTW (f := fw_one), callOTW (f := fw_pick), callOTW (f := fw_termOf), l0, l4, c0, c1, k1, w1, rg7, show ¬ ((d : Int) + 1 < 1) by omega]
        exact ⟨le_big (by omega), st_rest hb (k := 4168) (l := 12 :: A.1) (q := A.2) (.inr (.inl rfl)) (by simp) (by simp; omega) (by omega)⟩
      · simp [gops, fa_177b, callOTW (f := fw_one), callOTW (f := fw_pick), callOTW (f := fw_termOf), l0, l3, l4, c0, c1, k2, k3, w1, rg5, show ¬ ((d : Int) + 1 < 1) by omega]
        exact ⟨le_big (by omega), le_big (by omega), st_rest hb (k := 4280) (l := sg5 b (p + 3) :: (B.1 ++ C.1)) (q := C.2) (.inr (.inr rfl)) (by simp) (by simp; omega) (by omega)⟩
noncomputable def fw_someT : FamW Try.prog := mkFamW (X := List Int × Nat) 138 (fun (b, p) => (.ptr 0 0 0 :: [])) (fun (b, p) => (RS b p)) (fun (b, p) => (BB b) ∧ (p ≤ 1000000) ∧ (p ≤ 800000)) (fun (b, p) => IL (stM b p).1) (fun (b, p) => (RS b ((stM b p).2))) (by
  rintro ⟨b, p⟩ ⟨hb, hp, hp2⟩
  exact someT_pc b p hb hp hp2)
@[simp] theorem fw_someT_id : fw_someT.id = 138 := rfl
@[simp] theorem fw_someT_look (b : List Int) (p : Nat) (hb : BB b) (hp : p ≤ 1000000) (hp2 : p ≤ 800000) : fw_someT.look (.ptr 0 0 0 :: []) (RS b p) = some (IL (stM b p).1, (RS b ((stM b p).2))) :=
  lookG_of (X := List Int × Nat) (args := fun (b, p) => (.ptr 0 0 0 :: [])) (cell := fun (b, p) => (RS b p)) (pre := fun (b, p) => (BB b) ∧ (p ≤ 1000000) ∧ (p ≤ 800000)) (val := fun (b, p) => IL (stM b p).1) (cell' := fun (b, p) => (RS b ((stM b p).2))) (by
  rintro ⟨b, p⟩ ⟨b', p'⟩ h h2
  simp at h h2
  try simp only [and_assoc] at h
  obtain ⟨rfl, rfl⟩ := h2
  exact ⟨rfl, rfl⟩) (b, p) ⟨hb, hp, hp2⟩
attribute [irreducible] fw_someT
theorem stM_ok {b : List Int} (hb : BB b) {p : Nat} (hp : p ≤ 800000) : (stM b p).1.length ≤ 16 ∧ (stM b p).2 ≤ p + 40 := by
  have hr := dep4_rng hb (p := p) (by omega)
  unfold stM
  generalize dep4 b p = d at *
  obtain ⟨d, rfl⟩ := Int.eq_ofNat_of_zero_le hr.1
  have h3 : d ≤ 3 := by omega
  simp only [Int.toNat_natCast]
  have hpow : 2 ^ d ≤ 2 ^ 3 := Nat.pow_le_pow_right (by omega) h3
  have hpow2 : 2 ^ (d + 1) ≤ 2 ^ 4 := Nat.pow_le_pow_right (by omega) (by omega)
  have hok := tkM_ok b d (p + 1)
  generalize tkM b d (p + 1) = A at *
  unfold stT
  split
  · simp; omega
  · split
    · simp; omega
    · split
      · simp; omega
      · simp; omega
end Go.PS
end

section
-- PRINTED by gen.py: clean texts of functions, and their tie to the program.
set_option maxRecDepth 100000
namespace Go.PS
open Go.Proofs
end Go.PS
end

section
-- PRINTED by gen.py: clean texts of functions, and their tie to the program.
set_option maxRecDepth 100000
namespace Go.PS
open Go.Proofs
/-- spec.DrawFollows -/
def ex_72_6_1023 : Ex := .fin
def ex_72_6_511 : Ex := .one 9 ex_72_6_1023
def ex_72_6_255 : Ex := .one 8 ex_72_6_511
def ex_72_6_127 : Ex := (.alt 7 ex_72_6_255 .stop)
def ex_72_6_126 : Ex := (.alt 0 ex_72_6_127 .stop)
def ex_72_6_63 : Ex := (.alt 6 ex_72_6_127 .stop)
def ex_72_6_62 : Ex := (.alt 0 ex_72_6_63 (.alt 6 ex_72_6_126 .stop))
def ex_72_6_47 : Ex := (.alt 4 ex_72_6_63 .stop)
def ex_72_6_46 : Ex := (.alt 0 ex_72_6_47 (.alt 4 ex_72_6_62 .stop))
def ex_72_6_43 : Ex := (.alt 2 ex_72_6_47 .stop)
def ex_72_6_42 : Ex := (.alt 0 ex_72_6_43 (.alt 2 ex_72_6_46 .stop))
def ex_72_6_10 : Ex := .one 5 ex_72_6_42
def ex_72_6_2 : Ex := .one 3 ex_72_6_10
def ex_72_6_0 : Ex := .one 1 ex_72_6_2
def ro_72_6 : List AOper := [⟨some 18, (.load 27 (.t 6)), 27, none, 0⟩, ⟨some 19, (.mv (.t 7)), 23, none, 0⟩, ⟨some 20, (.bslice 23 1 [(0, (.c (.int .i64 15)))]), 23, none, 1⟩, ⟨some 21, (.mv (.t 7)), 23, none, 0⟩, ⟨some 22, (.app 23 23 (.t 20) (.t 21)), 23, none, 0⟩, ⟨some 23, (.mv (.t 7)), 23, none, 0⟩, ⟨some 24, (.app 23 23 (.t 22) (.t 23)), 23, none, 2⟩, ⟨none, (.store 27 (.t 2) (.t 18)), 0, none, 0⟩, ⟨some 3, (.mv (.t 19)), 23, none, 0⟩, ⟨some 4, (.mv (.t 24)), 23, none, 0⟩]
theorem ro_72_6_0 : ro_72_6[0]? = some ⟨some 18, (.load 27 (.t 6)), 27, none, 0⟩ := (rfl)
theorem ro_72_6_1 : ro_72_6[1]? = some ⟨some 19, (.mv (.t 7)), 23, none, 0⟩ := (rfl)
theorem ro_72_6_2 : ro_72_6[2]? = some ⟨some 20, (.bslice 23 1 [(0, (.c (.int .i64 15)))]), 23, none, 1⟩ := (rfl)
theorem ro_72_6_3 : ro_72_6[3]? = some ⟨some 21, (.mv (.t 7)), 23, none, 0⟩ := (rfl)
theorem ro_72_6_4 : ro_72_6[4]? = some ⟨some 22, (.app 23 23 (.t 20) (.t 21)), 23, none, 0⟩ := (rfl)
theorem ro_72_6_5 : ro_72_6[5]? = some ⟨some 23, (.mv (.t 7)), 23, none, 0⟩ := (rfl)
theorem ro_72_6_6 : ro_72_6[6]? = some ⟨some 24, (.app 23 23 (.t 22) (.t 23)), 23, none, 2⟩ := (rfl)
theorem ro_72_6_7 : ro_72_6[7]? = some ⟨none, (.store 27 (.t 2) (.t 18)), 0, none, 0⟩ := (rfl)
theorem ro_72_6_8 : ro_72_6[8]? = some ⟨some 3, (.mv (.t 19)), 23, none, 0⟩ := (rfl)
theorem ro_72_6_9 : ro_72_6[9]? = some ⟨some 4, (.mv (.t 24)), 23, none, 0⟩ := (rfl)
def ex_72_8_2047 : Ex := .fin
def ex_72_8_1023 : Ex := .one 10 ex_72_8_2047
def ex_72_8_511 : Ex := .one 9 ex_72_8_1023
def ex_72_8_255 : Ex := (.alt 8 ex_72_8_511 .stop)
def ex_72_8_254 : Ex := (.alt 0 ex_72_8_255 .stop)
def ex_72_8_127 : Ex := (.alt 7 ex_72_8_255 .stop)
def ex_72_8_126 : Ex := (.alt 0 ex_72_8_127 (.alt 7 ex_72_8_254 .stop))
def ex_72_8_63 : Ex := (.alt 6 ex_72_8_127 .stop)
def ex_72_8_62 : Ex := (.alt 0 ex_72_8_63 (.alt 6 ex_72_8_126 .stop))
def ex_72_8_47 : Ex := (.alt 4 ex_72_8_63 .stop)
def ex_72_8_46 : Ex := (.alt 0 ex_72_8_47 (.alt 4 ex_72_8_62 .stop))
def ex_72_8_43 : Ex := (.alt 2 ex_72_8_47 .stop)
def ex_72_8_42 : Ex := (.alt 0 ex_72_8_43 (.alt 2 ex_72_8_46 .stop))
def ex_72_8_10 : Ex := .one 5 ex_72_8_42
def ex_72_8_2 : Ex := .one 3 ex_72_8_10
def ex_72_8_0 : Ex := .one 1 ex_72_8_2
def ro_72_8 : List AOper := [⟨some 27, (.load 27 (.t 6)), 27, none, 0⟩, ⟨some 28, (.mv (.t 7)), 23, none, 0⟩, ⟨some 29, (.bslice 23 1 [(0, (.c (.int .i64 14)))]), 23, none, 1⟩, ⟨some 30, (.mv (.t 7)), 23, none, 0⟩, ⟨some 31, (.app 23 23 (.t 29) (.t 30)), 23, none, 0⟩, ⟨some 32, (.mv (.t 5)), 72, none, 0⟩, ⟨some 33, (.call (.f 138) [(.t 32)]), 23, none, 16⟩, ⟨some 34, (.app 23 23 (.t 31) (.t 33)), 23, none, 2⟩, ⟨none, (.store 27 (.t 2) (.t 27)), 0, none, 0⟩, ⟨some 3, (.mv (.t 28)), 23, none, 0⟩, ⟨some 4, (.mv (.t 34)), 23, none, 0⟩]
theorem ro_72_8_0 : ro_72_8[0]? = some ⟨some 27, (.load 27 (.t 6)), 27, none, 0⟩ := (rfl)
theorem ro_72_8_1 : ro_72_8[1]? = some ⟨some 28, (.mv (.t 7)), 23, none, 0⟩ := (rfl)
theorem ro_72_8_2 : ro_72_8[2]? = some ⟨some 29, (.bslice 23 1 [(0, (.c (.int .i64 14)))]), 23, none, 1⟩ := (rfl)
theorem ro_72_8_3 : ro_72_8[3]? = some ⟨some 30, (.mv (.t 7)), 23, none, 0⟩ := (rfl)
theorem ro_72_8_4 : ro_72_8[4]? = some ⟨some 31, (.app 23 23 (.t 29) (.t 30)), 23, none, 0⟩ := (rfl)
theorem ro_72_8_5 : ro_72_8[5]? = some ⟨some 32, (.mv (.t 5)), 72, none, 0⟩ := (rfl)
theorem ro_72_8_6 : ro_72_8[6]? = some ⟨some 33, (.call (.f 138) [(.t 32)]), 23, none, 16⟩ := (rfl)
theorem ro_72_8_7 : ro_72_8[7]? = some ⟨some 34, (.app 23 23 (.t 31) (.t 33)), 23, none, 2⟩ := (rfl)
theorem ro_72_8_8 : ro_72_8[8]? = some ⟨none, (.store 27 (.t 2) (.t 27)), 0, none, 0⟩ := (rfl)
theorem ro_72_8_9 : ro_72_8[9]? = some ⟨some 3, (.mv (.t 28)), 23, none, 0⟩ := (rfl)
theorem ro_72_8_10 : ro_72_8[10]? = some ⟨some 4, (.mv (.t 34)), 23, none, 0⟩ := (rfl)
def ex_72_9_127 : Ex := .fin
def ex_72_9_63 : Ex := .one 6 ex_72_9_127
def ex_72_9_31 : Ex := .one 5 ex_72_9_63
def ex_72_9_15 : Ex := (.alt 4 ex_72_9_31 .stop)
def ex_72_9_14 : Ex := (.alt 0 ex_72_9_15 .stop)
def ex_72_9_7 : Ex := (.alt 3 ex_72_9_15 .stop)
def ex_72_9_6 : Ex := (.alt 0 ex_72_9_7 (.alt 3 ex_72_9_14 .stop))
def ex_72_9_2 : Ex := .one 2 ex_72_9_6
def ex_72_9_0 : Ex := .one 1 ex_72_9_2
def ro_72_9 : List AOper := [⟨some 35, (.load 27 (.t 6)), 27, none, 0⟩, ⟨some 36, (.mv (.t 7)), 23, none, 0⟩, ⟨some 37, (.mv (.t 5)), 72, none, 0⟩, ⟨some 38, (.call (.f 138) [(.t 37)]), 23, none, 16⟩, ⟨none, (.store 27 (.t 2) (.t 35)), 0, none, 0⟩, ⟨some 3, (.mv (.t 36)), 23, none, 0⟩, ⟨some 4, (.mv (.t 38)), 23, none, 0⟩]
theorem ro_72_9_0 : ro_72_9[0]? = some ⟨some 35, (.load 27 (.t 6)), 27, none, 0⟩ := (rfl)
theorem ro_72_9_1 : ro_72_9[1]? = some ⟨some 36, (.mv (.t 7)), 23, none, 0⟩ := (rfl)
theorem ro_72_9_2 : ro_72_9[2]? = some ⟨some 37, (.mv (.t 5)), 72, none, 0⟩ := (rfl)
theorem ro_72_9_3 : ro_72_9[3]? = some ⟨some 38, (.call (.f 138) [(.t 37)]), 23, none, 16⟩ := (rfl)
theorem ro_72_9_4 : ro_72_9[4]? = some ⟨none, (.store 27 (.t 2) (.t 35)), 0, none, 0⟩ := (rfl)
theorem ro_72_9_5 : ro_72_9[5]? = some ⟨some 3, (.mv (.t 36)), 23, none, 0⟩ := (rfl)
theorem ro_72_9_6 : ro_72_9[6]? = some ⟨some 4, (.mv (.t 38)), 23, none, 0⟩ := (rfl)
def an_72 : Ann := ⟨[(1, 1, 16), (2, 1, 16), (3, 1, 16), (4, 1, 16), (6, 2, 1), (6, 6, 2), (8, 2, 1), (8, 6, 16), (8, 7, 2), (9, 3, 16)], [(0, [0, 2]), (1, [2, 5]), (2, [2, 5, 6]), (3, [2, 5, 6, 7]), (4, [2, 5, 6, 7, 15]), (5, [2, 5, 6, 7, 15, 16]), (6, [2, 3, 4]), (7, [2, 5, 6, 7, 25]), (8, [2, 3, 4]), (9, [2, 3, 4])], [], [(6, ex_72_6_0, [16, 88, 104, 160, 176, 192, 232, 248, 272, 304]), (8, ex_72_8_0, [16, 88, 104, 160, 176, 192, 232, 248, 272, 304]), (9, ex_72_9_0, [16, 88, 104, 160, 176, 192, 232, 248, 272, 304])]⟩
def fa_72 : FnA := ⟨39, [.c 2 27, .t 3, .t 4],
  (.seq
    (.region false [⟨some 2, (.alloc 27), 0, none, 0⟩, ⟨some 3, (.mv (.c .nil)), 23, none, 0⟩, ⟨some 4, (.mv (.c .nil)), 23, none, 0⟩] (some [0, 2]))
    (.seq
      (.region false [⟨some 8, (.mv (.t 0)), 22, none, 0⟩, ⟨some 9, (.call (.f 90) [(.t 8)]), 72, none, 16⟩, ⟨some 5, (.mv (.t 9)), 72, none, 0⟩] (some [2, 5]))
      (.seq
        (.region false [⟨some 10, (.mv (.t 5)), 72, none, 0⟩, ⟨some 11, (.call (.f 105) [(.t 10)]), 27, none, 16⟩, ⟨some 6, (.alloc 27), 0, none, 0⟩, ⟨none, (.store 27 (.t 6) (.t 11)), 0, none, 0⟩] (some [2, 5, 6]))
        (.seq
          (.region false [⟨some 12, (.mv (.t 5)), 72, none, 0⟩, ⟨some 13, (.call (.f 138) [(.t 12)]), 23, none, 16⟩, ⟨some 7, (.mv (.t 13)), 23, none, 0⟩] (some [2, 5, 6, 7]))
          (.seq
            (.seq
              (.region false [⟨some 14, (.mv (.t 5)), 72, none, 0⟩, ⟨some 15, (.call (.f 106) [(.t 14), (.c (.int .i64 4))]), 3, none, 16⟩] (some [2, 5, 6, 7, 15]))
              (.block 0
                (.seq
                  (.region false [⟨some 17, (.bin .eql 3 (.t 15) (.c (.int .i64 0))), 4, none, 0⟩, ⟨some 16, (.mv (.t 17)), 4, none, 0⟩] (some [2, 5, 6, 7, 15, 16]))
                  (.cond (.t 16)
                    (.seq
                      (.expl ro_72_6 ex_72_6_0 [2, 3, 4] [16, 88, 104, 160, 176, 192, 232, 248, 272, 304])
                      .ret)
                    (.seq
                      (.region false [⟨some 26, (.bin .eql 3 (.t 15) (.c (.int .i64 1))), 4, none, 0⟩, ⟨some 25, (.mv (.t 26)), 4, none, 0⟩] (some [2, 5, 6, 7, 25]))
                      (.cond (.t 25)
                        (.seq
                          (.expl ro_72_8 ex_72_8_0 [2, 3, 4] [16, 88, 104, 160, 176, 192, 232, 248, 272, 304])
                          .ret)
                        .skip))))))
            (.seq
              (.expl ro_72_9 ex_72_9_0 [2, 3, 4] [16, 88, 104, 160, 176, 192, 232, 248, 272, 304])
              .ret))))))⟩
theorem fok_72 : FnOk Try.prog 72 fa_72 an_72 := ⟨Try.f72, _, Try.func72, rfl, by kernel_rfl, rfl, rfl, by decide, by kernel_rfl⟩
/-- spec.DrawLeastPower -/
def an_80 : Ann := ⟨[(1, 1, 3)], [(0, [0, 2]), (1, [2, 3, 4])], [], []⟩
def fa_80 : FnA := ⟨10, [.c 2 27, .t 3, .t 4],
  (.seq
    (.region false [⟨some 2, (.alloc 27), 0, none, 0⟩, ⟨some 3, (.mv (.c .nil)), 23, none, 0⟩, ⟨some 4, (.mv (.c .nil)), 23, none, 0⟩] (some [0, 2]))
    (.seq
      (.region false [⟨some 5, (.mv (.t 0)), 22, none, 0⟩, ⟨some 6, (.call (.f 72) [(.t 5)]), 54, none, 3⟩, ⟨some 7, (.ext (.t 6) 0), 27, none, 0⟩, ⟨some 8, (.ext (.t 6) 1), 23, none, 0⟩, ⟨some 9, (.ext (.t 6) 2), 23, none, 0⟩, ⟨none, (.store 27 (.t 2) (.t 7)), 0, none, 0⟩, ⟨some 3, (.mv (.t 8)), 23, none, 0⟩, ⟨some 4, (.mv (.t 9)), 23, none, 0⟩] (some [2, 3, 4]))
      .ret))⟩
theorem fok_80 : FnOk Try.prog 80 fa_80 an_80 := ⟨Try.f80, _, Try.func80, rfl, by kernel_rfl, rfl, rfl, by decide, by kernel_rfl⟩
/-- laws.FnLeastPower -/
def an_17 : Ann := ⟨[(3, 1, 3), (4, 3, 3), (5, 3, 3), (6, 10, 3), (6, 15, 3), (6, 20, 3), (8, 6, 3), (8, 23, 3)], [(0, [0]), (1, [0, 12]), (2, [2]), (3, [3, 4, 5]), (4, [3, 4, 5, 6, 7]), (5, [3, 4, 5, 6, 7, 8, 9]), (6, [3, 4, 5, 6, 7, 8, 9, 55]), (7, [2]), (8, [2])], [], []⟩
def fa_17 : FnA := ⟨90, [.t 2],
  (.seq
    (.region false [⟨some 2, (.mv (.c (.bool false))), 4, none, 0⟩] (some [0]))
    (.seq
      (.seq
        (.region false [⟨some 10, (.mv (.t 0)), 22, none, 0⟩, ⟨some 11, (.len 22 (.t 10)), 3, none, 0⟩, ⟨some 12, (.bin .gtr 3 (.t 11) (.c (.int .i64 1048576))), 4, none, 0⟩] (some [0, 12]))
        (.cond (.t 12)
          (.seq
            (.region false [⟨some 2, (.mv (.c (.bool true))), 4, none, 0⟩] (some [2]))
            .ret)
          .skip))
      (.seq
        (.region false [⟨some 14, (.mv (.t 0)), 22, none, 0⟩, ⟨some 15, (.call (.f 80) [(.t 14)]), 54, none, 3⟩, ⟨some 13, (.mv (.t 15)), 54, none, 0⟩, ⟨some 16, (.ext (.t 13) 0), 27, none, 0⟩, ⟨some 17, (.ext (.t 13) 1), 23, none, 0⟩, ⟨some 18, (.ext (.t 13) 2), 23, none, 0⟩, ⟨some 3, (.alloc 27), 0, none, 0⟩, ⟨none, (.store 27 (.t 3) (.t 16)), 0, none, 0⟩, ⟨some 4, (.mv (.t 17)), 23, none, 0⟩, ⟨some 5, (.mv (.t 18)), 23, none, 0⟩] (some [3, 4, 5]))
        (.seq
          (.region false [⟨some 20, (.load 27 (.t 3)), 27, none, 0⟩, ⟨some 21, (.mv (.t 4)), 23, none, 0⟩, ⟨some 22, (.mv (.t 5)), 23, none, 0⟩, ⟨some 23, (.call (.f 81) [(.t 20), (.t 21), (.t 22)]), 48, none, 3⟩, ⟨some 19, (.mv (.t 23)), 48, none, 0⟩, ⟨some 24, (.ext (.t 19) 0), 3, none, 0⟩, ⟨some 25, (.ext (.t 19) 1), 4, none, 0⟩, ⟨some 6, (.mv (.t 24)), 3, none, 0⟩, ⟨some 7, (.mv (.t 25)), 4, none, 0⟩] (some [3, 4, 5, 6, 7]))
          (.seq
            (.region false [⟨some 27, (.load 27 (.t 3)), 27, none, 0⟩, ⟨some 28, (.mv (.t 4)), 23, none, 0⟩, ⟨some 29, (.mv (.t 5)), 23, none, 0⟩, ⟨some 30, (.call (.f 82) [(.t 27), (.t 28), (.t 29)]), 48, none, 3⟩, ⟨some 26, (.mv (.t 30)), 48, none, 0⟩, ⟨some 31, (.ext (.t 26) 0), 3, none, 0⟩, ⟨some 32, (.ext (.t 26) 1), 4, none, 0⟩, ⟨some 8, (.mv (.t 31)), 3, none, 0⟩, ⟨some 9, (.mv (.t 32)), 4, none, 0⟩] (some [3, 4, 5, 6, 7, 8, 9]))
            (.seq
              (.seq
                (.region false (gops (seg [3, 4, 5, 6, 7, 8, 9, 41, 42] [⟨some 33, (.mv (.t 6)), 3, none, 0⟩, ⟨some 34, (.mv (.t 8)), 3, none, 0⟩, ⟨some 35, (.bin .neq 3 (.t 33) (.t 34)), 4, none, 0⟩, ⟨some 36, (.mv (.t 35)), 4, none, 0⟩, ⟨some 37, (.mv (.t 7)), 4, some (36, false), 0⟩, ⟨some 38, (.mv (.t 9)), 4, some (36, false), 0⟩, ⟨some 39, (.bin .neq 4 (.t 37) (.t 38)), 4, some (36, false), 0⟩, ⟨some 40, (.pick (.t 36) (.c (.bool true)) (.t 39)), 4, none, 0⟩, ⟨some 41, (.mv (.t 40)), 4, none, 0⟩, ⟨some 42, (.load 27 (.t 3)), 27, some (41, false), 0⟩]
                [⟨some 43, (.call (.f 23) [(.t 42)]), 4, some (41, false), 3⟩, ⟨some 44, (.un .not (.t 43)), 4, some (41, false), 0⟩, ⟨some 45, (.pick (.t 41) (.c (.bool true)) (.t 44)), 4, none, 0⟩, ⟨some 46, (.mv (.t 45)), 4, none, 0⟩, ⟨some 47, (.mv (.t 4)), 23, some (46, false), 0⟩, ⟨some 48, (.call (.f 75) [(.t 47)]), 4, some (46, false), 3⟩, ⟨some 49, (.un .not (.t 48)), 4, some (46, false), 0⟩, ⟨some 50, (.pick (.t 46) (.c (.bool true)) (.t 49)), 4, none, 0⟩, ⟨some 51, (.mv (.t 50)), 4, none, 0⟩, ⟨some 52, (.mv (.t 5)), 23, some (51, false), 0⟩, ⟨some 53, (.call (.f 75) [(.t 52)]), 4, some (51, false), 3⟩, ⟨some 54, (.un .not (.t 53)), 4, some (51, false), 0⟩, ⟨some 55, (.pick (.t 51) (.c (.bool true)) (.t 54)), 4, none, 0⟩] [3, 4, 5, 6, 7, 8, 9, 55] (by decide))) (some [3, 4, 5, 6, 7, 8, 9, 55]))
                (.cond (.t 55)
                  (.seq
                    (.region false (gops [⟨some 56, (.mv (.t 6)), 3, none, 0⟩, ⟨some 57, (.mv (.t 8)), 3, none, 0⟩, ⟨some 58, (.bin .eql 3 (.t 56) (.t 57)), 4, none, 0⟩, ⟨some 59, (.mv (.t 58)), 4, none, 0⟩, ⟨some 60, (.mv (.t 7)), 4, some (59, true), 0⟩, ⟨some 61, (.mv (.t 9)), 4, some (59, true), 0⟩, ⟨some 62, (.bin .eql 4 (.t 60) (.t 61)), 4, some (59, true), 0⟩, ⟨some 63, (.pick (.t 59) (.t 62) (.c (.bool false))), 4, none, 0⟩, ⟨some 2, (.mv (.t 63)), 4, none, 0⟩]) (some [2]))
                    .ret)
                  .skip))
              (.seq
                (.region false (gops (seg [3, 5, 6, 7, 66, 71, 72, 73] [⟨some 64, (.mv (.t 7)), 4, none, 0⟩, ⟨some 65, (.un .not (.t 64)), 4, none, 0⟩, ⟨some 66, (.mv (.t 65)), 4, none, 0⟩, ⟨some 67, (.load 27 (.t 3)), 27, some (66, false), 0⟩, ⟨some 68, (.mv (.t 4)), 23, some (66, false), 0⟩, ⟨some 69, (.mv (.t 5)), 23, some (66, false), 0⟩, ⟨some 70, (.call (.f 73) [(.t 67), (.t 68), (.t 69)]), 4, some (66, false), 3⟩, ⟨some 71, (.mv (.t 70)), 4, some (66, false), 0⟩, ⟨some 72, (.mv (.t 6)), 3, some (71, true), 0⟩, ⟨some 73, (.faddr 27 (.t 3) 0), 0, some (71, true), 0⟩]
                (seg [3, 5, 79, 81, 83] [⟨some 74, (.load 23 (.t 73)), 23, some (71, true), 0⟩, ⟨some 75, (.len 23 (.t 74)), 3, some (71, true), 0⟩, ⟨some 76, (.bin .leq 3 (.t 72) (.t 75)), 4, some (71, true), 0⟩, ⟨some 77, (.pick (.t 71) (.t 76) (.c (.bool false))), 4, some (66, false), 0⟩, ⟨some 78, (.pick (.t 66) (.c (.bool true)) (.t 77)), 4, none, 0⟩, ⟨some 79, (.mv (.t 78)), 4, none, 0⟩, ⟨some 80, (.mv (.t 7)), 4, some (79, true), 0⟩, ⟨some 81, (.mv (.t 80)), 4, some (79, true), 0⟩, ⟨some 82, (.mv (.t 6)), 3, some (81, true), 0⟩, ⟨some 83, (.bin .eql 3 (.t 82) (.c (.int .i64 0))), 4, some (81, true), 0⟩]
                [⟨some 84, (.pick (.t 81) (.t 83) (.c (.bool false))), 4, some (79, true), 0⟩, ⟨some 85, (.load 27 (.t 3)), 27, some (79, true), 0⟩, ⟨some 86, (.mv (.t 5)), 23, some (79, true), 0⟩, ⟨some 87, (.call (.f 76) [(.t 85), (.t 86)]), 4, some (79, true), 3⟩, ⟨some 88, (.bin .eql 4 (.t 84) (.t 87)), 4, some (79, true), 0⟩, ⟨some 89, (.pick (.t 79) (.t 88) (.c (.bool false))), 4, none, 0⟩, ⟨some 2, (.mv (.t 89)), 4, none, 0⟩] [2] (by decide)) [2] (by decide))) (some [2]))
                .ret)))))))⟩
theorem fok_17 : FnOk Try.prog 17 fa_17 an_17 := ⟨Try.f17, _, Try.func17, rfl, by kernel_rfl, rfl, rfl, by decide, by kernel_rfl⟩
end Go.PS
end

section
-- PRINTED by mkdraw2.py: draws.
set_option maxRecDepth 100000
set_option linter.unusedVariables false
set_option linter.unusedSimpArgs false
namespace Go.PS
open Go.Proofs
set_option maxHeartbeats 4000000 in
theorem fol_dag6 {Q : St → Prop} {b : List Int} {p : Nat} {u : List Int} {t : List (List Int)} {y : List Int} (hy : 1 + y.length ≤ big) (hy2 : y.length + 1 + y.length ≤ big)
    (hQ : ∀ tb g, getT tb 2 = .ptr 16 1 0 → getT tb 3 = IL y → getT tb 4 = .list 1 (.int .i64 15 :: ints (y ++ y)) → Q ⟨tb, [⟨48, 3, .cells [IL u, RL t]⟩, ⟨4080, 2, .cells (RS b (p))⟩, ⟨16, 1, .cells [IL u, RL t]⟩], g⟩) : ∀ tb g, getT tb 2 = .ptr 16 1 0 → getT tb 5 = .ptr 4080 2 0 → getT tb 6 = .ptr 48 3 0 → getT tb 7 = IL y → exT (CI inlR) 0 (inlW (CI inlR) [] [fw_someAlg, fw_pick, fw_someT] 1 0) ro_72_6 Q ex_72_6_0 ⟨tb, [⟨48, 3, .cells [IL u, RL t]⟩, ⟨4080, 2, .cells (RS b (p))⟩, ⟨16, 1, .cells [.nil, .nil]⟩], g⟩ := by
  have n1023 : ∀ tb g, getT tb 2 = .ptr 16 1 0 → getT tb 5 = .ptr 4080 2 0 → getT tb 6 = .ptr 48 3 0 → getT tb 7 = IL y → getT tb 18 = AL u t → getT tb 19 = IL y → getT tb 21 = IL y → getT tb 23 = IL y → getT tb 24 = .list 1 (.int .i64 15 :: ints (y ++ y)) → getT tb 3 = IL y → getT tb 4 = .list 1 (.int .i64 15 :: ints (y ++ y)) → exT (CI inlR) 0 (inlW (CI inlR) [] [fw_someAlg, fw_pick, fw_someT] 1 0) ro_72_6 Q ex_72_6_1023 ⟨tb, [⟨48, 3, .cells [IL u, RL t]⟩, ⟨4080, 2, .cells (RS b (p))⟩, ⟨16, 1, .cells [IL u, RL t]⟩], g⟩ := by
    intro tb g e2 e5 e6 e7 e18 e19 e21 e23 e24 e3 e4
    unfold ex_72_6_1023
    exact hQ tb g e2 e3 e4
  have n511 : ∀ tb g, getT tb 2 = .ptr 16 1 0 → getT tb 5 = .ptr 4080 2 0 → getT tb 6 = .ptr 48 3 0 → getT tb 7 = IL y → getT tb 18 = AL u t → getT tb 19 = IL y → getT tb 21 = IL y → getT tb 23 = IL y → getT tb 24 = .list 1 (.int .i64 15 :: ints (y ++ y)) → getT tb 3 = IL y → exT (CI inlR) 0 (inlW (CI inlR) [] [fw_someAlg, fw_pick, fw_someT] 1 0) ro_72_6 Q ex_72_6_511 ⟨tb, [⟨48, 3, .cells [IL u, RL t]⟩, ⟨4080, 2, .cells (RS b (p))⟩, ⟨16, 1, .cells [IL u, RL t]⟩], g⟩ := by
    intro tb g e2 e5 e6 e7 e18 e19 e21 e23 e24 e3
    unfold ex_72_6_511
    simp only [exT_alt, exT_one, exT_stop, and_true]
    rw [ro_72_6_9]
    simp [hy, hy2, e2, e5, e6, e7, e18, e19, e21, e23, e24, e3]
    refine n1023 _ _ ?_ ?_ ?_ ?_ ?_ ?_ ?_ ?_ ?_ ?_ ?_ <;> simp [getT, e2, e5, e6, e7, e18, e19, e21, e23, e24, e3]
  have n255 : ∀ tb g, getT tb 2 = .ptr 16 1 0 → getT tb 5 = .ptr 4080 2 0 → getT tb 6 = .ptr 48 3 0 → getT tb 7 = IL y → getT tb 18 = AL u t → getT tb 19 = IL y → getT tb 21 = IL y → getT tb 23 = IL y → getT tb 24 = .list 1 (.int .i64 15 :: ints (y ++ y)) → exT (CI inlR) 0 (inlW (CI inlR) [] [fw_someAlg, fw_pick, fw_someT] 1 0) ro_72_6 Q ex_72_6_255 ⟨tb, [⟨48, 3, .cells [IL u, RL t]⟩, ⟨4080, 2, .cells (RS b (p))⟩, ⟨16, 1, .cells [IL u, RL t]⟩], g⟩ := by
    intro tb g e2 e5 e6 e7 e18 e19 e21 e23 e24
    unfold ex_72_6_255
    simp only [exT_alt, exT_one, exT_stop, and_true]
    rw [ro_72_6_8]
    simp [hy, hy2, e2, e5, e6, e7, e18, e19, e21, e23, e24]
    refine n511 _ _ ?_ ?_ ?_ ?_ ?_ ?_ ?_ ?_ ?_ ?_ <;> simp [getT, e2, e5, e6, e7, e18, e19, e21, e23, e24]
  have n127 : ∀ tb g, getT tb 2 = .ptr 16 1 0 → getT tb 5 = .ptr 4080 2 0 → getT tb 6 = .ptr 48 3 0 → getT tb 7 = IL y → getT tb 18 = AL u t → getT tb 19 = IL y → getT tb 21 = IL y → getT tb 23 = IL y → getT tb 24 = .list 1 (.int .i64 15 :: ints (y ++ y)) → exT (CI inlR) 0 (inlW (CI inlR) [] [fw_someAlg, fw_pick, fw_someT] 1 0) ro_72_6 Q ex_72_6_127 ⟨tb, [⟨48, 3, .cells [IL u, RL t]⟩, ⟨4080, 2, .cells (RS b (p))⟩, ⟨16, 1, .cells [.nil, .nil]⟩], g⟩ := by
    intro tb g e2 e5 e6 e7 e18 e19 e21 e23 e24
    unfold ex_72_6_127
    simp only [exT_alt, exT_one, exT_stop, and_true]
    rw [ro_72_6_7]
    simp [hy, hy2, e2, e5, e6, e7, e18, e19, e21, e23, e24]
    refine n255 _ _ ?_ ?_ ?_ ?_ ?_ ?_ ?_ ?_ ?_ <;> simp [getT, e2, e5, e6, e7, e18, e19, e21, e23, e24]
  have n126 : ∀ tb g, getT tb 2 = .ptr 16 1 0 → getT tb 5 = .ptr 4080 2 0 → getT tb 6 = .ptr 48 3 0 → getT tb 7 = IL y → getT tb 19 = IL y → getT tb 21 = IL y → getT tb 23 = IL y → getT tb 24 = .list 1 (.int .i64 15 :: ints (y ++ y)) → exT (CI inlR) 0 (inlW (CI inlR) [] [fw_someAlg, fw_pick, fw_someT] 1 0) ro_72_6 Q ex_72_6_126 ⟨tb, [⟨48, 3, .cells [IL u, RL t]⟩, ⟨4080, 2, .cells (RS b (p))⟩, ⟨16, 1, .cells [.nil, .nil]⟩], g⟩ := by
    intro tb g e2 e5 e6 e7 e19 e21 e23 e24
    unfold ex_72_6_126
    simp only [exT_alt, exT_one, exT_stop, and_true]
    rw [ro_72_6_0]
    simp [hy, hy2, e2, e5, e6, e7, e19, e21, e23, e24]
    refine n127 _ _ ?_ ?_ ?_ ?_ ?_ ?_ ?_ ?_ ?_ <;> simp [getT, e2, e5, e6, e7, e19, e21, e23, e24]
  have n63 : ∀ tb g x, getT tb 2 = .ptr 16 1 0 → getT tb 5 = .ptr 4080 2 0 → getT tb 6 = .ptr 48 3 0 → getT tb 7 = IL y → getT tb 18 = AL u t → getT tb 19 = IL y → getT tb 21 = IL y → getT tb 22 = .arr 160 x → getT tb 23 = IL y → exT (CI inlR) 0 (inlW (CI inlR) [] [fw_someAlg, fw_pick, fw_someT] 1 0) ro_72_6 Q ex_72_6_63 ⟨tb, [⟨160, x, .arr 1 (.int .i64 15 :: ints y)⟩, ⟨48, 3, .cells [IL u, RL t]⟩, ⟨4080, 2, .cells (RS b (p))⟩, ⟨16, 1, .cells [.nil, .nil]⟩], g⟩ := by
    intro tb g x e2 e5 e6 e7 e18 e19 e21 e22 e23
    unfold ex_72_6_63
    simp only [exT_alt, exT_one, exT_stop, and_true]
    rw [ro_72_6_6]
    simp [hy, hy2, e2, e5, e6, e7, e18, e19, e21, e22, e23]
    refine n127 _ _ ?_ ?_ ?_ ?_ ?_ ?_ ?_ ?_ ?_ <;> simp [getT, e2, e5, e6, e7, e18, e19, e21, e22, e23]
  have n62 : ∀ tb g x, getT tb 2 = .ptr 16 1 0 → getT tb 5 = .ptr 4080 2 0 → getT tb 6 = .ptr 48 3 0 → getT tb 7 = IL y → getT tb 19 = IL y → getT tb 21 = IL y → getT tb 22 = .arr 160 x → getT tb 23 = IL y → exT (CI inlR) 0 (inlW (CI inlR) [] [fw_someAlg, fw_pick, fw_someT] 1 0) ro_72_6 Q ex_72_6_62 ⟨tb, [⟨160, x, .arr 1 (.int .i64 15 :: ints y)⟩, ⟨48, 3, .cells [IL u, RL t]⟩, ⟨4080, 2, .cells (RS b (p))⟩, ⟨16, 1, .cells [.nil, .nil]⟩], g⟩ := by
    intro tb g x e2 e5 e6 e7 e19 e21 e22 e23
    unfold ex_72_6_62
    simp only [exT_alt, exT_one, exT_stop, and_true]
    refine ⟨?_, ?_⟩
    · rw [ro_72_6_0]
      simp [hy, hy2, e2, e5, e6, e7, e19, e21, e22, e23]
      refine n63 _ _ _ ?_ ?_ ?_ ?_ ?_ ?_ ?_ ?_ ?_ <;> simp [getT, e2, e5, e6, e7, e19, e21, e22, e23]
    · rw [ro_72_6_6]
      simp [hy, hy2, e2, e5, e6, e7, e19, e21, e22, e23]
      refine n126 _ _ ?_ ?_ ?_ ?_ ?_ ?_ ?_ ?_ <;> simp [getT, e2, e5, e6, e7, e19, e21, e22, e23]
  have n47 : ∀ tb g x, getT tb 2 = .ptr 16 1 0 → getT tb 5 = .ptr 4080 2 0 → getT tb 6 = .ptr 48 3 0 → getT tb 7 = IL y → getT tb 18 = AL u t → getT tb 19 = IL y → getT tb 20 = .arr 160 x → getT tb 21 = IL y → getT tb 23 = IL y → exT (CI inlR) 0 (inlW (CI inlR) [] [fw_someAlg, fw_pick, fw_someT] 1 0) ro_72_6 Q ex_72_6_47 ⟨tb, [⟨160, x, .arr 1 ([.int .i64 15])⟩, ⟨48, 3, .cells [IL u, RL t]⟩, ⟨4080, 2, .cells (RS b (p))⟩, ⟨16, 1, .cells [.nil, .nil]⟩], g⟩ := by
    intro tb g x e2 e5 e6 e7 e18 e19 e20 e21 e23
    unfold ex_72_6_47
    simp only [exT_alt, exT_one, exT_stop, and_true]
    rw [ro_72_6_4]
    simp [hy, hy2, e2, e5, e6, e7, e18, e19, e20, e21, e23]
    refine n63 _ _ _ ?_ ?_ ?_ ?_ ?_ ?_ ?_ ?_ ?_ <;> simp [getT, e2, e5, e6, e7, e18, e19, e20, e21, e23]
  have n46 : ∀ tb g x, getT tb 2 = .ptr 16 1 0 → getT tb 5 = .ptr 4080 2 0 → getT tb 6 = .ptr 48 3 0 → getT tb 7 = IL y → getT tb 19 = IL y → getT tb 20 = .arr 160 x → getT tb 21 = IL y → getT tb 23 = IL y → exT (CI inlR) 0 (inlW (CI inlR) [] [fw_someAlg, fw_pick, fw_someT] 1 0) ro_72_6 Q ex_72_6_46 ⟨tb, [⟨160, x, .arr 1 ([.int .i64 15])⟩, ⟨48, 3, .cells [IL u, RL t]⟩, ⟨4080, 2, .cells (RS b (p))⟩, ⟨16, 1, .cells [.nil, .nil]⟩], g⟩ := by
    intro tb g x e2 e5 e6 e7 e19 e20 e21 e23
    unfold ex_72_6_46
    simp only [exT_alt, exT_one, exT_stop, and_true]
    refine ⟨?_, ?_⟩
    · rw [ro_72_6_0]
      simp [hy, hy2, e2, e5, e6, e7, e19, e20, e21, e23]
      refine n47 _ _ _ ?_ ?_ ?_ ?_ ?_ ?_ ?_ ?_ ?_ <;> simp [getT, e2, e5, e6, e7, e19, e20, e21, e23]
    · rw [ro_72_6_4]
      simp [hy, hy2, e2, e5, e6, e7, e19, e20, e21, e23]
      refine n62 _ _ _ ?_ ?_ ?_ ?_ ?_ ?_ ?_ ?_ <;> simp [getT, e2, e5, e6, e7, e19, e20, e21, e23]
  have n43 : ∀ tb g, getT tb 2 = .ptr 16 1 0 → getT tb 5 = .ptr 4080 2 0 → getT tb 6 = .ptr 48 3 0 → getT tb 7 = IL y → getT tb 18 = AL u t → getT tb 19 = IL y → getT tb 21 = IL y → getT tb 23 = IL y → exT (CI inlR) 0 (inlW (CI inlR) [] [fw_someAlg, fw_pick, fw_someT] 1 0) ro_72_6 Q ex_72_6_43 ⟨tb, [⟨48, 3, .cells [IL u, RL t]⟩, ⟨4080, 2, .cells (RS b (p))⟩, ⟨16, 1, .cells [.nil, .nil]⟩], g⟩ := by
    intro tb g e2 e5 e6 e7 e18 e19 e21 e23
    unfold ex_72_6_43
    simp only [exT_alt, exT_one, exT_stop, and_true]
    rw [ro_72_6_2]
    simp [hy, hy2, e2, e5, e6, e7, e18, e19, e21, e23]
    refine n47 _ _ _ ?_ ?_ ?_ ?_ ?_ ?_ ?_ ?_ ?_ <;> simp [getT, e2, e5, e6, e7, e18, e19, e21, e23]
  have n42 : ∀ tb g, getT tb 2 = .ptr 16 1 0 → getT tb 5 = .ptr 4080 2 0 → getT tb 6 = .ptr 48 3 0 → getT tb 7 = IL y → getT tb 19 = IL y → getT tb 21 = IL y → getT tb 23 = IL y → exT (CI inlR) 0 (inlW (CI inlR) [] [fw_someAlg, fw_pick, fw_someT] 1 0) ro_72_6 Q ex_72_6_42 ⟨tb, [⟨48, 3, .cells [IL u, RL t]⟩, ⟨4080, 2, .cells (RS b (p))⟩, ⟨16, 1, .cells [.nil, .nil]⟩], g⟩ := by
    intro tb g e2 e5 e6 e7 e19 e21 e23
    unfold ex_72_6_42
    simp only [exT_alt, exT_one, exT_stop, and_true]
    refine ⟨?_, ?_⟩
    · rw [ro_72_6_0]
      simp [hy, hy2, e2, e5, e6, e7, e19, e21, e23]
      refine n43 _ _ ?_ ?_ ?_ ?_ ?_ ?_ ?_ ?_ <;> simp [getT, e2, e5, e6, e7, e19, e21, e23]
    · rw [ro_72_6_2]
      simp [hy, hy2, e2, e5, e6, e7, e19, e21, e23]
      refine n46 _ _ _ ?_ ?_ ?_ ?_ ?_ ?_ ?_ ?_ <;> simp [getT, e2, e5, e6, e7, e19, e21, e23]
  have n10 : ∀ tb g, getT tb 2 = .ptr 16 1 0 → getT tb 5 = .ptr 4080 2 0 → getT tb 6 = .ptr 48 3 0 → getT tb 7 = IL y → getT tb 19 = IL y → getT tb 21 = IL y → exT (CI inlR) 0 (inlW (CI inlR) [] [fw_someAlg, fw_pick, fw_someT] 1 0) ro_72_6 Q ex_72_6_10 ⟨tb, [⟨48, 3, .cells [IL u, RL t]⟩, ⟨4080, 2, .cells (RS b (p))⟩, ⟨16, 1, .cells [.nil, .nil]⟩], g⟩ := by
    intro tb g e2 e5 e6 e7 e19 e21
    unfold ex_72_6_10
    simp only [exT_alt, exT_one, exT_stop, and_true]
    rw [ro_72_6_5]
    simp [hy, hy2, e2, e5, e6, e7, e19, e21]
    refine n42 _ _ ?_ ?_ ?_ ?_ ?_ ?_ ?_ <;> simp [getT, e2, e5, e6, e7, e19, e21]
  have n2 : ∀ tb g, getT tb 2 = .ptr 16 1 0 → getT tb 5 = .ptr 4080 2 0 → getT tb 6 = .ptr 48 3 0 → getT tb 7 = IL y → getT tb 19 = IL y → exT (CI inlR) 0 (inlW (CI inlR) [] [fw_someAlg, fw_pick, fw_someT] 1 0) ro_72_6 Q ex_72_6_2 ⟨tb, [⟨48, 3, .cells [IL u, RL t]⟩, ⟨4080, 2, .cells (RS b (p))⟩, ⟨16, 1, .cells [.nil, .nil]⟩], g⟩ := by
    intro tb g e2 e5 e6 e7 e19
    unfold ex_72_6_2
    simp only [exT_alt, exT_one, exT_stop, and_true]
    rw [ro_72_6_3]
    simp [hy, hy2, e2, e5, e6, e7, e19]
    refine n10 _ _ ?_ ?_ ?_ ?_ ?_ ?_ <;> simp [getT, e2, e5, e6, e7, e19]
  have n0 : ∀ tb g, getT tb 2 = .ptr 16 1 0 → getT tb 5 = .ptr 4080 2 0 → getT tb 6 = .ptr 48 3 0 → getT tb 7 = IL y → exT (CI inlR) 0 (inlW (CI inlR) [] [fw_someAlg, fw_pick, fw_someT] 1 0) ro_72_6 Q ex_72_6_0 ⟨tb, [⟨48, 3, .cells [IL u, RL t]⟩, ⟨4080, 2, .cells (RS b (p))⟩, ⟨16, 1, .cells [.nil, .nil]⟩], g⟩ := by
    intro tb g e2 e5 e6 e7
    unfold ex_72_6_0
    simp only [exT_alt, exT_one, exT_stop, and_true]
    rw [ro_72_6_1]
    simp [hy, hy2, e2, e5, e6, e7]
    refine n2 _ _ ?_ ?_ ?_ ?_ ?_ <;> simp [getT, e2, e5, e6, e7]
  exact n0

set_option maxHeartbeats 4000000 in
theorem fol_dag8 {Q : St → Prop} {b : List Int} {p p2 : Nat} {u : List Int} {t : List (List Int)} {y z : List Int} (l0 : fw_someT.look [.ptr 0 0 0] (RS b p) = some (IL z, RS b p2)) (hy : 1 + y.length ≤ big) (hy2 : y.length + 1 + z.length ≤ big)
    (hQ : ∀ tb g, getT tb 2 = .ptr 16 1 0 → getT tb 3 = IL y → getT tb 4 = .list 1 (.int .i64 14 :: ints (y ++ z)) → Q ⟨tb, [⟨48, 3, .cells [IL u, RL t]⟩, ⟨4080, 2, .cells (RS b (p2))⟩, ⟨16, 1, .cells [IL u, RL t]⟩], g⟩) : ∀ tb g, getT tb 2 = .ptr 16 1 0 → getT tb 5 = .ptr 4080 2 0 → getT tb 6 = .ptr 48 3 0 → getT tb 7 = IL y → exT (CI inlR) 0 (inlW (CI inlR) [] [fw_someAlg, fw_pick, fw_someT] 1 0) ro_72_8 Q ex_72_8_0 ⟨tb, [⟨48, 3, .cells [IL u, RL t]⟩, ⟨4080, 2, .cells (RS b (p))⟩, ⟨16, 1, .cells [.nil, .nil]⟩], g⟩ := by
  have n2047 : ∀ tb g, getT tb 2 = .ptr 16 1 0 → getT tb 5 = .ptr 4080 2 0 → getT tb 6 = .ptr 48 3 0 → getT tb 7 = IL y → getT tb 27 = AL u t → getT tb 28 = IL y → getT tb 30 = IL y → getT tb 32 = .ptr 4080 2 0 → getT tb 33 = IL z → getT tb 34 = .list 1 (.int .i64 14 :: ints (y ++ z)) → getT tb 3 = IL y → getT tb 4 = .list 1 (.int .i64 14 :: ints (y ++ z)) → exT (CI inlR) 0 (inlW (CI inlR) [] [fw_someAlg, fw_pick, fw_someT] 1 0) ro_72_8 Q ex_72_8_2047 ⟨tb, [⟨48, 3, .cells [IL u, RL t]⟩, ⟨4080, 2, .cells (RS b (p2))⟩, ⟨16, 1, .cells [IL u, RL t]⟩], g⟩ := by
    intro tb g e2 e5 e6 e7 e27 e28 e30 e32 e33 e34 e3 e4
    unfold ex_72_8_2047
    exact hQ tb g e2 e3 e4
  have n1023 : ∀ tb g, getT tb 2 = .ptr 16 1 0 → getT tb 5 = .ptr 4080 2 0 → getT tb 6 = .ptr 48 3 0 → getT tb 7 = IL y → getT tb 27 = AL u t → getT tb 28 = IL y → getT tb 30 = IL y → getT tb 32 = .ptr 4080 2 0 → getT tb 33 = IL z → getT tb 34 = .list 1 (.int .i64 14 :: ints (y ++ z)) → getT tb 3 = IL y → exT (CI inlR) 0 (inlW (CI inlR) [] [fw_someAlg, fw_pick, fw_someT] 1 0) ro_72_8 Q ex_72_8_1023 ⟨tb, [⟨48, 3, .cells [IL u, RL t]⟩, ⟨4080, 2, .cells (RS b (p2))⟩, ⟨16, 1, .cells [IL u, RL t]⟩], g⟩ := by
    intro tb g e2 e5 e6 e7 e27 e28 e30 e32 e33 e34 e3
    unfold ex_72_8_1023
    simp only [exT_alt, exT_one, exT_stop, and_true]
    rw [ro_72_8_10]
    simp [callDOWR, l0, hy, hy2, e2, e5, e6, e7, e27, e28, e30, e32, e33, e34, e3]
    refine n2047 _ _ ?_ ?_ ?_ ?_ ?_ ?_ ?_ ?_ ?_ ?_ ?_ ?_ <;> simp [getT, e2, e5, e6, e7, e27, e28, e30, e32, e33, e34, e3]
  have n511 : ∀ tb g, getT tb 2 = .ptr 16 1 0 → getT tb 5 = .ptr 4080 2 0 → getT tb 6 = .ptr 48 3 0 → getT tb 7 = IL y → getT tb 27 = AL u t → getT tb 28 = IL y → getT tb 30 = IL y → getT tb 32 = .ptr 4080 2 0 → getT tb 33 = IL z → getT tb 34 = .list 1 (.int .i64 14 :: ints (y ++ z)) → exT (CI inlR) 0 (inlW (CI inlR) [] [fw_someAlg, fw_pick, fw_someT] 1 0) ro_72_8 Q ex_72_8_511 ⟨tb, [⟨48, 3, .cells [IL u, RL t]⟩, ⟨4080, 2, .cells (RS b (p2))⟩, ⟨16, 1, .cells [IL u, RL t]⟩], g⟩ := by
    intro tb g e2 e5 e6 e7 e27 e28 e30 e32 e33 e34
    unfold ex_72_8_511
    simp only [exT_alt, exT_one, exT_stop, and_true]
    rw [ro_72_8_9]
    simp [callDOWR, l0, hy, hy2, e2, e5, e6, e7, e27, e28, e30, e32, e33, e34]
    refine n1023 _ _ ?_ ?_ ?_ ?_ ?_ ?_ ?_ ?_ ?_ ?_ ?_ <;> simp [getT, e2, e5, e6, e7, e27, e28, e30, e32, e33, e34]
  have n255 : ∀ tb g, getT tb 2 = .ptr 16 1 0 → getT tb 5 = .ptr 4080 2 0 → getT tb 6 = .ptr 48 3 0 → getT tb 7 = IL y → getT tb 27 = AL u t → getT tb 28 = IL y → getT tb 30 = IL y → getT tb 32 = .ptr 4080 2 0 → getT tb 33 = IL z → getT tb 34 = .list 1 (.int .i64 14 :: ints (y ++ z)) → exT (CI inlR) 0 (inlW (CI inlR) [] [fw_someAlg, fw_pick, fw_someT] 1 0) ro_72_8 Q ex_72_8_255 ⟨tb, [⟨48, 3, .cells [IL u, RL t]⟩, ⟨4080, 2, .cells (RS b (p2))⟩, ⟨16, 1, .cells [.nil, .nil]⟩], g⟩ := by
    intro tb g e2 e5 e6 e7 e27 e28 e30 e32 e33 e34
    unfold ex_72_8_255
    simp only [exT_alt, exT_one, exT_stop, and_true]
    rw [ro_72_8_8]
    simp [callDOWR, l0, hy, hy2, e2, e5, e6, e7, e27, e28, e30, e32, e33, e34]
    refine n511 _ _ ?_ ?_ ?_ ?_ ?_ ?_ ?_ ?_ ?_ ?_ <;> simp [getT, e2, e5, e6, e7, e27, e28, e30, e32, e33, e34]
  have n254 : ∀ tb g, getT tb 2 = .ptr 16 1 0 → getT tb 5 = .ptr 4080 2 0 → getT tb 6 = .ptr 48 3 0 → getT tb 7 = IL y → getT tb 28 = IL y → getT tb 30 = IL y → getT tb 32 = .ptr 4080 2 0 → getT tb 33 = IL z → getT tb 34 = .list 1 (.int .i64 14 :: ints (y ++ z)) → exT (CI inlR) 0 (inlW (CI inlR) [] [fw_someAlg, fw_pick, fw_someT] 1 0) ro_72_8 Q ex_72_8_254 ⟨tb, [⟨48, 3, .cells [IL u, RL t]⟩, ⟨4080, 2, .cells (RS b (p2))⟩, ⟨16, 1, .cells [.nil, .nil]⟩], g⟩ := by
    intro tb g e2 e5 e6 e7 e28 e30 e32 e33 e34
    unfold ex_72_8_254
    simp only [exT_alt, exT_one, exT_stop, and_true]
    rw [ro_72_8_0]
    simp [callDOWR, l0, hy, hy2, e2, e5, e6, e7, e28, e30, e32, e33, e34]
    refine n255 _ _ ?_ ?_ ?_ ?_ ?_ ?_ ?_ ?_ ?_ ?_ <;> simp [getT, e2, e5, e6, e7, e28, e30, e32, e33, e34]
  have n127 : ∀ tb g x, getT tb 2 = .ptr 16 1 0 → getT tb 5 = .ptr 4080 2 0 → getT tb 6 = .ptr 48 3 0 → getT tb 7 = IL y → getT tb 27 = AL u t → getT tb 28 = IL y → getT tb 30 = IL y → getT tb 31 = .arr 232 x → getT tb 32 = .ptr 4080 2 0 → getT tb 33 = IL z → exT (CI inlR) 0 (inlW (CI inlR) [] [fw_someAlg, fw_pick, fw_someT] 1 0) ro_72_8 Q ex_72_8_127 ⟨tb, [⟨232, x, .arr 1 (.int .i64 14 :: ints y)⟩, ⟨48, 3, .cells [IL u, RL t]⟩, ⟨4080, 2, .cells (RS b (p2))⟩, ⟨16, 1, .cells [.nil, .nil]⟩], g⟩ := by
    intro tb g x e2 e5 e6 e7 e27 e28 e30 e31 e32 e33
    unfold ex_72_8_127
    simp only [exT_alt, exT_one, exT_stop, and_true]
    rw [ro_72_8_7]
    simp [callDOWR, l0, hy, hy2, e2, e5, e6, e7, e27, e28, e30, e31, e32, e33]
    refine n255 _ _ ?_ ?_ ?_ ?_ ?_ ?_ ?_ ?_ ?_ ?_ <;> simp [getT, e2, e5, e6, e7, e27, e28, e30, e31, e32, e33]
  have n126 : ∀ tb g x, getT tb 2 = .ptr 16 1 0 → getT tb 5 = .ptr 4080 2 0 → getT tb 6 = .ptr 48 3 0 → getT tb 7 = IL y → getT tb 28 = IL y → getT tb 30 = IL y → getT tb 31 = .arr 232 x → getT tb 32 = .ptr 4080 2 0 → getT tb 33 = IL z → exT (CI inlR) 0 (inlW (CI inlR) [] [fw_someAlg, fw_pick, fw_someT] 1 0) ro_72_8 Q ex_72_8_126 ⟨tb, [⟨232, x, .arr 1 (.int .i64 14 :: ints y)⟩, ⟨48, 3, .cells [IL u, RL t]⟩, ⟨4080, 2, .cells (RS b (p2))⟩, ⟨16, 1, .cells [.nil, .nil]⟩], g⟩ := by
    intro tb g x e2 e5 e6 e7 e28 e30 e31 e32 e33
    unfold ex_72_8_126
    simp only [exT_alt, exT_one, exT_stop, and_true]
    refine ⟨?_, ?_⟩
    · rw [ro_72_8_0]
      simp [callDOWR, l0, hy, hy2, e2, e5, e6, e7, e28, e30, e31, e32, e33]
      refine n127 _ _ _ ?_ ?_ ?_ ?_ ?_ ?_ ?_ ?_ ?_ ?_ <;> simp [getT, e2, e5, e6, e7, e28, e30, e31, e32, e33]
    · rw [ro_72_8_7]
      simp [callDOWR, l0, hy, hy2, e2, e5, e6, e7, e28, e30, e31, e32, e33]
      refine n254 _ _ ?_ ?_ ?_ ?_ ?_ ?_ ?_ ?_ ?_ <;> simp [getT, e2, e5, e6, e7, e28, e30, e31, e32, e33]
  have n63 : ∀ tb g x, getT tb 2 = .ptr 16 1 0 → getT tb 5 = .ptr 4080 2 0 → getT tb 6 = .ptr 48 3 0 → getT tb 7 = IL y → getT tb 27 = AL u t → getT tb 28 = IL y → getT tb 30 = IL y → getT tb 31 = .arr 232 x → getT tb 32 = .ptr 4080 2 0 → exT (CI inlR) 0 (inlW (CI inlR) [] [fw_someAlg, fw_pick, fw_someT] 1 0) ro_72_8 Q ex_72_8_63 ⟨tb, [⟨232, x, .arr 1 (.int .i64 14 :: ints y)⟩, ⟨48, 3, .cells [IL u, RL t]⟩, ⟨4080, 2, .cells (RS b (p))⟩, ⟨16, 1, .cells [.nil, .nil]⟩], g⟩ := by
    intro tb g x e2 e5 e6 e7 e27 e28 e30 e31 e32
    unfold ex_72_8_63
    simp only [exT_alt, exT_one, exT_stop, and_true]
    rw [ro_72_8_6]
    simp [callDOWR, l0, hy, hy2, e2, e5, e6, e7, e27, e28, e30, e31, e32]
    refine n127 _ _ _ ?_ ?_ ?_ ?_ ?_ ?_ ?_ ?_ ?_ ?_ <;> simp [getT, e2, e5, e6, e7, e27, e28, e30, e31, e32]
  have n62 : ∀ tb g x, getT tb 2 = .ptr 16 1 0 → getT tb 5 = .ptr 4080 2 0 → getT tb 6 = .ptr 48 3 0 → getT tb 7 = IL y → getT tb 28 = IL y → getT tb 30 = IL y → getT tb 31 = .arr 232 x → getT tb 32 = .ptr 4080 2 0 → exT (CI inlR) 0 (inlW (CI inlR) [] [fw_someAlg, fw_pick, fw_someT] 1 0) ro_72_8 Q ex_72_8_62 ⟨tb, [⟨232, x, .arr 1 (.int .i64 14 :: ints y)⟩, ⟨48, 3, .cells [IL u, RL t]⟩, ⟨4080, 2, .cells (RS b (p))⟩, ⟨16, 1, .cells [.nil, .nil]⟩], g⟩ := by
    intro tb g x e2 e5 e6 e7 e28 e30 e31 e32
    unfold ex_72_8_62
    simp only [exT_alt, exT_one, exT_stop, and_true]
    refine ⟨?_, ?_⟩
    · rw [ro_72_8_0]
      simp [callDOWR, l0, hy, hy2, e2, e5, e6, e7, e28, e30, e31, e32]
      refine n63 _ _ _ ?_ ?_ ?_ ?_ ?_ ?_ ?_ ?_ ?_ <;> simp [getT, e2, e5, e6, e7, e28, e30, e31, e32]
    · rw [ro_72_8_6]
      simp [callDOWR, l0, hy, hy2, e2, e5, e6, e7, e28, e30, e31, e32]
      refine n126 _ _ _ ?_ ?_ ?_ ?_ ?_ ?_ ?_ ?_ ?_ <;> simp [getT, e2, e5, e6, e7, e28, e30, e31, e32]
  have n47 : ∀ tb g x, getT tb 2 = .ptr 16 1 0 → getT tb 5 = .ptr 4080 2 0 → getT tb 6 = .ptr 48 3 0 → getT tb 7 = IL y → getT tb 27 = AL u t → getT tb 28 = IL y → getT tb 29 = .arr 232 x → getT tb 30 = IL y → getT tb 32 = .ptr 4080 2 0 → exT (CI inlR) 0 (inlW (CI inlR) [] [fw_someAlg, fw_pick, fw_someT] 1 0) ro_72_8 Q ex_72_8_47 ⟨tb, [⟨232, x, .arr 1 ([.int .i64 14])⟩, ⟨48, 3, .cells [IL u, RL t]⟩, ⟨4080, 2, .cells (RS b (p))⟩, ⟨16, 1, .cells [.nil, .nil]⟩], g⟩ := by
    intro tb g x e2 e5 e6 e7 e27 e28 e29 e30 e32
    unfold ex_72_8_47
    simp only [exT_alt, exT_one, exT_stop, and_true]
    rw [ro_72_8_4]
    simp [callDOWR, l0, hy, hy2, e2, e5, e6, e7, e27, e28, e29, e30, e32]
    refine n63 _ _ _ ?_ ?_ ?_ ?_ ?_ ?_ ?_ ?_ ?_ <;> simp [getT, e2, e5, e6, e7, e27, e28, e29, e30, e32]
  have n46 : ∀ tb g x, getT tb 2 = .ptr 16 1 0 → getT tb 5 = .ptr 4080 2 0 → getT tb 6 = .ptr 48 3 0 → getT tb 7 = IL y → getT tb 28 = IL y → getT tb 29 = .arr 232 x → getT tb 30 = IL y → getT tb 32 = .ptr 4080 2 0 → exT (CI inlR) 0 (inlW (CI inlR) [] [fw_someAlg, fw_pick, fw_someT] 1 0) ro_72_8 Q ex_72_8_46 ⟨tb, [⟨232, x, .arr 1 ([.int .i64 14])⟩, ⟨48, 3, .cells [IL u, RL t]⟩, ⟨4080, 2, .cells (RS b (p))⟩, ⟨16, 1, .cells [.nil, .nil]⟩], g⟩ := by
    intro tb g x e2 e5 e6 e7 e28 e29 e30 e32
    unfold ex_72_8_46
    simp only [exT_alt, exT_one, exT_stop, and_true]
    refine ⟨?_, ?_⟩
    · rw [ro_72_8_0]
      simp [callDOWR, l0, hy, hy2, e2, e5, e6, e7, e28, e29, e30, e32]
      refine n47 _ _ _ ?_ ?_ ?_ ?_ ?_ ?_ ?_ ?_ ?_ <;> simp [getT, e2, e5, e6, e7, e28, e29, e30, e32]
    · rw [ro_72_8_4]
      simp [callDOWR, l0, hy, hy2, e2, e5, e6, e7, e28, e29, e30, e32]
      refine n62 _ _ _ ?_ ?_ ?_ ?_ ?_ ?_ ?_ ?_ <;> simp [getT, e2, e5, e6, e7, e28, e29, e30, e32]
  have n43 : ∀ tb g, getT tb 2 = .ptr 16 1 0 → getT tb 5 = .ptr 4080 2 0 → getT tb 6 = .ptr 48 3 0 → getT tb 7 = IL y → getT tb 27 = AL u t → getT tb 28 = IL y → getT tb 30 = IL y → getT tb 32 = .ptr 4080 2 0 → exT (CI inlR) 0 (inlW (CI inlR) [] [fw_someAlg, fw_pick, fw_someT] 1 0) ro_72_8 Q ex_72_8_43 ⟨tb, [⟨48, 3, .cells [IL u, RL t]⟩, ⟨4080, 2, .cells (RS b (p))⟩, ⟨16, 1, .cells [.nil, .nil]⟩], g⟩ := by
    intro tb g e2 e5 e6 e7 e27 e28 e30 e32
    unfold ex_72_8_43
    simp only [exT_alt, exT_one, exT_stop, and_true]
    rw [ro_72_8_2]
    simp [callDOWR, l0, hy, hy2, e2, e5, e6, e7, e27, e28, e30, e32]
    refine n47 _ _ _ ?_ ?_ ?_ ?_ ?_ ?_ ?_ ?_ ?_ <;> simp [getT, e2, e5, e6, e7, e27, e28, e30, e32]
  have n42 : ∀ tb g, getT tb 2 = .ptr 16 1 0 → getT tb 5 = .ptr 4080 2 0 → getT tb 6 = .ptr 48 3 0 → getT tb 7 = IL y → getT tb 28 = IL y → getT tb 30 = IL y → getT tb 32 = .ptr 4080 2 0 → exT (CI inlR) 0 (inlW (CI inlR) [] [fw_someAlg, fw_pick, fw_someT] 1 0) ro_72_8 Q ex_72_8_42 ⟨tb, [⟨48, 3, .cells [IL u, RL t]⟩, ⟨4080, 2, .cells (RS b (p))⟩, ⟨16, 1, .cells [.nil, .nil]⟩], g⟩ := by
    intro tb g e2 e5 e6 e7 e28 e30 e32
    unfold ex_72_8_42
    simp only [exT_alt, exT_one, exT_stop, and_true]
    refine ⟨?_, ?_⟩
    · rw [ro_72_8_0]
      simp [callDOWR, l0, hy, hy2, e2, e5, e6, e7, e28, e30, e32]
      refine n43 _ _ ?_ ?_ ?_ ?_ ?_ ?_ ?_ ?_ <;> simp [getT, e2, e5, e6, e7, e28, e30, e32]
    · rw [ro_72_8_2]
      simp [callDOWR, l0, hy, hy2, e2, e5, e6, e7, e28, e30, e32]
      refine n46 _ _ _ ?_ ?_ ?_ ?_ ?_ ?_ ?_ ?_ <;> simp [getT, e2, e5, e6, e7, e28, e30, e32]
  have n10 : ∀ tb g, getT tb 2 = .ptr 16 1 0 → getT tb 5 = .ptr 4080 2 0 → getT tb 6 = .ptr 48 3 0 → getT tb 7 = IL y → getT tb 28 = IL y → getT tb 30 = IL y → exT (CI inlR) 0 (inlW (CI inlR) [] [fw_someAlg, fw_pick, fw_someT] 1 0) ro_72_8 Q ex_72_8_10 ⟨tb, [⟨48, 3, .cells [IL u, RL t]⟩, ⟨4080, 2, .cells (RS b (p))⟩, ⟨16, 1, .cells [.nil, .nil]⟩], g⟩ := by
    intro tb g e2 e5 e6 e7 e28 e30
    unfold ex_72_8_10
    simp only [exT_alt, exT_one, exT_stop, and_true]
    rw [ro_72_8_5]
    simp [callDOWR, l0, hy, hy2, e2, e5, e6, e7, e28, e30]
    refine n42 _ _ ?_ ?_ ?_ ?_ ?_ ?_ ?_ <;> simp [getT, e2, e5, e6, e7, e28, e30]
  have n2 : ∀ tb g, getT tb 2 = .ptr 16 1 0 → getT tb 5 = .ptr 4080 2 0 → getT tb 6 = .ptr 48 3 0 → getT tb 7 = IL y → getT tb 28 = IL y → exT (CI inlR) 0 (inlW (CI inlR) [] [fw_someAlg, fw_pick, fw_someT] 1 0) ro_72_8 Q ex_72_8_2 ⟨tb, [⟨48, 3, .cells [IL u, RL t]⟩, ⟨4080, 2, .cells (RS b (p))⟩, ⟨16, 1, .cells [.nil, .nil]⟩], g⟩ := by
    intro tb g e2 e5 e6 e7 e28
    unfold ex_72_8_2
    simp only [exT_alt, exT_one, exT_stop, and_true]
    rw [ro_72_8_3]
    simp [callDOWR, l0, hy, hy2, e2, e5, e6, e7, e28]
    refine n10 _ _ ?_ ?_ ?_ ?_ ?_ ?_ <;> simp [getT, e2, e5, e6, e7, e28]
  have n0 : ∀ tb g, getT tb 2 = .ptr 16 1 0 → getT tb 5 = .ptr 4080 2 0 → getT tb 6 = .ptr 48 3 0 → getT tb 7 = IL y → exT (CI inlR) 0 (inlW (CI inlR) [] [fw_someAlg, fw_pick, fw_someT] 1 0) ro_72_8 Q ex_72_8_0 ⟨tb, [⟨48, 3, .cells [IL u, RL t]⟩, ⟨4080, 2, .cells (RS b (p))⟩, ⟨16, 1, .cells [.nil, .nil]⟩], g⟩ := by
    intro tb g e2 e5 e6 e7
    unfold ex_72_8_0
    simp only [exT_alt, exT_one, exT_stop, and_true]
    rw [ro_72_8_1]
    simp [callDOWR, l0, hy, hy2, e2, e5, e6, e7]
    refine n2 _ _ ?_ ?_ ?_ ?_ ?_ <;> simp [getT, e2, e5, e6, e7]
  exact n0

set_option maxHeartbeats 4000000 in
theorem fol_dag9 {Q : St → Prop} {b : List Int} {p p2 : Nat} {u : List Int} {t : List (List Int)} {y z : List Int} (l0 : fw_someT.look [.ptr 0 0 0] (RS b p) = some (IL z, RS b p2))
    (hQ : ∀ tb g, getT tb 2 = .ptr 16 1 0 → getT tb 3 = IL y → getT tb 4 = IL z → Q ⟨tb, [⟨48, 3, .cells [IL u, RL t]⟩, ⟨4080, 2, .cells (RS b (p2))⟩, ⟨16, 1, .cells [IL u, RL t]⟩], g⟩) : ∀ tb g, getT tb 2 = .ptr 16 1 0 → getT tb 5 = .ptr 4080 2 0 → getT tb 6 = .ptr 48 3 0 → getT tb 7 = IL y → exT (CI inlR) 0 (inlW (CI inlR) [] [fw_someAlg, fw_pick, fw_someT] 1 0) ro_72_9 Q ex_72_9_0 ⟨tb, [⟨48, 3, .cells [IL u, RL t]⟩, ⟨4080, 2, .cells (RS b (p))⟩, ⟨16, 1, .cells [.nil, .nil]⟩], g⟩ := by
  have n127 : ∀ tb g, getT tb 2 = .ptr 16 1 0 → getT tb 5 = .ptr 4080 2 0 → getT tb 6 = .ptr 48 3 0 → getT tb 7 = IL y → getT tb 35 = AL u t → getT tb 36 = IL y → getT tb 37 = .ptr 4080 2 0 → getT tb 38 = IL z → getT tb 3 = IL y → getT tb 4 = IL z → exT (CI inlR) 0 (inlW (CI inlR) [] [fw_someAlg, fw_pick, fw_someT] 1 0) ro_72_9 Q ex_72_9_127 ⟨tb, [⟨48, 3, .cells [IL u, RL t]⟩, ⟨4080, 2, .cells (RS b (p2))⟩, ⟨16, 1, .cells [IL u, RL t]⟩], g⟩ := by
    intro tb g e2 e5 e6 e7 e35 e36 e37 e38 e3 e4
    unfold ex_72_9_127
    exact hQ tb g e2 e3 e4
  have n63 : ∀ tb g, getT tb 2 = .ptr 16 1 0 → getT tb 5 = .ptr 4080 2 0 → getT tb 6 = .ptr 48 3 0 → getT tb 7 = IL y → getT tb 35 = AL u t → getT tb 36 = IL y → getT tb 37 = .ptr 4080 2 0 → getT tb 38 = IL z → getT tb 3 = IL y → exT (CI inlR) 0 (inlW (CI inlR) [] [fw_someAlg, fw_pick, fw_someT] 1 0) ro_72_9 Q ex_72_9_63 ⟨tb, [⟨48, 3, .cells [IL u, RL t]⟩, ⟨4080, 2, .cells (RS b (p2))⟩, ⟨16, 1, .cells [IL u, RL t]⟩], g⟩ := by
    intro tb g e2 e5 e6 e7 e35 e36 e37 e38 e3
    unfold ex_72_9_63
    simp only [exT_alt, exT_one, exT_stop, and_true]
    rw [ro_72_9_6]
    simp [callDOWR, l0, e2, e5, e6, e7, e35, e36, e37, e38, e3]
    refine n127 _ _ ?_ ?_ ?_ ?_ ?_ ?_ ?_ ?_ ?_ ?_ <;> simp [getT, e2, e5, e6, e7, e35, e36, e37, e38, e3]
  have n31 : ∀ tb g, getT tb 2 = .ptr 16 1 0 → getT tb 5 = .ptr 4080 2 0 → getT tb 6 = .ptr 48 3 0 → getT tb 7 = IL y → getT tb 35 = AL u t → getT tb 36 = IL y → getT tb 37 = .ptr 4080 2 0 → getT tb 38 = IL z → exT (CI inlR) 0 (inlW (CI inlR) [] [fw_someAlg, fw_pick, fw_someT] 1 0) ro_72_9 Q ex_72_9_31 ⟨tb, [⟨48, 3, .cells [IL u, RL t]⟩, ⟨4080, 2, .cells (RS b (p2))⟩, ⟨16, 1, .cells [IL u, RL t]⟩], g⟩ := by
    intro tb g e2 e5 e6 e7 e35 e36 e37 e38
    unfold ex_72_9_31
    simp only [exT_alt, exT_one, exT_stop, and_true]
    rw [ro_72_9_5]
    simp [callDOWR, l0, e2, e5, e6, e7, e35, e36, e37, e38]
    refine n63 _ _ ?_ ?_ ?_ ?_ ?_ ?_ ?_ ?_ ?_ <;> simp [getT, e2, e5, e6, e7, e35, e36, e37, e38]
  have n15 : ∀ tb g, getT tb 2 = .ptr 16 1 0 → getT tb 5 = .ptr 4080 2 0 → getT tb 6 = .ptr 48 3 0 → getT tb 7 = IL y → getT tb 35 = AL u t → getT tb 36 = IL y → getT tb 37 = .ptr 4080 2 0 → getT tb 38 = IL z → exT (CI inlR) 0 (inlW (CI inlR) [] [fw_someAlg, fw_pick, fw_someT] 1 0) ro_72_9 Q ex_72_9_15 ⟨tb, [⟨48, 3, .cells [IL u, RL t]⟩, ⟨4080, 2, .cells (RS b (p2))⟩, ⟨16, 1, .cells [.nil, .nil]⟩], g⟩ := by
    intro tb g e2 e5 e6 e7 e35 e36 e37 e38
    unfold ex_72_9_15
    simp only [exT_alt, exT_one, exT_stop, and_true]
    rw [ro_72_9_4]
    simp [callDOWR, l0, e2, e5, e6, e7, e35, e36, e37, e38]
    refine n31 _ _ ?_ ?_ ?_ ?_ ?_ ?_ ?_ ?_ <;> simp [getT, e2, e5, e6, e7, e35, e36, e37, e38]
  have n14 : ∀ tb g, getT tb 2 = .ptr 16 1 0 → getT tb 5 = .ptr 4080 2 0 → getT tb 6 = .ptr 48 3 0 → getT tb 7 = IL y → getT tb 36 = IL y → getT tb 37 = .ptr 4080 2 0 → getT tb 38 = IL z → exT (CI inlR) 0 (inlW (CI inlR) [] [fw_someAlg, fw_pick, fw_someT] 1 0) ro_72_9 Q ex_72_9_14 ⟨tb, [⟨48, 3, .cells [IL u, RL t]⟩, ⟨4080, 2, .cells (RS b (p2))⟩, ⟨16, 1, .cells [.nil, .nil]⟩], g⟩ := by
    intro tb g e2 e5 e6 e7 e36 e37 e38
    unfold ex_72_9_14
    simp only [exT_alt, exT_one, exT_stop, and_true]
    rw [ro_72_9_0]
    simp [callDOWR, l0, e2, e5, e6, e7, e36, e37, e38]
    refine n15 _ _ ?_ ?_ ?_ ?_ ?_ ?_ ?_ ?_ <;> simp [getT, e2, e5, e6, e7, e36, e37, e38]
  have n7 : ∀ tb g, getT tb 2 = .ptr 16 1 0 → getT tb 5 = .ptr 4080 2 0 → getT tb 6 = .ptr 48 3 0 → getT tb 7 = IL y → getT tb 35 = AL u t → getT tb 36 = IL y → getT tb 37 = .ptr 4080 2 0 → exT (CI inlR) 0 (inlW (CI inlR) [] [fw_someAlg, fw_pick, fw_someT] 1 0) ro_72_9 Q ex_72_9_7 ⟨tb, [⟨48, 3, .cells [IL u, RL t]⟩, ⟨4080, 2, .cells (RS b (p))⟩, ⟨16, 1, .cells [.nil, .nil]⟩], g⟩ := by
    intro tb g e2 e5 e6 e7 e35 e36 e37
    unfold ex_72_9_7
    simp only [exT_alt, exT_one, exT_stop, and_true]
    rw [ro_72_9_3]
    simp [callDOWR, l0, e2, e5, e6, e7, e35, e36, e37]
    refine n15 _ _ ?_ ?_ ?_ ?_ ?_ ?_ ?_ ?_ <;> simp [getT, e2, e5, e6, e7, e35, e36, e37]
  have n6 : ∀ tb g, getT tb 2 = .ptr 16 1 0 → getT tb 5 = .ptr 4080 2 0 → getT tb 6 = .ptr 48 3 0 → getT tb 7 = IL y → getT tb 36 = IL y → getT tb 37 = .ptr 4080 2 0 → exT (CI inlR) 0 (inlW (CI inlR) [] [fw_someAlg, fw_pick, fw_someT] 1 0) ro_72_9 Q ex_72_9_6 ⟨tb, [⟨48, 3, .cells [IL u, RL t]⟩, ⟨4080, 2, .cells (RS b (p))⟩, ⟨16, 1, .cells [.nil, .nil]⟩], g⟩ := by
    intro tb g e2 e5 e6 e7 e36 e37
    unfold ex_72_9_6
    simp only [exT_alt, exT_one, exT_stop, and_true]
    refine ⟨?_, ?_⟩
    · rw [ro_72_9_0]
      simp [callDOWR, l0, e2, e5, e6, e7, e36, e37]
      refine n7 _ _ ?_ ?_ ?_ ?_ ?_ ?_ ?_ <;> simp [getT, e2, e5, e6, e7, e36, e37]
    · rw [ro_72_9_3]
      simp [callDOWR, l0, e2, e5, e6, e7, e36, e37]
      refine n14 _ _ ?_ ?_ ?_ ?_ ?_ ?_ ?_ <;> simp [getT, e2, e5, e6, e7, e36, e37]
  have n2 : ∀ tb g, getT tb 2 = .ptr 16 1 0 → getT tb 5 = .ptr 4080 2 0 → getT tb 6 = .ptr 48 3 0 → getT tb 7 = IL y → getT tb 36 = IL y → exT (CI inlR) 0 (inlW (CI inlR) [] [fw_someAlg, fw_pick, fw_someT] 1 0) ro_72_9 Q ex_72_9_2 ⟨tb, [⟨48, 3, .cells [IL u, RL t]⟩, ⟨4080, 2, .cells (RS b (p))⟩, ⟨16, 1, .cells [.nil, .nil]⟩], g⟩ := by
    intro tb g e2 e5 e6 e7 e36
    unfold ex_72_9_2
    simp only [exT_alt, exT_one, exT_stop, and_true]
    rw [ro_72_9_2]
    simp [callDOWR, l0, e2, e5, e6, e7, e36]
    refine n6 _ _ ?_ ?_ ?_ ?_ ?_ ?_ <;> simp [getT, e2, e5, e6, e7, e36]
  have n0 : ∀ tb g, getT tb 2 = .ptr 16 1 0 → getT tb 5 = .ptr 4080 2 0 → getT tb 6 = .ptr 48 3 0 → getT tb 7 = IL y → exT (CI inlR) 0 (inlW (CI inlR) [] [fw_someAlg, fw_pick, fw_someT] 1 0) ro_72_9 Q ex_72_9_0 ⟨tb, [⟨48, 3, .cells [IL u, RL t]⟩, ⟨4080, 2, .cells (RS b (p))⟩, ⟨16, 1, .cells [.nil, .nil]⟩], g⟩ := by
    intro tb g e2 e5 e6 e7
    unfold ex_72_9_0
    simp only [exT_alt, exT_one, exT_stop, and_true]
    rw [ro_72_9_1]
    simp [callDOWR, l0, e2, e5, e6, e7]
    refine n2 _ _ ?_ ?_ ?_ ?_ ?_ <;> simp [getT, e2, e5, e6, e7]
  exact n0

/-- Two terms, the second one at times made of the first one. -/
def dFo (b : List Int) (p : Nat) : List Int × List Int :=
  if pkM b (stM b p).2 4 = 0 then ((stM b p).1, 15 :: ((stM b p).1 ++ (stM b p).1))
  else if pkM b (stM b p).2 4 = 1 then ((stM b p).1, 14 :: ((stM b p).1 ++ (stM b ((stM b p).2 + 1)).1))
  else ((stM b p).1, (stM b ((stM b p).2 + 1)).1)
theorem dFo_len {b : List Int} (hb : BB b) {p : Nat} (hp : p ≤ 700000) : (dFo b p).1.length ≤ 16 ∧ (dFo b p).2.length ≤ 33 := by
  have h1 := stM_ok hb (p := p) (by omega)
  have h2 := stM_ok hb (p := (stM b p).2 + 1) (by omega)
  unfold dFo
  generalize stM b ((stM b p).2 + 1) = B at *
  generalize stM b p = A at *
  split
  · simp; omega
  · split
    · simp; omega
    · simp; omega
set_option maxHeartbeats 4000000 in
theorem drFol_pc (c : List Int) (hc : Byt c) (hl : Big c.length) : PC Try.prog 72 [BL c] none false (fun r _ => r = .tup [AL (saM (rdB c) 0).1.1 (saM (rdB c) 0).1.2, IL (dFo (rdB c) (saM (rdB c) 0).2).1, IL (dFo (rdB c) (saM (rdB c) 0).2).2]) := by
  have hl := hl.le
  have hb := rdB_ok hc
  have l1 := fw_someAlg_look (rdB c) 0 hb (by omega) (by omega)
  obtain ⟨g, q⟩ := saM_few hb (p := 0) (by omega)
  refine pcR [] [fw_someAlg, fw_pick, fw_someT] fok_72 ?_
  generalize saM (rdB c) 0 = A at *
  obtain ⟨⟨u, t⟩, p1⟩ := A
  dsimp only at *
  have k1 := stM_ok hb (p := p1) (by omega)
  have k2 := stM_ok hb (p := (stM (rdB c) p1).2 + 1) (by omega)
  have l2 := fw_someT_look (rdB c) p1 hb (by omega) (by omega)
  have l3 := fw_pick_look (rdB c) (stM (rdB c) p1).2 4 hb (by omega) (by omega)
  have l4 := fw_someT_look (rdB c) ((stM (rdB c) p1).2 + 1) hb (by omega) (by omega)
  unfold dFo
  generalize stM (rdB c) ((stM (rdB c) p1).2 + 1) = Z at *
  generalize stM (rdB c) p1 = Y at *
  obtain ⟨y, p2⟩ := Y
  obtain ⟨z, p3⟩ := Z
  dsimp only at *
  simp [fa_72]
  refine newR hl ?_
  by_cases c0 : pkM (rdB c) p2 4 = 0
  · simp [callOWR, l1, l2, l3, c0]
    refine cutE (α := Unit) (fun _ => [(2, .ptr 16 1 0), (3, IL y), (4, .list 1 (.int .i64 15 :: ints (y ++ y)))]) (fun _ => [⟨16, 1, .cells [IL u, RL t]⟩]) ?_ (fun _ g0 => ?_)
    · refine fol_dag6 (p := p2 + 1) (y := y) (le_big (by omega)) (le_big (by omega)) (fun tb g q2 q3 q4 => ?_) _ _ (by simp) (by simp) (by simp) (by simp)
      simp [q2, q3, q4]
    · simp
      rfl
  · by_cases c1 : pkM (rdB c) p2 4 = 1
    · simp [callOWR, l1, l2, l3, c0, c1]
      refine cutE (α := Unit) (fun _ => [(2, .ptr 16 1 0), (3, IL y), (4, .list 1 (.int .i64 14 :: ints (y ++ z)))]) (fun _ => [⟨16, 1, .cells [IL u, RL t]⟩]) ?_ (fun _ g0 => ?_)
      · refine fol_dag8 (p := p2 + 1) (y := y) (z := z) l4 (le_big (by omega)) (le_big (by omega)) (fun tb g q2 q3 q4 => ?_) _ _ (by simp) (by simp) (by simp) (by simp)
        simp [q2, q3, q4]
      · simp
        rfl
    · simp [callOWR, l1, l2, l3, c0, c1]
      refine cutE (α := Unit) (fun _ => [(2, .ptr 16 1 0), (3, IL y), (4, IL z)]) (fun _ => [⟨16, 1, .cells [IL u, RL t]⟩]) ?_ (fun _ g0 => ?_)
      · refine fol_dag9 (p := p2 + 1) (y := y) (z := z) l4 (fun tb g q2 q3 q4 => ?_) _ _ (by simp) (by simp) (by simp) (by simp)
        simp [q2, q3, q4]
      · simp
noncomputable def fm_drFol : Fam Try.prog := mkFam (X := List Int) 72 false (fun c => [BL c]) (fun c => (Byt c) ∧ (Big c.length)) (fun c => .tup [AL (saM (rdB c) 0).1.1 (saM (rdB c) 0).1.2, IL (dFo (rdB c) (saM (rdB c) 0).2).1, IL (dFo (rdB c) (saM (rdB c) 0).2).2]) (by
  rintro c ⟨hc, hl⟩
  exact drFol_pc c hc hl)
@[simp] theorem fm_drFol_id : fm_drFol.id = 72 := rfl
@[simp] theorem fm_drFol_fresh : fm_drFol.fresh = false := rfl
@[simp] theorem fm_drFol_look (c : List Int) (hc : Byt c) (hl : Big c.length) : fm_drFol.look [BL c] = some (.tup [AL (saM (rdB c) 0).1.1 (saM (rdB c) 0).1.2, IL (dFo (rdB c) (saM (rdB c) 0).2).1, IL (dFo (rdB c) (saM (rdB c) 0).2).2]) :=
  lookF_of (X := List Int) (args := fun c => [BL c]) (pre := fun c => (Byt c) ∧ (Big c.length)) (val := fun c => .tup [AL (saM (rdB c) 0).1.1 (saM (rdB c) 0).1.2, IL (dFo (rdB c) (saM (rdB c) 0).2).1, IL (dFo (rdB c) (saM (rdB c) 0).2).2]) (by
  intro c c' h
  simp at h
  subst h
  rfl) c ⟨hc, hl⟩
attribute [irreducible] fm_drFol
theorem drLp_pc (c : List Int) (hc : Byt c) (hl : Big c.length) : PC Try.prog 80 [BL c] none false (fun r _ => r = .tup [AL (saM (rdB c) 0).1.1 (saM (rdB c) 0).1.2, IL (dFo (rdB c) (saM (rdB c) 0).2).1, IL (dFo (rdB c) (saM (rdB c) 0).2).2]) := by
  have l1 := fm_drFol_look c hc hl
  refine pcT [fm_drFol] fok_80 ?_
  simp [fa_80, l1]
noncomputable def fm_drLp : Fam Try.prog := mkFam (X := List Int) 80 false (fun c => [BL c]) (fun c => (Byt c) ∧ (Big c.length)) (fun c => .tup [AL (saM (rdB c) 0).1.1 (saM (rdB c) 0).1.2, IL (dFo (rdB c) (saM (rdB c) 0).2).1, IL (dFo (rdB c) (saM (rdB c) 0).2).2]) (by
  rintro c ⟨hc, hl⟩
  exact drLp_pc c hc hl)
@[simp] theorem fm_drLp_id : fm_drLp.id = 80 := rfl
@[simp] theorem fm_drLp_fresh : fm_drLp.fresh = false := rfl
@[simp] theorem fm_drLp_look (c : List Int) (hc : Byt c) (hl : Big c.length) : fm_drLp.look [BL c] = some (.tup [AL (saM (rdB c) 0).1.1 (saM (rdB c) 0).1.2, IL (dFo (rdB c) (saM (rdB c) 0).2).1, IL (dFo (rdB c) (saM (rdB c) 0).2).2]) :=
  lookF_of (X := List Int) (args := fun c => [BL c]) (pre := fun c => (Byt c) ∧ (Big c.length)) (val := fun c => .tup [AL (saM (rdB c) 0).1.1 (saM (rdB c) 0).1.2, IL (dFo (rdB c) (saM (rdB c) 0).2).1, IL (dFo (rdB c) (saM (rdB c) 0).2).2]) (by
  intro c c' h
  simp at h
  subst h
  rfl) c ⟨hc, hl⟩
attribute [irreducible] fm_drLp
end Go.PS
end

section
-- Terms with more behind them.
set_option linter.unusedVariables false
set_option linter.unusedSimpArgs false
namespace Go.PS

end Go.PS
end

section
-- Values of the opposite of a term, and of a term that implies itself.
set_option linter.unusedVariables false
set_option linter.unusedSimpArgs false
namespace Go.PS
open Go.Proofs

end Go.PS
end

section
-- Sets of elements by bits; filters, in plain Lean.
set_option linter.unusedVariables false
set_option linter.unusedSimpArgs false
namespace Go.PS

-- sets by bits

section
variable {u : List Int} {t : List (List Int)} {x y z w : Nat}

structure FI (u : List Int) (t : List (List Int)) (f : Nat) : Prop where
  lt : f < 2 ^ u.length
  top : f.testBit (u.length - 1) = true
  up : ∀ x, x < u.length → ∀ y, y < u.length → f.testBit x = true → tb u x y = true → f.testBit y = true
  mul : ∀ x, x < u.length → ∀ y, y < u.length → f.testBit x = true → f.testBit y = true → f.testBit (tn t x y) = true
noncomputable instance (u : List Int) (t : List (List Int)) (f : Nat) : Decidable (FI u t f) := Classical.propDecidable _

theorem FI.and {f g : Nat} (a : VA u t) (hf : FI u t f) (hg : FI u t g) : FI u t (f &&& g) := by
  refine ⟨Nat.lt_of_le_of_lt Nat.and_le_left hf.lt, ?_, fun x hx y hy h1 h2 => ?_, fun x hx y hy h1 h2 => ?_⟩
  · rw [Nat.testBit_and, hf.top, hg.top]; rfl
  · rw [Nat.testBit_and, Bool.and_eq_true] at h1 ⊢
    exact ⟨hf.up x hx y hy h1.1 h2, hg.up x hx y hy h1.2 h2⟩
  · rw [Nat.testBit_and, Bool.and_eq_true] at h1 h2 ⊢
    exact ⟨hf.mul x hx y hy h1.1 h2.1, hg.mul x hx y hy h1.2 h2.2⟩
-- powers
abbrev pw (u : List Int) (t : List (List Int)) (x k : Nat) : Nat := (powM u t x k).toNat
theorem VA.pw_lt (a : VA u t) (hx : x < u.length) {k : Nat} : pw u t x k < u.length := by
  have := powM_rng a.tf hx k
  show (powM u t x k).toNat < _
  omega
theorem VA.pw_zero (a : VA u t) : pw u t x 0 = u.length - 1 := by
  have := a.lat.pos
  show ((u.length : Int) - 1).toNat = _
  omega
theorem VA.pw_succ (a : VA u t) {k : Nat} : pw u t x (k + 1) = tn t (pw u t x k) x := rfl
theorem VA.pw_dec (a : VA u t) (hx : x < u.length) {k : Nat} : tb u (pw u t x (k + 1)) (pw u t x k) = true := a.le_l (a.pw_lt hx) hx
theorem countP_lt {p q : Nat → Bool} {z : Nat} (h1 : q z = true) (h2 : p z = false) : ∀ {l : List Nat}, (∀ x ∈ l, p x = true → q x = true) → z ∈ l → l.countP p < l.countP q
  | [], _, hz => by cases hz
  | x :: l, h, hz => by
    have hm := List.countP_mono_left (l := l) (p := p) (q := q) (fun y hy => h y (by simp [hy]))
    simp only [List.countP_cons]
    rcases List.mem_cons.1 hz with e | e
    · subst e
      simp [h1, h2]; omega
    · have ih := countP_lt h1 h2 (l := l) (fun y hy => h y (by simp [hy])) e
      have hx := h x (by simp)
      cases hp : p x
      · simp; omega
      · simp [hx hp]; omega
/-- Powers end: from one equal to the next one on they are the same. -/
theorem VA.pw_const (a : VA u t) (hx : x < u.length) {k : Nat} (h : pw u t x (k + 1) = pw u t x k) : ∀ m, pw u t x (k + m) = pw u t x k
  | 0 => rfl
  | m + 1 => by rw [← Nat.add_assoc, a.pw_succ, a.pw_const hx h m, ← a.pw_succ, h]
theorem VA.pw_cnt (a : VA u t) (hx : x < u.length) : ∀ k, (∃ i, i < k ∧ pw u t x (i + 1) = pw u t x i) ∨ (List.range u.length).countP (fun z => tb u z (pw u t x k)) + k ≤ u.length
  | 0 => .inr (by
    have := List.countP_le_length (p := fun z => tb u z (pw u t x 0)) (l := List.range u.length)
    simpa using this)
  | k + 1 => by
    rcases a.pw_cnt hx k with ⟨i, hi, e⟩ | h
    · exact .inl ⟨i, by omega, e⟩
    · by_cases e : pw u t x (k + 1) = pw u t x k
      · exact .inl ⟨k, by omega, e⟩
      · right
        have h1 := a.pw_lt hx (k := k)
        have h2 := a.pw_lt hx (k := k + 1)
        have := countP_lt (p := fun z => tb u z (pw u t x (k + 1))) (q := fun z => tb u z (pw u t x k)) (z := pw u t x k) (l := List.range u.length) (a.lat.rf h1) (by
          cases hb : tb u (pw u t x k) (pw u t x (k + 1))
          · rfl
          · exact absurd (a.lat.eq h2 h1 (a.pw_dec hx) hb) e) (fun z hz h => a.lat.tr (by simpa using hz) h2 h1 h (a.pw_dec hx)) (by simpa using h1)
        omega
theorem VA.pw_end (a : VA u t) (hx : x < u.length) (m : Nat) : pw u t x (u.length + m) = pw u t x u.length := by
  have hp := a.lat.pos
  rcases a.pw_cnt hx u.length with ⟨i, hi, e⟩ | h
  · have e1 := a.pw_const hx e (u.length - i)
    have e2 := a.pw_const hx e (u.length - i + m)
    rw [show i + (u.length - i) = u.length by omega] at e1
    rw [show i + (u.length - i + m) = u.length + m by omega] at e2
    rw [e1, e2]
  · exfalso
    have : 0 < (List.range u.length).countP (fun z => tb u z (pw u t x u.length)) := by
      rw [List.countP_pos_iff]
      exact ⟨0, by simpa using hp, a.lat.bot (a.pw_lt hx)⟩
    omega
theorem FI.pw (a : VA u t) {f : Nat} (hf : FI u t f) (hx : x < u.length) (h : f.testBit x = true) : ∀ k, f.testBit (pw u t x k) = true
  | 0 => by rw [a.pw_zero]; exact hf.top
  | k + 1 => by rw [a.pw_succ]; exact hf.mul _ (a.pw_lt hx) _ hx (hf.pw a hx h k) h
theorem firstI_least {n : Nat} {p : Nat → Bool} {z : Nat} (h : firstI n p = z) : z < n ∧ p z = true ∧ ∀ j, j < z → p j = false := by
  unfold firstI at h
  split at h
  · rename_i k hk
    rw [List.find?_range_eq_some] at hk
    have : k = z := by omega
    subst this
    exact ⟨by simpa using hk.2.1, hk.1, fun j hj => by simpa using hk.2.2 j hj⟩
  · omega
-- classes
end
end Go.PS
end

section
-- PRINTED by gen.py: clean texts of functions, and their tie to the program.
set_option maxRecDepth 100000
namespace Go.PS
open Go.Proofs
/-- spec.assignments -/
def an_150 : Ann := ⟨[(5, 0, 1), (12, 1, 1), (12, 10, 2), (13, 1, 2)], [(0, [0]), (1, [0, 3]), (2, [0, 3, 4]), (3, [0, 3, 4, 11]), (5, [0, 3, 4, 5]), (6, [0, 3, 4, 5, 6]), (7, [0, 3, 4, 5, 6, 18]), (9, [0, 3, 4, 5, 6, 7]), (10, [0, 3, 4, 5, 6, 7, 23]), (12, [0, 3, 4, 5, 6, 7]), (11, [0, 3, 4, 5, 6, 7]), (8, [0, 3, 4, 5, 6]), (13, [0, 3, 4]), (4, [0, 3, 4]), (14, [2])], [(3, [0, 3, 4], [112, 296]), (7, [0, 3, 4, 5, 6], [112, 296]), (10, [0, 3, 4, 5, 6, 7], [112, 296])], []⟩
def lb_150_10 : AC :=
  (.seq
    (.seq
      (.region false [⟨some 21, (.mv (.t 7)), 3, none, 0⟩, ⟨some 22, (.mv (.t 0)), 3, none, 0⟩, ⟨some 23, (.bin .lss 3 (.t 21) (.t 22)), 4, none, 0⟩] (some [0, 3, 4, 5, 6, 7, 23]))
      (.cond (.t 23)
        .skip
        (.exit 4)))
    (.seq
      (.block 5
        (.region false [⟨some 26, (.mv (.t 5)), 25, none, 0⟩, ⟨some 27, (.bslice 23 0 []), 23, none, 1⟩, ⟨some 28, (.mv (.t 3)), 25, none, 0⟩, ⟨some 29, (.mv (.t 6)), 3, none, 0⟩, ⟨some 30, (.iaddr 25 (.t 28) (.t 29)), 0, none, 0⟩, ⟨some 31, (.load 23 (.t 30)), 23, none, 0⟩, ⟨some 32, (.app 23 23 (.t 27) (.t 31)), 23, none, 0⟩, ⟨some 33, (.mv (.t 7)), 3, none, 0⟩, ⟨some 34, (.bslice 23 1 [(0, (.t 33))]), 23, none, 0⟩, ⟨some 35, (.app 23 23 (.t 32) (.t 34)), 23, none, 0⟩, ⟨some 36, (.bslice 25 1 [(0, (.t 35))]), 25, none, 2⟩, ⟨some 37, (.app 25 25 (.t 26) (.t 36)), 25, none, 0⟩, ⟨some 5, (.mv (.t 37)), 25, none, 0⟩] (some [0, 3, 4, 5, 6, 7])))
      (.region false [⟨some 24, (.mv (.t 7)), 3, none, 0⟩, ⟨some 25, (.bin .add 3 (.t 24) (.c (.int .i64 1))), 3, none, 0⟩, ⟨some 7, (.mv (.t 25)), 3, none, 0⟩] (some [0, 3, 4, 5, 6, 7]))))
def lb_150_7 : AC :=
  (.seq
    (.seq
      (.region false [⟨some 15, (.mv (.t 6)), 3, none, 0⟩, ⟨some 16, (.mv (.t 3)), 25, none, 0⟩, ⟨some 17, (.len 25 (.t 16)), 3, none, 0⟩, ⟨some 18, (.bin .lss 3 (.t 15) (.t 17)), 4, none, 0⟩] (some [0, 3, 4, 5, 6, 18]))
      (.cond (.t 18)
        .skip
        (.exit 2)))
    (.seq
      (.block 3
        (.seq
          (.region false [⟨some 7, (.mv (.c (.int .i64 0))), 3, none, 0⟩] (some [0, 3, 4, 5, 6, 7]))
          (.block 4
            (.loop [0, 3, 4, 5, 6, 7] [112, 296] lb_150_10))))
      (.region false [⟨some 19, (.mv (.t 6)), 3, none, 0⟩, ⟨some 20, (.bin .add 3 (.t 19) (.c (.int .i64 1))), 3, none, 0⟩, ⟨some 6, (.mv (.t 20)), 3, none, 0⟩] (some [0, 3, 4, 5, 6]))))
def lb_150_3 : AC :=
  (.seq
    (.seq
      (.region false [⟨some 10, (.mv (.t 4)), 3, none, 0⟩, ⟨some 11, (.bin .lss 3 (.t 10) (.c (.int .i64 3))), 4, none, 0⟩] (some [0, 3, 4, 11]))
      (.cond (.t 11)
        .skip
        (.exit 0)))
    (.seq
      (.block 1
        (.seq
          (.region false [⟨some 14, (.bslice 25 0 []), 25, none, 1⟩, ⟨some 5, (.mv (.t 14)), 25, none, 0⟩] (some [0, 3, 4, 5]))
          (.seq
            (.seq
              (.region false [⟨some 6, (.mv (.c (.int .i64 0))), 3, none, 0⟩] (some [0, 3, 4, 5, 6]))
              (.block 2
                (.loop [0, 3, 4, 5, 6] [112, 296] lb_150_7)))
            (.region false [⟨some 38, (.mv (.t 5)), 25, none, 0⟩, ⟨some 3, (.mv (.t 38)), 25, none, 2⟩] (some [0, 3, 4])))))
      (.region false [⟨some 12, (.mv (.t 4)), 3, none, 0⟩, ⟨some 13, (.bin .add 3 (.t 12) (.c (.int .i64 1))), 3, none, 0⟩, ⟨some 4, (.mv (.t 13)), 3, none, 0⟩] (some [0, 3, 4]))))
def fa_150 : FnA := ⟨40, [.t 2],
  (.seq
    (.region false [⟨some 2, (.mv (.c .nil)), 25, none, 0⟩] (some [0]))
    (.seq
      (.region false [⟨some 8, (.bslice 23 0 []), 23, none, 0⟩, ⟨some 9, (.bslice 25 1 [(0, (.t 8))]), 25, none, 0⟩, ⟨some 3, (.mv (.t 9)), 25, none, 0⟩] (some [0, 3]))
      (.seq
        (.seq
          (.region false [⟨some 4, (.mv (.c (.int .i64 0))), 3, none, 0⟩] (some [0, 3, 4]))
          (.block 0
            (.loop [0, 3, 4] [112, 296] lb_150_3)))
        (.seq
          (.region false [⟨some 39, (.mv (.t 3)), 25, none, 0⟩, ⟨some 2, (.mv (.t 39)), 25, none, 0⟩] (some [2]))
          .ret))))⟩
theorem fok_150 : FnOk Try.prog 150 fa_150 an_150 := ⟨Try.f150, _, Try.func150, rfl, by kernel_rfl, rfl, rfl, by decide, by kernel_rfl⟩
/-- spec.pow -/
def an_126 : Ann := ⟨[], [(0, [1, 2, 3]), (1, [1, 2, 3, 7]), (2, [1, 2, 3, 7, 13]), (4, [1, 2, 3, 7]), (3, [1, 2, 3, 7]), (5, [6])], [(2, [1, 2, 3, 7], [])], []⟩
def lb_126_2 : AC :=
  (.seq
    (.seq
      (.region false [⟨some 12, (.mv (.t 2)), 3, none, 0⟩, ⟨some 13, (.bin .gtr 3 (.t 12) (.c (.int .i64 0))), 4, none, 0⟩] (some [1, 2, 3, 7, 13]))
      (.cond (.t 13)
        .skip
        (.exit 0)))
    (.seq
      (.block 1
        (.region false [⟨some 16, (.faddr 27 (.t 3) 1), 0, none, 0⟩, ⟨some 17, (.load 25 (.t 16)), 25, none, 0⟩, ⟨some 18, (.mv (.t 7)), 3, none, 0⟩, ⟨some 19, (.iaddr 25 (.t 17) (.t 18)), 0, none, 0⟩, ⟨some 20, (.load 23 (.t 19)), 23, none, 0⟩, ⟨some 21, (.mv (.t 1)), 3, none, 0⟩, ⟨some 22, (.iaddr 23 (.t 20) (.t 21)), 0, none, 0⟩, ⟨some 23, (.load 3 (.t 22)), 3, none, 0⟩, ⟨some 7, (.mv (.t 23)), 3, none, 0⟩] (some [1, 2, 3, 7])))
      (.region false [⟨some 14, (.mv (.t 2)), 3, none, 0⟩, ⟨some 15, (.bin .sub 3 (.t 14) (.c (.int .i64 1))), 3, none, 0⟩, ⟨some 2, (.mv (.t 15)), 3, none, 0⟩] (some [1, 2, 3, 7]))))
def fa_126 : FnA := ⟨25, [.t 6],
  (.seq
    (.region false [⟨some 3, (.box 27 (.t 0)), 0, none, 0⟩, ⟨some 6, (.mv (.c (.int .i64 0))), 3, none, 0⟩] (some [1, 2, 3]))
    (.seq
      (.region false [⟨some 8, (.faddr 27 (.t 3) 0), 0, none, 0⟩, ⟨some 9, (.load 23 (.t 8)), 23, none, 0⟩, ⟨some 10, (.len 23 (.t 9)), 3, none, 0⟩, ⟨some 11, (.bin .sub 3 (.t 10) (.c (.int .i64 1))), 3, none, 0⟩, ⟨some 7, (.mv (.t 11)), 3, none, 0⟩] (some [1, 2, 3, 7]))
      (.seq
        (.block 0
          (.loop [1, 2, 3, 7] [] lb_126_2))
        (.seq
          (.region false [⟨some 24, (.mv (.t 7)), 3, none, 0⟩, ⟨some 6, (.mv (.t 24)), 3, none, 0⟩] (some [6]))
          .ret))))⟩
theorem fok_126 : FnOk Try.prog 126 fa_126 an_126 := ⟨Try.f126, _, Try.func126, rfl, by kernel_rfl, rfl, rfl, by decide, by kernel_rfl⟩
/-- spec.LeastPower -/
def an_82 : Ann := ⟨[(1, 1, 3), (1, 5, 3), (1, 10, 3), (3, 3, 3), (8, 6, 3), (9, 6, 3), (10, 5, 3), (10, 7, 3)], [(0, [1, 2, 3]), (1, [1, 2, 3, 25]), (2, [6, 7]), (3, [1, 2, 3, 8]), (4, [1, 2, 3, 8, 9]), (5, [1, 2, 3, 8, 9, 10]), (6, [1, 2, 3, 8, 9, 10, 33]), (8, [1, 2, 3, 8, 9, 10, 11]), (9, [1, 2, 3, 8, 9, 10, 11, 12]), (10, [1, 2, 3, 8, 9, 10, 11, 12, 58]), (11, [1, 2, 3, 8, 9, 10, 11, 12]), (12, [1, 2, 3, 8, 9, 10, 11, 12, 62]), (13, [6, 7]), (7, [1, 2, 3, 8, 9, 10]), (14, [6, 7])], [(6, [1, 2, 3, 8, 9, 10], []), (10, [1, 2, 3, 8, 9, 10, 11, 12], [])], []⟩
def lb_82_10 : AC :=
  (.seq
    (.seq
      (.region true [⟨some 50, (.faddr 27 (.t 3) 0), 0, none, 0⟩, ⟨some 51, (.load 23 (.t 50)), 23, none, 0⟩, ⟨some 52, (.load 27 (.t 3)), 27, none, 0⟩, ⟨some 53, (.mv (.t 11)), 3, none, 0⟩, ⟨some 54, (.mv (.t 9)), 3, none, 0⟩, ⟨some 55, (.call (.f 126) [(.t 52), (.t 53), (.t 54)]), 3, none, 3⟩, ⟨some 56, (.mv (.t 12)), 3, none, 0⟩, ⟨some 57, (.call (.f 156) [(.t 51), (.t 55), (.t 56)]), 4, none, 3⟩, ⟨some 58, (.un .not (.t 57)), 4, none, 0⟩] (some [1, 2, 3, 8, 9, 10, 11, 12, 58]))
      (.cond (.t 58)
        .skip
        (.exit 2)))
    (.block 3
      (.seq
        (.region false [⟨some 59, (.mv (.t 9)), 3, none, 0⟩, ⟨some 60, (.bin .add 3 (.t 59) (.c (.int .i64 1))), 3, none, 0⟩, ⟨some 9, (.mv (.t 60)), 3, none, 0⟩] (some [1, 2, 3, 8, 9, 10, 11, 12]))
        (.seq
          (.region false [⟨some 61, (.mv (.t 9)), 3, none, 0⟩, ⟨some 62, (.bin .gtr 3 (.t 61) (.c (.int .i64 20))), 4, none, 0⟩] (some [1, 2, 3, 8, 9, 10, 11, 12, 62]))
          (.cond (.t 62)
            (.seq
              (.region false [⟨some 6, (.mv (.c (.int .i64 0))), 3, none, 0⟩, ⟨some 7, (.mv (.c (.bool false))), 4, none, 0⟩] (some [6, 7]))
              .ret)
            .skip)))))
def lb_82_6 : AC :=
  (.seq
    (.seq
      (.region false [⟨some 30, (.mv (.t 10)), 3, none, 0⟩, ⟨some 31, (.mv (.t 8)), 25, none, 0⟩, ⟨some 32, (.len 25 (.t 31)), 3, none, 0⟩, ⟨some 33, (.bin .lss 3 (.t 30) (.t 32)), 4, none, 0⟩] (some [1, 2, 3, 8, 9, 10, 33]))
      (.cond (.t 33)
        .skip
        (.exit 0)))
    (.seq
      (.block 1
        (.seq
          (.region true [⟨some 36, (.load 27 (.t 3)), 27, none, 0⟩, ⟨some 37, (.mv (.t 1)), 23, none, 0⟩, ⟨some 38, (.mv (.t 8)), 25, none, 0⟩, ⟨some 39, (.mv (.t 10)), 3, none, 0⟩, ⟨some 40, (.iaddr 25 (.t 38) (.t 39)), 0, none, 0⟩, ⟨some 41, (.load 23 (.t 40)), 23, none, 0⟩, ⟨some 42, (.call (.f 142) [(.t 36), (.t 37), (.c (.int .i64 0)), (.t 41)]), 3, none, 3⟩, ⟨some 11, (.mv (.t 42)), 3, none, 0⟩] (some [1, 2, 3, 8, 9, 10, 11]))
          (.seq
            (.region true [⟨some 43, (.load 27 (.t 3)), 27, none, 0⟩, ⟨some 44, (.mv (.t 2)), 23, none, 0⟩, ⟨some 45, (.mv (.t 8)), 25, none, 0⟩, ⟨some 46, (.mv (.t 10)), 3, none, 0⟩, ⟨some 47, (.iaddr 25 (.t 45) (.t 46)), 0, none, 0⟩, ⟨some 48, (.load 23 (.t 47)), 23, none, 0⟩, ⟨some 49, (.call (.f 142) [(.t 43), (.t 44), (.c (.int .i64 0)), (.t 48)]), 3, none, 3⟩, ⟨some 12, (.mv (.t 49)), 3, none, 0⟩] (some [1, 2, 3, 8, 9, 10, 11, 12]))
            (.block 2
              (.loop [1, 2, 3, 8, 9, 10, 11, 12] [] lb_82_10)))))
      (.region false [⟨some 34, (.mv (.t 10)), 3, none, 0⟩, ⟨some 35, (.bin .add 3 (.t 34) (.c (.int .i64 1))), 3, none, 0⟩, ⟨some 10, (.mv (.t 35)), 3, none, 0⟩] (some [1, 2, 3, 8, 9, 10]))))
def fa_82 : FnA := ⟨64, [.t 6, .t 7],
  (.seq
    (.region false [⟨some 3, (.box 27 (.t 0)), 0, none, 0⟩, ⟨some 6, (.mv (.c (.int .i64 0))), 3, none, 0⟩, ⟨some 7, (.mv (.c (.bool false))), 4, none, 0⟩] (some [1, 2, 3]))
    (.seq
      (.seq
        (.region false (gops [⟨some 13, (.load 27 (.t 3)), 27, none, 0⟩, ⟨some 14, (.call (.f 111) [(.t 13)]), 4, none, 3⟩, ⟨some 15, (.un .not (.t 14)), 4, none, 0⟩, ⟨some 16, (.mv (.t 15)), 4, none, 0⟩, ⟨some 17, (.mv (.t 1)), 23, some (16, false), 0⟩, ⟨some 18, (.call (.f 140) [(.t 17)]), 4, some (16, false), 3⟩, ⟨some 19, (.un .not (.t 18)), 4, some (16, false), 0⟩, ⟨some 20, (.pick (.t 16) (.c (.bool true)) (.t 19)), 4, none, 0⟩, ⟨some 21, (.mv (.t 20)), 4, none, 0⟩, ⟨some 22, (.mv (.t 2)), 23, some (21, false), 0⟩, ⟨some 23, (.call (.f 140) [(.t 22)]), 4, some (21, false), 3⟩, ⟨some 24, (.un .not (.t 23)), 4, some (21, false), 0⟩, ⟨some 25, (.pick (.t 21) (.c (.bool true)) (.t 24)), 4, none, 0⟩]) (some [1, 2, 3, 25]))
        (.cond (.t 25)
          (.seq
            (.region false [⟨some 6, (.mv (.c (.int .i64 0))), 3, none, 0⟩, ⟨some 7, (.mv (.c (.bool false))), 4, none, 0⟩] (some [6, 7]))
            .ret)
          .skip))
      (.seq
        (.region false [⟨some 26, (.faddr 27 (.t 3) 0), 0, none, 0⟩, ⟨some 27, (.load 23 (.t 26)), 23, none, 0⟩, ⟨some 28, (.len 23 (.t 27)), 3, none, 0⟩, ⟨some 29, (.call (.f 150) [(.t 28)]), 25, none, 3⟩, ⟨some 8, (.mv (.t 29)), 25, none, 0⟩] (some [1, 2, 3, 8]))
        (.seq
          (.region false [⟨some 9, (.mv (.c (.int .i64 0))), 3, none, 0⟩] (some [1, 2, 3, 8, 9]))
          (.seq
            (.seq
              (.region false [⟨some 10, (.mv (.c (.int .i64 0))), 3, none, 0⟩] (some [1, 2, 3, 8, 9, 10]))
              (.block 0
                (.loop [1, 2, 3, 8, 9, 10] [] lb_82_6)))
            (.seq
              (.region false [⟨some 63, (.mv (.t 9)), 3, none, 0⟩, ⟨some 6, (.mv (.t 63)), 3, none, 0⟩, ⟨some 7, (.mv (.c (.bool true))), 4, none, 0⟩] (some [6, 7]))
              .ret))))))⟩
theorem fok_82 : FnOk Try.prog 82 fa_82 an_82 := ⟨Try.f82, _, Try.func82, rfl, by kernel_rfl, rfl, rfl, by decide, by kernel_rfl⟩
/-- impl.power -/
def an_124 : Ann := ⟨[], [(0, [1, 2, 3]), (1, [1, 2, 3, 7]), (2, [1, 2, 3, 7, 13]), (4, [1, 2, 3, 7]), (3, [1, 2, 3, 7]), (5, [6])], [(2, [1, 2, 3, 7], [])], []⟩
def lb_124_2 : AC :=
  (.seq
    (.seq
      (.region false [⟨some 12, (.mv (.t 2)), 3, none, 0⟩, ⟨some 13, (.bin .gtr 3 (.t 12) (.c (.int .i64 0))), 4, none, 0⟩] (some [1, 2, 3, 7, 13]))
      (.cond (.t 13)
        .skip
        (.exit 0)))
    (.seq
      (.block 1
        (.region false [⟨some 16, (.faddr 27 (.t 3) 1), 0, none, 0⟩, ⟨some 17, (.load 25 (.t 16)), 25, none, 0⟩, ⟨some 18, (.mv (.t 7)), 3, none, 0⟩, ⟨some 19, (.iaddr 25 (.t 17) (.t 18)), 0, none, 0⟩, ⟨some 20, (.load 23 (.t 19)), 23, none, 0⟩, ⟨some 21, (.mv (.t 1)), 3, none, 0⟩, ⟨some 22, (.iaddr 23 (.t 20) (.t 21)), 0, none, 0⟩, ⟨some 23, (.load 3 (.t 22)), 3, none, 0⟩, ⟨some 7, (.mv (.t 23)), 3, none, 0⟩] (some [1, 2, 3, 7])))
      (.region false [⟨some 14, (.mv (.t 2)), 3, none, 0⟩, ⟨some 15, (.bin .sub 3 (.t 14) (.c (.int .i64 1))), 3, none, 0⟩, ⟨some 2, (.mv (.t 15)), 3, none, 0⟩] (some [1, 2, 3, 7]))))
def fa_124 : FnA := ⟨25, [.t 6],
  (.seq
    (.region false [⟨some 3, (.box 27 (.t 0)), 0, none, 0⟩, ⟨some 6, (.mv (.c (.int .i64 0))), 3, none, 0⟩] (some [1, 2, 3]))
    (.seq
      (.region false [⟨some 8, (.faddr 27 (.t 3) 0), 0, none, 0⟩, ⟨some 9, (.load 23 (.t 8)), 23, none, 0⟩, ⟨some 10, (.len 23 (.t 9)), 3, none, 0⟩, ⟨some 11, (.bin .sub 3 (.t 10) (.c (.int .i64 1))), 3, none, 0⟩, ⟨some 7, (.mv (.t 11)), 3, none, 0⟩] (some [1, 2, 3, 7]))
      (.seq
        (.block 0
          (.loop [1, 2, 3, 7] [] lb_124_2))
        (.seq
          (.region false [⟨some 24, (.mv (.t 7)), 3, none, 0⟩, ⟨some 6, (.mv (.t 24)), 3, none, 0⟩] (some [6]))
          .ret))))⟩
theorem fok_124 : FnOk Try.prog 124 fa_124 an_124 := ⟨Try.f124, _, Try.func124, rfl, by kernel_rfl, rfl, rfl, by decide, by kernel_rfl⟩
/-- impl.LeastPower$1 -/
def an_155 : Ann := ⟨[(0, 8, 3), (0, 10, 3), (0, 14, 3), (0, 15, 3)], [(0, [])], [], []⟩
def fa_155 : FnA := ⟨24, [],
  (.region true (gops [⟨some 7, (.load 4 (.t 1)), 4, none, 0⟩, ⟨some 8, (.mv (.t 7)), 4, none, 0⟩, ⟨some 9, (.faddr 27 (.t 2) 0), 0, some (8, true), 0⟩, ⟨some 10, (.load 23 (.t 9)), 23, some (8, true), 0⟩, ⟨some 11, (.load 27 (.t 2)), 27, some (8, true), 0⟩, ⟨some 12, (.load 27 (.t 2)), 27, some (8, true), 0⟩, ⟨some 13, (.load 23 (.t 3)), 23, some (8, true), 0⟩, ⟨some 14, (.mv (.t 0)), 23, some (8, true), 0⟩, ⟨some 15, (.call (.f 139) [(.t 12), (.t 13), (.t 14)]), 3, some (8, true), 3⟩, ⟨some 16, (.load 3 (.t 4)), 3, some (8, true), 0⟩, ⟨some 17, (.call (.f 124) [(.t 11), (.t 15), (.t 16)]), 3, some (8, true), 3⟩, ⟨some 18, (.load 27 (.t 2)), 27, some (8, true), 0⟩, ⟨some 19, (.load 23 (.t 5)), 23, some (8, true), 0⟩, ⟨some 20, (.mv (.t 0)), 23, some (8, true), 0⟩, ⟨some 21, (.call (.f 139) [(.t 18), (.t 19), (.t 20)]), 3, some (8, true), 3⟩, ⟨some 22, (.call (.f 131) [(.t 10), (.t 17), (.t 21)]), 4, some (8, true), 3⟩, ⟨some 23, (.pick (.t 8) (.t 22) (.c (.bool false))), 4, none, 0⟩, ⟨none, (.store 4 (.t 1) (.t 23)), 0, none, 0⟩]) (some []))⟩
theorem fok_155 : FnOk Try.prog 155 fa_155 an_155 := ⟨Try.f155, _, Try.func155, rfl, by kernel_rfl, rfl, rfl, by decide, by kernel_rfl⟩
/-- impl.eachList -/
def an_183 : Ann := ⟨[(1, 2, 16)], [(0, [0, 1, 4]), (1, [0, 1, 4]), (2, [0, 1, 4, 5]), (3, [0, 1, 4, 5, 27]), (4, [0, 1, 4, 5]), (5, [0, 1, 4, 5]), (6, [0, 1, 4, 5, 34]), (7, [0, 1, 4])], [(1, [0, 1, 4], [12160, 8064, 4064, 8, 16, 24, 32, 40, 48, 56, 64, 72, 80, 88, 96, 104, 112, 120, 128]), (3, [0, 1, 4, 5], [12160, 8064, 4064, 8, 16, 24, 32, 40, 48, 56, 64, 72, 80, 88, 96, 104, 112, 120, 128])], []⟩
def lb_183_3 : AC :=
  (.seq
    (.seq
      (.region true (gops [⟨some 15, (.mv (.t 5)), 3, none, 0⟩, ⟨some 16, (.bin .geq 3 (.t 15) (.c (.int .i64 0))), 4, none, 0⟩, ⟨some 17, (.mv (.t 16)), 4, none, 0⟩, ⟨some 18, (.mv (.t 4)), 23, some (17, true), 0⟩, ⟨some 19, (.mv (.t 5)), 3, some (17, true), 0⟩, ⟨some 20, (.iaddr 23 (.t 18) (.t 19)), 0, some (17, true), 0⟩, ⟨some 21, (.load 3 (.t 20)), 3, some (17, true), 0⟩, ⟨some 22, (.mv (.t 0)), 23, some (17, true), 0⟩, ⟨some 23, (.mv (.t 5)), 3, some (17, true), 0⟩, ⟨some 24, (.iaddr 23 (.t 22) (.t 23)), 0, some (17, true), 0⟩, ⟨some 25, (.load 3 (.t 24)), 3, some (17, true), 0⟩, ⟨some 26, (.bin .eql 3 (.t 21) (.t 25)), 4, some (17, true), 0⟩, ⟨some 27, (.pick (.t 17) (.t 26) (.c (.bool false))), 4, none, 0⟩]) (some [0, 1, 4, 5, 27]))
      (.cond (.t 27)
        .skip
        (.exit 2)))
    (.block 3
      (.seq
        (.region false [⟨some 28, (.mv (.t 4)), 23, none, 0⟩, ⟨some 29, (.mv (.t 5)), 3, none, 0⟩, ⟨some 30, (.iaddr 23 (.t 28) (.t 29)), 0, none, 0⟩, ⟨none, (.store 3 (.t 30) (.c (.int .i64 0))), 0, none, 0⟩] (some [0, 1, 4, 5]))
        (.region false [⟨some 31, (.mv (.t 5)), 3, none, 0⟩, ⟨some 32, (.bin .sub 3 (.t 31) (.c (.int .i64 1))), 3, none, 0⟩, ⟨some 5, (.mv (.t 32)), 3, none, 0⟩] (some [0, 1, 4, 5])))))
def lb_183_1 : AC :=
  (.block 1
    (.seq
      (.region false [⟨some 9, (.mv (.t 1)), 94, none, 0⟩, ⟨some 10, (.mv (.t 4)), 23, none, 0⟩, ⟨some 11, (.call (.t 9) [(.t 10)]), 0, none, 16⟩] (some [0, 1, 4]))
      (.seq
        (.region false [⟨some 12, (.mv (.t 4)), 23, none, 0⟩, ⟨some 13, (.len 23 (.t 12)), 3, none, 0⟩, ⟨some 14, (.bin .sub 3 (.t 13) (.c (.int .i64 1))), 3, none, 0⟩, ⟨some 5, (.mv (.t 14)), 3, none, 0⟩] (some [0, 1, 4, 5]))
        (.seq
          (.block 2
            (.loop [0, 1, 4, 5] [12160, 8064, 4064, 8, 16, 24, 32, 40, 48, 56, 64, 72, 80, 88, 96, 104, 112, 120, 128] lb_183_3))
          (.seq
            (.seq
              (.region false [⟨some 33, (.mv (.t 5)), 3, none, 0⟩, ⟨some 34, (.bin .lss 3 (.t 33) (.c (.int .i64 0))), 4, none, 0⟩] (some [0, 1, 4, 5, 34]))
              (.cond (.t 34)
                .ret
                .skip))
            (.region false [⟨some 35, (.mv (.t 4)), 23, none, 0⟩, ⟨some 36, (.mv (.t 5)), 3, none, 0⟩, ⟨some 37, (.iaddr 23 (.t 35) (.t 36)), 0, none, 0⟩, ⟨some 38, (.load 3 (.t 37)), 3, none, 0⟩, ⟨some 39, (.bin .add 3 (.t 38) (.c (.int .i64 1))), 3, none, 0⟩, ⟨some 40, (.iaddr 23 (.t 35) (.t 36)), 0, none, 0⟩, ⟨none, (.store 3 (.t 40) (.t 39)), 0, none, 0⟩] (some [0, 1, 4])))))))
def fa_183 : FnA := ⟨41, [],
  (.seq
    (.region false [⟨some 6, (.mv (.t 0)), 23, none, 0⟩, ⟨some 7, (.len 23 (.t 6)), 3, none, 0⟩, ⟨some 8, (.make 23 (.t 7) (.t 7)), 23, none, 0⟩, ⟨some 4, (.mv (.t 8)), 23, none, 0⟩] (some [0, 1, 4]))
    (.block 0
      (.loop [0, 1, 4] [12160, 8064, 4064, 8, 16, 24, 32, 40, 48, 56, 64, 72, 80, 88, 96, 104, 112, 120, 128] lb_183_1)))⟩
theorem fok_183 : FnOk Try.prog 183 fa_183 an_183 := ⟨Try.f183, _, Try.func183, rfl, by kernel_rfl, rfl, rfl, by decide, by kernel_rfl⟩
/-- impl.eachNames -/
def an_148 : Ann := ⟨[(1, 5, 3), (1, 7, 16)], [(0, [1, 2]), (1, [])], [], []⟩
def fa_148 : FnA := ⟨12, [],
  (.seq
    (.region false [⟨some 2, (.box 27 (.t 0)), 0, none, 0⟩] (some [1, 2]))
    (.region false [⟨some 4, (.faddr 27 (.t 2) 0), 0, none, 0⟩, ⟨some 5, (.load 23 (.t 4)), 23, none, 0⟩, ⟨some 6, (.len 23 (.t 5)), 3, none, 0⟩, ⟨some 7, (.bin .sub 3 (.t 6) (.c (.int .i64 1))), 3, none, 0⟩, ⟨some 8, (.bslice 23 1 [(0, (.t 7))]), 23, none, 0⟩, ⟨some 9, (.call (.f 184) [(.t 8), (.c (.int .i64 3))]), 23, none, 3⟩, ⟨some 10, (.mv (.t 1)), 94, none, 0⟩, ⟨some 11, (.call (.f 183) [(.t 9), (.t 10)]), 0, none, 16⟩] (some [])))⟩
theorem fok_148 : FnOk Try.prog 148 fa_148 an_148 := ⟨Try.f148, _, Try.func148, rfl, by kernel_rfl, rfl, rfl, by decide, by kernel_rfl⟩
/-- impl.LeastPower -/
def an_81 : Ann := ⟨[(1, 1, 3), (1, 5, 3), (1, 10, 3), (7, 2, 16)], [(0, [3, 4, 5]), (1, [3, 4, 5, 22]), (2, [6, 7]), (3, [3, 4, 5, 8]), (4, [3, 4, 5, 8, 24]), (6, [3, 4, 5, 8, 9]), (7, [3, 4, 5, 8, 9]), (8, [3, 4, 5, 8, 30]), (9, [6, 7]), (10, [3, 4, 5, 32]), (11, [3, 4, 5, 8]), (5, [3, 4, 5, 8]), (12, [6, 7])], [(4, [3, 4, 5, 8], [64])], []⟩
def lb_81_4 : AC :=
  (.seq
    (.seq
      (.region false [⟨some 23, (.load 3 (.t 8)), 3, none, 0⟩, ⟨some 24, (.bin .leq 3 (.t 23) (.c (.int .i64 20))), 4, none, 0⟩] (some [3, 4, 5, 8, 24]))
      (.cond (.t 24)
        .skip
        (.exit 0)))
    (.seq
      (.block 1
        (.seq
          (.region false [⟨some 9, (.alloc 4), 0, none, 0⟩, ⟨none, (.store 4 (.t 9) (.c (.bool true))), 0, none, 0⟩] (some [3, 4, 5, 8, 9]))
          (.seq
            (.region false [⟨some 27, (.load 27 (.t 3)), 27, none, 0⟩, ⟨some 28, (.mkfn 155 [(.t 9), (.t 3), (.t 4), (.t 8), (.t 5)]), 94, none, 0⟩, ⟨some 29, (.call (.f 148) [(.t 27), (.t 28)]), 0, none, 16⟩] (some [3, 4, 5, 8, 9]))
            (.seq
              (.region false [⟨some 30, (.load 4 (.t 9)), 4, none, 0⟩] (some [3, 4, 5, 8, 30]))
              (.cond (.t 30)
                (.seq
                  (.region false [⟨some 31, (.load 3 (.t 8)), 3, none, 0⟩, ⟨some 6, (.mv (.t 31)), 3, none, 0⟩, ⟨some 7, (.mv (.c (.bool true))), 4, none, 0⟩] (some [6, 7]))
                  .ret)
                .skip)))))
      (.seq
        (.seq
          (.region false [⟨some 32, (.load 3 (.t 8)), 3, none, 0⟩] (some [3, 4, 5, 32]))
          (.region false [⟨some 8, (.alloc 3), 0, none, 0⟩, ⟨none, (.store 3 (.t 8) (.t 32)), 0, none, 0⟩] (some [3, 4, 5, 8])))
        (.region false [⟨some 25, (.load 3 (.t 8)), 3, none, 0⟩, ⟨some 26, (.bin .add 3 (.t 25) (.c (.int .i64 1))), 3, none, 0⟩, ⟨none, (.store 3 (.t 8) (.t 26)), 0, none, 0⟩] (some [3, 4, 5, 8])))))
def fa_81 : FnA := ⟨33, [.t 6, .t 7],
  (.seq
    (.region false [⟨some 3, (.box 27 (.t 0)), 0, none, 0⟩, ⟨some 4, (.box 23 (.t 1)), 0, none, 0⟩, ⟨some 5, (.box 23 (.t 2)), 0, none, 0⟩, ⟨some 6, (.mv (.c (.int .i64 0))), 3, none, 0⟩, ⟨some 7, (.mv (.c (.bool false))), 4, none, 0⟩] (some [3, 4, 5]))
    (.seq
      (.seq
        (.region false (gops [⟨some 10, (.load 27 (.t 3)), 27, none, 0⟩, ⟨some 11, (.call (.f 23) [(.t 10)]), 4, none, 3⟩, ⟨some 12, (.un .not (.t 11)), 4, none, 0⟩, ⟨some 13, (.mv (.t 12)), 4, none, 0⟩, ⟨some 14, (.load 23 (.t 4)), 23, some (13, false), 0⟩, ⟨some 15, (.call (.f 75) [(.t 14)]), 4, some (13, false), 3⟩, ⟨some 16, (.un .not (.t 15)), 4, some (13, false), 0⟩, ⟨some 17, (.pick (.t 13) (.c (.bool true)) (.t 16)), 4, none, 0⟩, ⟨some 18, (.mv (.t 17)), 4, none, 0⟩, ⟨some 19, (.load 23 (.t 5)), 23, some (18, false), 0⟩, ⟨some 20, (.call (.f 75) [(.t 19)]), 4, some (18, false), 3⟩, ⟨some 21, (.un .not (.t 20)), 4, some (18, false), 0⟩, ⟨some 22, (.pick (.t 18) (.c (.bool true)) (.t 21)), 4, none, 0⟩]) (some [3, 4, 5, 22]))
        (.cond (.t 22)
          (.seq
            (.region false [⟨some 6, (.mv (.c (.int .i64 0))), 3, none, 0⟩, ⟨some 7, (.mv (.c (.bool false))), 4, none, 0⟩] (some [6, 7]))
            .ret)
          .skip))
      (.seq
        (.seq
          (.region false [⟨some 8, (.alloc 3), 0, none, 0⟩, ⟨none, (.store 3 (.t 8) (.c (.int .i64 0))), 0, none, 0⟩] (some [3, 4, 5, 8]))
          (.block 0
            (.loop [3, 4, 5, 8] [64] lb_81_4)))
        (.seq
          (.region false [⟨some 6, (.mv (.c (.int .i64 0))), 3, none, 0⟩, ⟨some 7, (.mv (.c (.bool false))), 4, none, 0⟩] (some [6, 7]))
          .ret))))⟩
theorem fok_81 : FnOk Try.prog 81 fa_81 an_81 := ⟨Try.f81, _, Try.func81, rfl, by kernel_rfl, rfl, rfl, by decide, by kernel_rfl⟩
end Go.PS
end

section
-- Contracts: lists of elements for the names, powers, the least power of the reference.
set_option maxRecDepth 100000
set_option linter.unusedVariables false
set_option linter.unusedSimpArgs false
namespace Go.PS
open Go.Proofs

theorem powS_pc (u : List Int) (t : List (List Int)) (x k : Int) (f : TF u t) (hx0 : 0 ≤ x) (hx : x.toNat < u.length) (hk0 : 0 ≤ k) (hk : k ≤ 1000000) : PC Try.prog 126 [AL u t, I64 x, I64 k] none true (fun r _ => r = I64 (powM u t x.toNat k.toNat)) := by
  obtain ⟨x, rfl⟩ := Int.eq_ofNat_of_zero_le hx0
  obtain ⟨k, rfl⟩ := Int.eq_ofNat_of_zero_le hk0
  simp at hx
  have h6 := f.lat.six
  refine pcT [] fok_126 ?_
  simp [fa_126, wrap64 (n := (u.length : Int) - 1) (by omega) (by omega)]
  refine loopA (tabK_mono _) k (fun i => [(2, I64 ((k : Int) - i)), (7, I64 (powM u t x i))]) (fun _ => []) (fun _ => True) (by simp [powM]) (by simp) (fun i g hi _ => ?_)
  have hr := powM_rng f hx i
  simp [lb_126_2, f.len, f.rows, hr, hx, show (powM u t x i).toNat < u.length by omega, wrap64 (n := (k : Int) - i - 1) (by omega) (by omega), powM]
  refine ⟨fun h => ⟨by omega, by omega⟩, fun h => by rw [show i = k by omega]⟩
noncomputable def fm_powS : Fam Try.prog := mkFam (X := List Int × List (List Int) × Int × Int) 126 true (fun (u, t, x, k) => [AL u t, I64 x, I64 k]) (fun (u, t, x, k) => (TF u t) ∧ (0 ≤ x) ∧ (x.toNat < u.length) ∧ (0 ≤ k) ∧ (k ≤ 1000000)) (fun (u, t, x, k) => I64 (powM u t x.toNat k.toNat)) (by
  rintro ⟨u, t, x, k⟩ ⟨f, hx0, hx, hk0, hk⟩
  exact powS_pc u t x k f hx0 hx hk0 hk)
@[simp] theorem fm_powS_id : fm_powS.id = 126 := rfl
@[simp] theorem fm_powS_fresh : fm_powS.fresh = true := rfl
@[simp] theorem fm_powS_look (u : List Int) (t : List (List Int)) (x k : Int) (f : TF u t) (hx0 : 0 ≤ x) (hx : x.toNat < u.length) (hk0 : 0 ≤ k) (hk : k ≤ 1000000) : fm_powS.look [AL u t, I64 x, I64 k] = some (I64 (powM u t x.toNat k.toNat)) :=
  lookF_of (X := List Int × List (List Int) × Int × Int) (args := fun (u, t, x, k) => [AL u t, I64 x, I64 k]) (pre := fun (u, t, x, k) => (TF u t) ∧ (0 ≤ x) ∧ (x.toNat < u.length) ∧ (0 ≤ k) ∧ (k ≤ 1000000)) (val := fun (u, t, x, k) => I64 (powM u t x.toNat k.toNat)) (by
  rintro ⟨u, t, x, k⟩ ⟨u', t', x', k'⟩ h
  simp at h
  try simp only [and_assoc] at h
  obtain ⟨rfl, rfl, rfl, rfl⟩ := h
  rfl) (u, t, x, k) ⟨f, hx0, hx, hk0, hk⟩
attribute [irreducible] fm_powS

theorem powI_pc (u : List Int) (t : List (List Int)) (x k : Int) (f : TF u t) (hx0 : 0 ≤ x) (hx : x.toNat < u.length) (hk0 : 0 ≤ k) (hk : k ≤ 1000000) : PC Try.prog 124 [AL u t, I64 x, I64 k] none true (fun r _ => r = I64 (powM u t x.toNat k.toNat)) := by
  obtain ⟨x, rfl⟩ := Int.eq_ofNat_of_zero_le hx0
  obtain ⟨k, rfl⟩ := Int.eq_ofNat_of_zero_le hk0
  simp at hx
  have h6 := f.lat.six
  refine pcT [] fok_124 ?_
  simp [fa_124, wrap64 (n := (u.length : Int) - 1) (by omega) (by omega)]
  refine loopA (tabK_mono _) k (fun i => [(2, I64 ((k : Int) - i)), (7, I64 (powM u t x i))]) (fun _ => []) (fun _ => True) (by simp [powM]) (by simp) (fun i g hi _ => ?_)
  have hr := powM_rng f hx i
  simp [lb_124_2, f.len, f.rows, hr, hx, show (powM u t x i).toNat < u.length by omega, wrap64 (n := (k : Int) - i - 1) (by omega) (by omega), powM]
  refine ⟨fun h => ⟨by omega, by omega⟩, fun h => by rw [show i = k by omega]⟩
noncomputable def fm_powI : Fam Try.prog := mkFam (X := List Int × List (List Int) × Int × Int) 124 true (fun (u, t, x, k) => [AL u t, I64 x, I64 k]) (fun (u, t, x, k) => (TF u t) ∧ (0 ≤ x) ∧ (x.toNat < u.length) ∧ (0 ≤ k) ∧ (k ≤ 1000000)) (fun (u, t, x, k) => I64 (powM u t x.toNat k.toNat)) (by
  rintro ⟨u, t, x, k⟩ ⟨f, hx0, hx, hk0, hk⟩
  exact powI_pc u t x k f hx0 hx hk0 hk)
@[simp] theorem fm_powI_id : fm_powI.id = 124 := rfl
@[simp] theorem fm_powI_fresh : fm_powI.fresh = true := rfl
@[simp] theorem fm_powI_look (u : List Int) (t : List (List Int)) (x k : Int) (f : TF u t) (hx0 : 0 ≤ x) (hx : x.toNat < u.length) (hk0 : 0 ≤ k) (hk : k ≤ 1000000) : fm_powI.look [AL u t, I64 x, I64 k] = some (I64 (powM u t x.toNat k.toNat)) :=
  lookF_of (X := List Int × List (List Int) × Int × Int) (args := fun (u, t, x, k) => [AL u t, I64 x, I64 k]) (pre := fun (u, t, x, k) => (TF u t) ∧ (0 ≤ x) ∧ (x.toNat < u.length) ∧ (0 ≤ k) ∧ (k ≤ 1000000)) (val := fun (u, t, x, k) => I64 (powM u t x.toNat k.toNat)) (by
  rintro ⟨u, t, x, k⟩ ⟨u', t', x', k'⟩ h
  simp at h
  try simp only [and_assoc] at h
  obtain ⟨rfl, rfl, rfl, rfl⟩ := h
  rfl) (u, t, x, k) ⟨f, hx0, hx, hk0, hk⟩
attribute [irreducible] fm_powI

theorem assignments_pc (n : Int) (h0 : 0 ≤ n) (h6 : n ≤ 6) : PC Try.prog 150 [I64 n] none false (fun r _ => r = RL (asgK n.toNat 3)) := by
  obtain ⟨n, rfl⟩ := Int.eq_ofNat_of_zero_le h0
  have h6 : n ≤ 6 := by omega
  refine pcT [] fok_150 ?_
  simp [fa_150]
  refine loopA (tabK_mono _) 3 (fun i => [(3, RL (asgK n i)), (4, I64 i)]) (fun _ => []) (fun _ => True) (by simp [asgK, rowsD, ints]) (by simp) (fun i g hi _ => ?_)
  simp [lb_150_3, wrap_succ hi (by omega)]
  refine ⟨fun h => ?_, fun h => by rw [show i = 3 by omega]⟩
  have hlen : (asgK n i).length ≤ 36 := by
    rw [asgK_length]
    have : i = 0 ∨ i = 1 ∨ i = 2 := by omega
    rcases this with rfl | rfl | rfl
    · simp
    · simp; omega
    · have := Nat.pow_le_pow_left h6 2; omega
  have hrow : ∀ j, j < (asgK n i).length → (gr (asgK n i) j).length = i := fun j hj => asgK_row n i _ (by simp [gr, List.getElem?_eq_getElem hj])
  have hnx : asgK n (i + 1) = nxt n (asgK n i) := rfl
  generalize asgK n i = o at *
  refine loopX (tabK_mono _) o.length (fun j γ => [(5, .arr 112 γ), (6, I64 j)]) (fun j γ => [⟨112, γ, .arr 1 (orowsD (nxt n (o.take j)))⟩]) (fun _ _ => True) g (by simp) (by simp [nxt, orowsD]) trivial (fun j γ g2 hj _ => ?_)
  simp [lb_150_7, wrap_succ hj (by omega)]
  refine ⟨fun h2 => ?_, fun h2 => ?_⟩
  · refine loopX (tabK_mono _) n (fun x γ => [(5, .arr 112 γ), (7, I64 x)]) (fun x γ => [⟨112, γ, .arr 1 (orowsD (nxt n (o.take j) ++ (List.range x).map fun (z : Nat) => gr o j ++ [(z : Int)]))⟩]) (fun _ _ => True) γ (by simp) (by simp) trivial (fun x γ g3 hx _ => ?_)
    simp [lb_150_10, wrap_succ hx (by omega)]
    refine ⟨fun h3 => ?_, fun h3 => ?_⟩
    · have e1 := hrow j h2
      have e2 : j * n ≤ 36 * 6 := Nat.mul_le_mul (by omega) h6
      have e3 : (nxt n (List.take j o)).length = j * n := by rw [nxt_length, List.length_take, Nat.min_eq_left hj]
      have e4 : big = 1048576 * 1048576 := rfl
      refine ⟨h2, by omega, by omega, by omega, h3, by rw [List.range_succ, List.map_append]; rfl⟩
    · obtain rfl : x = n := by omega
      rw [← nxt_take h2]
      exact ⟨h2, γ, ⟨rfl, wrap_succ hj (by omega)⟩, rfl, rfl⟩
  · obtain rfl : j = o.length := by omega
    rw [List.take_length]
    exact ⟨by omega, hnx.symm, wrap_succ hi (by omega)⟩
noncomputable def fm_assignments : Fam Try.prog := mkFam (X := Int) 150 false (fun n => [I64 n]) (fun n => (0 ≤ n) ∧ (n ≤ 6)) (fun n => RL (asgK n.toNat 3)) (by
  rintro n ⟨h0, h6⟩
  exact assignments_pc n h0 h6)
@[simp] theorem fm_assignments_id : fm_assignments.id = 150 := rfl
@[simp] theorem fm_assignments_fresh : fm_assignments.fresh = false := rfl
@[simp] theorem fm_assignments_look (n : Int) (h0 : 0 ≤ n) (h6 : n ≤ 6) : fm_assignments.look [I64 n] = some (RL (asgK n.toNat 3)) :=
  lookF_of (X := Int) (args := fun n => [I64 n]) (pre := fun n => (0 ≤ n) ∧ (n ≤ 6)) (val := fun n => RL (asgK n.toNat 3)) (by
  intro n n' h
  simp at h
  subst h
  rfl) n ⟨h0, h6⟩
attribute [irreducible] fm_assignments

theorem all_gr {A : List (List Int)} {p : List Int → Bool} : A.all p = true ↔ ∀ j, j < A.length → p (gr A j) = true := by
  rw [List.all_eq_true]
  constructor
  · intro h j hj
    exact h _ (by simp [gr, List.getElem?_eq_getElem hj])
  · intro h x hx
    obtain ⟨j, hj, rfl⟩ := List.getElem_of_mem hx
    have := h j hj
    simpa [gr, List.getElem?_eq_getElem hj] using this

theorem okP_up {u : List Int} {t : List (List Int)} (a : VA u t) {p q nm : List Int} (hp : validT p) (hq : validT q) (hn : NmOk nm u.length) {k : Nat} (h : okP u t p q k nm = true) : ∀ i, okP u t p q (k + i) nm = true
  | 0 => h
  | i + 1 => okP_mono a hp hq hn (okP_up a hp hq hn h i)

theorem leastS_pc (u : List Int) (t : List (List Int)) (p q : List Int) (hu : Big u.length) (ht : BigR t) (hp : Big p.length) (hq : Big q.length) : PC Try.prog 82 [AL u t, IL p, IL q] none true (fun r _ => r = .tup [I64 (lpM u t p q).1, .bool (lpM u t p q).2]) := by
  have hul := hu.le
  refine pcT [fm_validAlgebraS, fm_validTermS, fm_assignments, fm_powS, fm_valueS, fm_belowS] fok_82 ?_
  simp [fa_82]
  refine cutW (tabK_mono _) [(25, .bool (!(decide (VA u t) && decide (validT p) && decide (validT q))))] (by simp [hu, ht, hp, hq]; grind) ?_
  cases hb : (decide (VA u t) && decide (validT p) && decide (validT q))
  · simp [lpM, hb]
  simp only [Bool.and_eq_true, decide_eq_true_eq] at hb
  obtain ⟨⟨a, vp⟩, vq⟩ := hb
  have f := a.tf
  have h6 := f.lat.six
  simp [h6, show (u.length : Int) ≤ 6 by omega]
  have hA : ∀ j, j < (asgK u.length 3).length → NmOk (gr (asgK u.length 3) j) u.length := fun j hj => asg3_ok (by simp [gr, List.getElem?_eq_getElem hj])
  have hAl : (asgK u.length 3).length ≤ 216 := by
    rw [asgK_length]
    exact Nat.pow_le_pow_left h6 3
  have elp : lpI u t p q = firstI 21 fun k => (asgK u.length 3).all (okP u t p q k) := rfl
  have ee : lpM u t p q = if 0 ≤ lpI u t p q then (lpI u t p q, true) else (0, false) := by simp [lpM, a, vp, vq]
  rw [ee, elp]
  clear ee elp
  have hall : ∀ k, (asgK u.length 3).all (okP u t p q k) = true ↔ ∀ j, j < (asgK u.length 3).length → okP u t p q k (gr (asgK u.length 3) j) = true := fun k => all_gr
  generalize asgK u.length 3 = A at *
  refine loopX (tabK_mono _) A.length (fun j m => [(9, I64 (m : Nat)), (10, I64 j)]) (fun _ _ => []) (fun j m => m ≤ 20 ∧ (∀ z, z < j → okP u t p q m (gr A z) = true) ∧ ∀ m', m' < m → A.all (okP u t p q m') = false) (0 : Nat) (by simp) (by simp) (by simp) (fun j m g hj hP => ?_)
  obtain ⟨hm, hP1, hP2⟩ := hP
  rcases Nat.lt_or_ge j A.length with h | h
  · have nm := hA j h
    have ho1 := (ev1_ok f nm _ _ _ (Nat.le_refl _) vp.2).1
    have ho2 := (ev1_ok f nm _ _ _ (Nat.le_refl _) vq.2).1
    have eo : ∀ k, okP u t p q k (gr A j) = tb u (powM u t (ev1 u t (gr A j) p).1.toNat k).toNat (ev1 u t (gr A j) q).1.toNat := fun _ => rfl
    simp [lb_82_6, wrap_succ hj (by omega), h, f, nm, hp, hq, vp.some, vq.some]
    generalize hx : (ev1 u t (gr A j) p).1 = x at *
    generalize hy : (ev1 u t (gr A j) q).1 = y at *
    refine loopA (tabK_mono _) (20 - m) (fun i => [(9, I64 ((m + i : Nat)))]) (fun _ => []) (fun i => okP u t p q (m + i) (gr A j) = false) (by simp) (by simp) (fun i g hi hQ => ?_)
    have hr := powM_rng f (x := x.toNat) (by omega) (m + i)
    have s := f.lat.sm
    simp [lb_82_10, f, s, hr, ho1, ho2, show x.toNat < u.length by omega, show y.toNat < u.length by omega, show (0 : Int) ≤ (m : Int) + i by omega, show (m : Int) + i ≤ 1000000 by omega, show ((m : Int) + i).toNat = m + i by omega, show (powM u t x.toNat (m + i)).toNat < u.length by omega, ← eo, wrap64 (n := (m : Int) + i + 1) (by omega) (by omega)]
    have hmem : gr A j ∈ A := by simp [gr, List.getElem?_eq_getElem h]
    have hbad : ∀ m', m' < m + i → A.all (okP u t p q m') = false := fun m' hm' => by
      rcases Nat.lt_or_ge m' m with c | c
      · exact hP2 m' c
      · have := hQ (m' - m) (by omega)
        rw [show m + (m' - m) = m' by omega] at this
        rw [List.all_eq_false]
        exact ⟨_, hmem, by simp [this]⟩
    refine ⟨fun h3 => ⟨fun h4 => ?_, fun h4 => ⟨by omega, by omega, h3⟩⟩, fun h3 => ⟨h, m + i, ⟨by simp, wrap_succ hj (by omega)⟩, by omega, fun z hz => ?_, fun m' hm' => by simpa using hbad m' hm'⟩⟩
    · have hno : (firstI 21 fun k => A.all (okP u t p q k)) = -1 := firstI_none fun k hk => by
        rcases Nat.lt_or_ge k (m + i) with c | c
        · exact hbad k c
        · obtain rfl : k = m + i := by omega
          rw [List.all_eq_false]
          exact ⟨_, hmem, by simp [h3]⟩
      rw [hno]
      simp
    · rcases Nat.lt_or_ge z j with c | c
      · exact okP_up a vp vq (hA z (by omega)) (hP1 z c) i
      · obtain rfl : z = j := by omega
        exact h3
  · obtain rfl : j = A.length := by omega
    simp [lb_82_6]
    rw [firstI_some (z := m) (by omega) ((hall m).2 hP1) hP2]
    simp
noncomputable def fm_leastS : Fam Try.prog := mkFam (X := List Int × List (List Int) × List Int × List Int) 82 true (fun (u, t, p, q) => [AL u t, IL p, IL q]) (fun (u, t, p, q) => (Big u.length) ∧ (BigR t) ∧ (Big p.length) ∧ (Big q.length)) (fun (u, t, p, q) => .tup [I64 (lpM u t p q).1, .bool (lpM u t p q).2]) (by
  rintro ⟨u, t, p, q⟩ ⟨hu, ht, hp, hq⟩
  exact leastS_pc u t p q hu ht hp hq)
@[simp] theorem fm_leastS_id : fm_leastS.id = 82 := rfl
@[simp] theorem fm_leastS_fresh : fm_leastS.fresh = true := rfl
@[simp] theorem fm_leastS_look (u : List Int) (t : List (List Int)) (p q : List Int) (hu : Big u.length) (ht : BigR t) (hp : Big p.length) (hq : Big q.length) : fm_leastS.look [AL u t, IL p, IL q] = some (.tup [I64 (lpM u t p q).1, .bool (lpM u t p q).2]) :=
  lookF_of (X := List Int × List (List Int) × List Int × List Int) (args := fun (u, t, p, q) => [AL u t, IL p, IL q]) (pre := fun (u, t, p, q) => (Big u.length) ∧ (BigR t) ∧ (Big p.length) ∧ (Big q.length)) (val := fun (u, t, p, q) => .tup [I64 (lpM u t p q).1, .bool (lpM u t p q).2]) (by
  rintro ⟨u, t, p, q⟩ ⟨u', t', p', q'⟩ h
  simp at h
  try simp only [and_assoc] at h
  obtain ⟨rfl, rfl, rfl, rfl⟩ := h
  rfl) (u, t, p, q) ⟨hu, ht, hp, hq⟩
attribute [irreducible] fm_leastS

end Go.PS
end
