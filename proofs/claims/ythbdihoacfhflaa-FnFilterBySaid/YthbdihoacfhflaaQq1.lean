/- Part 1 of what the last text proves: The filter made by members is the least one: the law holds at every input. -/
import Derived.Test.YthbdihoacfhflaaQo7
section
-- PRINTED by gen.py: clean texts of functions, and their tie to the program.
set_option maxRecDepth 100000
namespace Go.PS
open Go.Proofs
/-- spec.setOf -/
def an_107 : Ann := ⟨[(1, 1, 16), (2, 2, 3), (2, 4, 16), (3, 2, 3), (3, 3, 16)], [(0, [0, 1]), (1, [0, 1, 7]), (2, [4]), (3, [4])], [], []⟩
def fa_107 : FnA := ⟨17, [.t 4],
  (.seq
    (.region false [⟨some 4, (.mv (.c (.int .i64 0))), 3, none, 0⟩] (some [0, 1]))
    (.seq
      (.seq
        (.region false [⟨some 5, (.mv (.t 0)), 72, none, 0⟩, ⟨some 6, (.call (.f 106) [(.t 5), (.c (.int .i64 24))]), 3, none, 16⟩, ⟨some 7, (.bin .eql 3 (.t 6) (.c (.int .i64 0))), 4, none, 0⟩] (some [0, 1, 7]))
        (.cond (.t 7)
          (.seq
            (.region false [⟨some 8, (.mv (.t 0)), 72, none, 0⟩, ⟨some 9, (.mv (.t 1)), 3, none, 0⟩, ⟨some 10, (.call (.f 121) [(.t 9)]), 3, none, 3⟩, ⟨some 11, (.bslice 23 3 [(0, (.c (.int .i64 (-1)))), (1, (.t 10)), (2, (.c (.int .i64 0)))]), 23, none, 0⟩, ⟨some 12, (.call (.f 161) [(.t 8), (.t 11)]), 3, none, 16⟩, ⟨some 4, (.mv (.t 12)), 3, none, 0⟩] (some [4]))
            .ret)
          .skip))
      (.seq
        (.region false [⟨some 13, (.mv (.t 0)), 72, none, 0⟩, ⟨some 14, (.mv (.t 1)), 3, none, 0⟩, ⟨some 15, (.call (.f 121) [(.t 14)]), 3, none, 3⟩, ⟨some 16, (.call (.f 106) [(.t 13), (.t 15)]), 3, none, 16⟩, ⟨some 4, (.mv (.t 16)), 3, none, 0⟩] (some [4]))
        .ret)))⟩
theorem fok_107 : FnOk Try.prog 107 fa_107 an_107 := ⟨Try.f107, _, Try.func107, rfl, by kernel_rfl, rfl, rfl, by decide, by kernel_rfl⟩
/-- spec.filterOf -/
def an_108 : Ann := ⟨[(1, 1, 3), (1, 5, 16), (2, 5, 16), (3, 1, 3), (4, 4, 16)], [(0, [0, 3]), (1, [0, 3, 13]), (2, [4]), (3, [0, 5]), (4, [4])], [], []⟩
def fa_108 : FnA := ⟨29, [.t 4],
  (.seq
    (.region false [⟨some 3, (.box 27 (.t 1)), 0, none, 0⟩, ⟨some 4, (.mv (.c (.int .i64 0))), 3, none, 0⟩] (some [0, 3]))
    (.seq
      (.seq
        (.region false (gops [⟨some 6, (.load 27 (.t 3)), 27, none, 0⟩, ⟨some 7, (.call (.f 111) [(.t 6)]), 4, none, 3⟩, ⟨some 8, (.un .not (.t 7)), 4, none, 0⟩, ⟨some 9, (.mv (.t 8)), 4, none, 0⟩, ⟨some 10, (.mv (.t 0)), 72, some (9, false), 0⟩, ⟨some 11, (.call (.f 106) [(.t 10), (.c (.int .i64 12))]), 3, some (9, false), 16⟩, ⟨some 12, (.bin .eql 3 (.t 11) (.c (.int .i64 0))), 4, some (9, false), 0⟩, ⟨some 13, (.pick (.t 9) (.c (.bool true)) (.t 12)), 4, none, 0⟩]) (some [0, 3, 13]))
        (.cond (.t 13)
          (.seq
            (.region false [⟨some 14, (.mv (.t 0)), 72, none, 0⟩, ⟨some 15, (.faddr 27 (.t 3) 0), 0, none, 0⟩, ⟨some 16, (.load 23 (.t 15)), 23, none, 0⟩, ⟨some 17, (.len 23 (.t 16)), 3, none, 0⟩, ⟨some 18, (.min (.t 17) (.c (.int .i64 6))), 3, none, 0⟩, ⟨some 19, (.call (.f 107) [(.t 14), (.t 18)]), 3, none, 16⟩, ⟨some 4, (.mv (.t 19)), 3, none, 0⟩] (some [4]))
            .ret)
          .skip))
      (.seq
        (.region false [⟨some 20, (.load 27 (.t 3)), 27, none, 0⟩, ⟨some 21, (.call (.f 119) [(.t 20)]), 23, none, 3⟩, ⟨some 5, (.mv (.t 21)), 23, none, 0⟩] (some [0, 5]))
        (.seq
          (.region false [⟨some 22, (.mv (.t 5)), 23, none, 0⟩, ⟨some 23, (.mv (.t 0)), 72, none, 0⟩, ⟨some 24, (.mv (.t 5)), 23, none, 0⟩, ⟨some 25, (.len 23 (.t 24)), 3, none, 0⟩, ⟨some 26, (.call (.f 106) [(.t 23), (.t 25)]), 3, none, 16⟩, ⟨some 27, (.iaddr 23 (.t 22) (.t 26)), 0, none, 0⟩, ⟨some 28, (.load 3 (.t 27)), 3, none, 0⟩, ⟨some 4, (.mv (.t 28)), 3, none, 0⟩] (some [4]))
          .ret))))⟩
theorem fok_108 : FnOk Try.prog 108 fa_108 an_108 := ⟨Try.f108, _, Try.func108, rfl, by kernel_rfl, rfl, rfl, by decide, by kernel_rfl⟩
end Go.PS
end

section
-- Contracts: sets and filters that are drawn.
set_option maxRecDepth 100000
set_option linter.unusedVariables false
set_option linter.unusedSimpArgs false
namespace Go.PS
open Go.Proofs

theorem callDOTR {T : List (Fam Try.prog)} {TW : List (FamW Try.prog)} {n kb kb' id : Nat} {caps args : List D} {σ : St} {d : Option Nat} {ops : List AOper} {Q : St → Prop} (hn : (id == 90) = false) (hw : (findW id TW).isNone = true) : callDO (CI inlR) kb' (inlW (CI inlR) T TW n kb) d 3 (.fn id caps) args σ ops Q = tab2 (findF id T) (args ++ caps) σ.h (fun v => opsKc (CI inlR) kb' (inlW (CI inlR) T TW n kb) ops ⟨put σ.t d (imm 5 v), σ.h, σ.g⟩ Q) :=
  callDO3W' (by show inlR id = none; unfold inlR; rw [if_neg (by simpa using hn)]) hw
/-- A set of elements, most often. -/
def soM (b : List Int) (p : Nat) (n : Nat) : Int := if pkM b p 24 = 0 then gi [-1, 2 ^ n, 0] (pkM b (p + 1) 3).toNat else pkM b (p + 1) (2 ^ n)
theorem setOf_pc (b : List Int) (p : Nat) (n : Int) (hb : BB b) (hp : p ≤ 1000000) (h0 : 0 ≤ n) (h6 : n ≤ 6) (hp2 : p ≤ 999000) : PC Try.prog 107 (.ptr 0 0 0 :: [I64 n]) (some (RS b p)) false (fun r c => imm 5 r = imm 5 (I64 (soM b p n.toNat)) ∧ c = (RS b (p + 2))) := by
  obtain ⟨n, rfl⟩ := Int.eq_ofNat_of_zero_le h0
  have h6 : n ≤ 6 := by omega
  have h64 := p2le h6
  have hp2' : (2 : Int) ^ n ≤ 1099511627776 := by rw [p2i]; omega
  have l1 : fw_one.look [.ptr 0 0 0, .list 1 [.int .i64 (-1), .int .i64 (2 ^ n), .int .i64 0]] (RS b (p + 1)) = some (I64 (gi [-1, 2 ^ n, 0] (pkM b (p + 1) 3).toNat), RS b (p + 2)) := fw_one_look b (p + 1) [-1, 2 ^ n, 0] hb (by omega) (by unfold Big; simp) (by simp)
  refine pcW [fm_power] [fw_pick, fw_one] fok_107 ?_
  simp [fa_107, callOW, callOT, hb, hp, h6, l1, rg3, hp2', show (n : Int) ≤ 61 by omega, show p + 1 ≤ 1000000 by omega]
  exact ⟨fun h => by simp [soM, h], fun h => by simp [soM, h]⟩
noncomputable def fw_setOf : FamW Try.prog := mkFamW (X := List Int × Nat × Int) 107 (fun (b, p, n) => (.ptr 0 0 0 :: [I64 n])) (fun (b, p, n) => (RS b p)) (fun (b, p, n) => (BB b) ∧ (p ≤ 1000000) ∧ (0 ≤ n) ∧ (n ≤ 6) ∧ (p ≤ 999000)) (fun (b, p, n) => I64 (soM b p n.toNat)) (fun (b, p, n) => (RS b (p + 2))) (by
  rintro ⟨b, p, n⟩ ⟨hb, hp, h0, h6, hp2⟩
  exact setOf_pc b p n hb hp h0 h6 hp2)
@[simp] theorem fw_setOf_id : fw_setOf.id = 107 := rfl
@[simp] theorem fw_setOf_look (b : List Int) (p : Nat) (n : Int) (hb : BB b) (hp : p ≤ 1000000) (h0 : 0 ≤ n) (h6 : n ≤ 6) (hp2 : p ≤ 999000) : fw_setOf.look (.ptr 0 0 0 :: [I64 n]) (RS b p) = some (I64 (soM b p n.toNat), (RS b (p + 2))) :=
  lookG_of (X := List Int × Nat × Int) (args := fun (b, p, n) => (.ptr 0 0 0 :: [I64 n])) (cell := fun (b, p, n) => (RS b p)) (pre := fun (b, p, n) => (BB b) ∧ (p ≤ 1000000) ∧ (0 ≤ n) ∧ (n ≤ 6) ∧ (p ≤ 999000)) (val := fun (b, p, n) => I64 (soM b p n.toNat)) (cell' := fun (b, p, n) => (RS b (p + 2))) (by
  rintro ⟨b, p, n⟩ ⟨b', p', n'⟩ h h2
  simp at h h2
  try simp only [and_assoc] at h
  obtain ⟨rfl, rfl⟩ := h2
  subst h
  exact ⟨rfl, rfl⟩) (b, p, n) ⟨hb, hp, h0, h6, hp2⟩
attribute [irreducible] fw_setOf
/-- The least of a number and 6. -/
abbrev mn6 (n : Nat) : Nat := if 6 < n then 6 else n
theorem mn6_le {n : Nat} : mn6 n ≤ 6 := by unfold mn6; split <;> omega
theorem mn6_int {n : Nat} : (if (6 : Int) < n then (6 : Int) else n) = (mn6 n : Nat) := by unfold mn6; split <;> split <;> omega
/-- A filter, most often, and how many numbers have been drawn. -/
noncomputable def foM (b : List Int) (p : Nat) (u : List Int) (t : List (List Int)) : Int × Nat :=
  if VA u t then (if pkM b p 12 = 0 then (soM b (p + 1) (mn6 u.length), p + 3) else (gi (natL (filN u t (2 ^ u.length))) (pkM b (p + 1) (filN u t (2 ^ u.length)).length).toNat, p + 2)) else (soM b p (mn6 u.length), p + 2)
theorem filterOf_pc (b : List Int) (p : Nat) (u : List Int) (t : List (List Int)) (hb : BB b) (hp : p ≤ 1000000) (hu : Big u.length) (ht : BigR t) (hp2 : p ≤ 990000) : PC Try.prog 108 (.ptr 0 0 0 :: [AL u t]) (some (RS b p)) false (fun r c => imm 5 r = imm 5 (I64 (foM b p u t).1) ∧ c = (RS b ((foM b p u t).2))) := by
  have hm := mn6_le (n := u.length)
  have hm2 := mn6_int (n := u.length)
  refine pcW [fm_validAlgebraS, fm_filS] [fw_pick, fw_setOf] fok_108 ?_
  generalize hme : mn6 u.length = m at *
  by_cases a : VA u t
  · have h6 := a.lat.six
    have h64 := p2le h6
    have hn := filN_len (u := u) (t := t) (m := 2 ^ u.length)
    have hpos : 0 < (filN u t (2 ^ u.length)).length := List.length_pos_of_mem (mem_fil.2 (fi_all a))
    have hr := pkM_rng hb (p := p + 1) (by omega) (n := (filN u t (2 ^ u.length)).length) (by omega)
    by_cases c : pkM b p 12 = 0
    · simp [gops, fa_108, foM, callOW, callOT, hb, hp, hu, ht, show (m : Int) ≤ 6 by omega, hm2, a, c, hme, show p + 1 ≤ 999000 by omega, show p + 1 ≤ 1000000 by omega]
    · generalize hL : filN u t (2 ^ u.length) = l at *
      simp [gops, fa_108, foM, callOW, callOT, hb, hp, hu, ht, a, c, hL, hr, show p + 1 ≤ 1000000 by omega, show (l.length : Int) ≤ 1099511627776 by omega]
  · simp [gops, fa_108, foM, callOW, callOT, hb, hp, hu, ht, show (m : Int) ≤ 6 by omega, hm2, a, hme, show p ≤ 999000 by omega]
noncomputable def fw_filterOf : FamW Try.prog := mkFamW (X := List Int × Nat × List Int × List (List Int)) 108 (fun (b, p, u, t) => (.ptr 0 0 0 :: [AL u t])) (fun (b, p, u, t) => (RS b p)) (fun (b, p, u, t) => (BB b) ∧ (p ≤ 1000000) ∧ (Big u.length) ∧ (BigR t) ∧ (p ≤ 990000)) (fun (b, p, u, t) => I64 (foM b p u t).1) (fun (b, p, u, t) => (RS b ((foM b p u t).2))) (by
  rintro ⟨b, p, u, t⟩ ⟨hb, hp, hu, ht, hp2⟩
  exact filterOf_pc b p u t hb hp hu ht hp2)
@[simp] theorem fw_filterOf_id : fw_filterOf.id = 108 := rfl
@[simp] theorem fw_filterOf_look (b : List Int) (p : Nat) (u : List Int) (t : List (List Int)) (hb : BB b) (hp : p ≤ 1000000) (hu : Big u.length) (ht : BigR t) (hp2 : p ≤ 990000) : fw_filterOf.look (.ptr 0 0 0 :: [AL u t]) (RS b p) = some (I64 (foM b p u t).1, (RS b ((foM b p u t).2))) :=
  lookG_of (X := List Int × Nat × List Int × List (List Int)) (args := fun (b, p, u, t) => (.ptr 0 0 0 :: [AL u t])) (cell := fun (b, p, u, t) => (RS b p)) (pre := fun (b, p, u, t) => (BB b) ∧ (p ≤ 1000000) ∧ (Big u.length) ∧ (BigR t) ∧ (p ≤ 990000)) (val := fun (b, p, u, t) => I64 (foM b p u t).1) (cell' := fun (b, p, u, t) => (RS b ((foM b p u t).2))) (by
  rintro ⟨b, p, u, t⟩ ⟨b', p', u', t'⟩ h h2
  simp at h h2
  try simp only [and_assoc] at h
  obtain ⟨rfl, rfl⟩ := h2
  obtain ⟨rfl, rfl⟩ := h
  exact ⟨rfl, rfl⟩) (b, p, u, t) ⟨hb, hp, hu, ht, hp2⟩
attribute [irreducible] fw_filterOf
theorem foM_p {b : List Int} {p : Nat} {u : List Int} {t : List (List Int)} : (foM b p u t).2 ≤ p + 3 := by
  unfold foM
  split
  · split
    · show p + 3 ≤ p + 3; omega
    · show p + 2 ≤ p + 3; omega
  · show p + 2 ≤ p + 3; omega
end Go.PS
end

section
-- PRINTED by gen.py: clean texts of functions, and their tie to the program.
set_option maxRecDepth 100000
namespace Go.PS
open Go.Proofs
/-- spec.DrawFilterBy -/
def ex_49_4_1023 : Ex := .fin
def ex_49_4_511 : Ex := .one 9 ex_49_4_1023
def ex_49_4_255 : Ex := (.alt 8 ex_49_4_511 .stop)
def ex_49_4_254 : Ex := (.alt 0 ex_49_4_255 .stop)
def ex_49_4_127 : Ex := (.alt 7 ex_49_4_255 .stop)
def ex_49_4_126 : Ex := (.alt 0 ex_49_4_127 (.alt 7 ex_49_4_254 .stop))
def ex_49_4_63 : Ex := (.alt 6 ex_49_4_127 .stop)
def ex_49_4_62 : Ex := (.alt 0 ex_49_4_63 (.alt 6 ex_49_4_126 .stop))
def ex_49_4_30 : Ex := .one 5 ex_49_4_62
def ex_49_4_31 : Ex := .one 5 ex_49_4_63
def ex_49_4_15 : Ex := (.alt 4 ex_49_4_31 .stop)
def ex_49_4_14 : Ex := (.alt 0 ex_49_4_15 (.alt 4 ex_49_4_30 .stop))
def ex_49_4_7 : Ex := (.alt 3 ex_49_4_15 .stop)
def ex_49_4_6 : Ex := (.alt 0 ex_49_4_7 (.alt 3 ex_49_4_14 .stop))
def ex_49_4_3 : Ex := (.alt 2 ex_49_4_7 .stop)
def ex_49_4_2 : Ex := (.alt 0 ex_49_4_3 (.alt 2 ex_49_4_6 .stop))
def ex_49_4_0 : Ex := .one 1 ex_49_4_2
def ro_49_4 : List AOper := [⟨some 13, (.load 27 (.t 5)), 27, none, 0⟩, ⟨some 14, (.mv (.t 4)), 72, none, 0⟩, ⟨some 15, (.faddr 27 (.t 5) 0), 0, none, 0⟩, ⟨some 16, (.load 23 (.t 15)), 23, none, 0⟩, ⟨some 17, (.len 23 (.t 16)), 3, none, 0⟩, ⟨some 18, (.min (.t 17) (.c (.int .i64 6))), 3, none, 0⟩, ⟨some 19, (.call (.f 106) [(.t 14), (.t 18)]), 3, none, 16⟩, ⟨some 20, (.call (.f 121) [(.t 19)]), 3, none, 3⟩, ⟨none, (.store 27 (.t 2) (.t 13)), 0, none, 0⟩, ⟨some 3, (.mv (.t 20)), 3, none, 0⟩]
theorem ro_49_4_0 : ro_49_4[0]? = some ⟨some 13, (.load 27 (.t 5)), 27, none, 0⟩ := (rfl)
theorem ro_49_4_1 : ro_49_4[1]? = some ⟨some 14, (.mv (.t 4)), 72, none, 0⟩ := (rfl)
theorem ro_49_4_2 : ro_49_4[2]? = some ⟨some 15, (.faddr 27 (.t 5) 0), 0, none, 0⟩ := (rfl)
theorem ro_49_4_3 : ro_49_4[3]? = some ⟨some 16, (.load 23 (.t 15)), 23, none, 0⟩ := (rfl)
theorem ro_49_4_4 : ro_49_4[4]? = some ⟨some 17, (.len 23 (.t 16)), 3, none, 0⟩ := (rfl)
theorem ro_49_4_5 : ro_49_4[5]? = some ⟨some 18, (.min (.t 17) (.c (.int .i64 6))), 3, none, 0⟩ := (rfl)
theorem ro_49_4_6 : ro_49_4[6]? = some ⟨some 19, (.call (.f 106) [(.t 14), (.t 18)]), 3, none, 16⟩ := (rfl)
theorem ro_49_4_7 : ro_49_4[7]? = some ⟨some 20, (.call (.f 121) [(.t 19)]), 3, none, 3⟩ := (rfl)
theorem ro_49_4_8 : ro_49_4[8]? = some ⟨none, (.store 27 (.t 2) (.t 13)), 0, none, 0⟩ := (rfl)
theorem ro_49_4_9 : ro_49_4[9]? = some ⟨some 3, (.mv (.t 20)), 3, none, 0⟩ := (rfl)
def ex_49_5_511 : Ex := .fin
def ex_49_5_255 : Ex := .one 8 ex_49_5_511
def ex_49_5_127 : Ex := (.alt 7 ex_49_5_255 .stop)
def ex_49_5_126 : Ex := (.alt 0 ex_49_5_127 .stop)
def ex_49_5_63 : Ex := (.alt 6 ex_49_5_127 .stop)
def ex_49_5_62 : Ex := (.alt 0 ex_49_5_63 (.alt 6 ex_49_5_126 .stop))
def ex_49_5_30 : Ex := .one 5 ex_49_5_62
def ex_49_5_31 : Ex := .one 5 ex_49_5_63
def ex_49_5_15 : Ex := (.alt 4 ex_49_5_31 .stop)
def ex_49_5_14 : Ex := (.alt 0 ex_49_5_15 (.alt 4 ex_49_5_30 .stop))
def ex_49_5_7 : Ex := (.alt 3 ex_49_5_15 .stop)
def ex_49_5_6 : Ex := (.alt 0 ex_49_5_7 (.alt 3 ex_49_5_14 .stop))
def ex_49_5_3 : Ex := (.alt 2 ex_49_5_7 .stop)
def ex_49_5_2 : Ex := (.alt 0 ex_49_5_3 (.alt 2 ex_49_5_6 .stop))
def ex_49_5_0 : Ex := .one 1 ex_49_5_2
def ro_49_5 : List AOper := [⟨some 21, (.load 27 (.t 5)), 27, none, 0⟩, ⟨some 22, (.mv (.t 4)), 72, none, 0⟩, ⟨some 23, (.faddr 27 (.t 5) 0), 0, none, 0⟩, ⟨some 24, (.load 23 (.t 23)), 23, none, 0⟩, ⟨some 25, (.len 23 (.t 24)), 3, none, 0⟩, ⟨some 26, (.min (.t 25) (.c (.int .i64 6))), 3, none, 0⟩, ⟨some 27, (.call (.f 107) [(.t 22), (.t 26)]), 3, none, 16⟩, ⟨none, (.store 27 (.t 2) (.t 21)), 0, none, 0⟩, ⟨some 3, (.mv (.t 27)), 3, none, 0⟩]
theorem ro_49_5_0 : ro_49_5[0]? = some ⟨some 21, (.load 27 (.t 5)), 27, none, 0⟩ := (rfl)
theorem ro_49_5_1 : ro_49_5[1]? = some ⟨some 22, (.mv (.t 4)), 72, none, 0⟩ := (rfl)
theorem ro_49_5_2 : ro_49_5[2]? = some ⟨some 23, (.faddr 27 (.t 5) 0), 0, none, 0⟩ := (rfl)
theorem ro_49_5_3 : ro_49_5[3]? = some ⟨some 24, (.load 23 (.t 23)), 23, none, 0⟩ := (rfl)
theorem ro_49_5_4 : ro_49_5[4]? = some ⟨some 25, (.len 23 (.t 24)), 3, none, 0⟩ := (rfl)
theorem ro_49_5_5 : ro_49_5[5]? = some ⟨some 26, (.min (.t 25) (.c (.int .i64 6))), 3, none, 0⟩ := (rfl)
theorem ro_49_5_6 : ro_49_5[6]? = some ⟨some 27, (.call (.f 107) [(.t 22), (.t 26)]), 3, none, 16⟩ := (rfl)
theorem ro_49_5_7 : ro_49_5[7]? = some ⟨none, (.store 27 (.t 2) (.t 21)), 0, none, 0⟩ := (rfl)
theorem ro_49_5_8 : ro_49_5[8]? = some ⟨some 3, (.mv (.t 27)), 3, none, 0⟩ := (rfl)
def an_49 : Ann := ⟨[(1, 1, 16), (2, 1, 16), (3, 1, 16), (4, 6, 16), (4, 7, 3), (5, 6, 16)], [(0, [0, 2]), (1, [2, 4]), (2, [2, 4, 5]), (3, [2, 4, 5, 12]), (4, [2, 3]), (5, [2, 3])], [], [(4, ex_49_4_0, [16, 72, 216]), (5, ex_49_5_0, [16, 72, 216])]⟩
def fa_49 : FnA := ⟨28, [.c 2 27, .t 3],
  (.seq
    (.region false [⟨some 2, (.alloc 27), 0, none, 0⟩, ⟨some 3, (.mv (.c (.int .i64 0))), 3, none, 0⟩] (some [0, 2]))
    (.seq
      (.region false [⟨some 6, (.mv (.t 0)), 22, none, 0⟩, ⟨some 7, (.call (.f 90) [(.t 6)]), 72, none, 16⟩, ⟨some 4, (.mv (.t 7)), 72, none, 0⟩] (some [2, 4]))
      (.seq
        (.region false [⟨some 8, (.mv (.t 4)), 72, none, 0⟩, ⟨some 9, (.call (.f 105) [(.t 8)]), 27, none, 16⟩, ⟨some 5, (.alloc 27), 0, none, 0⟩, ⟨none, (.store 27 (.t 5) (.t 9)), 0, none, 0⟩] (some [2, 4, 5]))
        (.seq
          (.seq
            (.region false [⟨some 10, (.mv (.t 4)), 72, none, 0⟩, ⟨some 11, (.call (.f 106) [(.t 10), (.c (.int .i64 2))]), 3, none, 16⟩, ⟨some 12, (.bin .eql 3 (.t 11) (.c (.int .i64 0))), 4, none, 0⟩] (some [2, 4, 5, 12]))
            (.cond (.t 12)
              (.seq
                (.expl ro_49_4 ex_49_4_0 [2, 3] [16, 72, 216])
                .ret)
              .skip))
          (.seq
            (.expl ro_49_5 ex_49_5_0 [2, 3] [16, 72, 216])
            .ret)))))⟩
theorem fok_49 : FnOk Try.prog 49 fa_49 an_49 := ⟨Try.f49, _, Try.func49, rfl, by kernel_rfl, rfl, rfl, by decide, by kernel_rfl⟩
/-- laws.FnFilterBy -/
def an_9 : Ann := ⟨[(3, 1, 3), (4, 2, 3), (5, 3, 3), (6, 3, 3), (7, 2, 3), (10, 7, 3), (13, 8, 3), (15, 7, 3), (15, 9, 3), (15, 12, 3)], [(0, [0]), (1, [0, 10]), (2, [2]), (3, [3, 4]), (4, [3, 4, 5]), (5, [3, 4, 5, 27]), (6, [2]), (7, [3, 4, 5, 43]), (8, [2]), (9, [3, 4, 5, 6]), (10, [3, 4, 5, 6, 53]), (12, [3, 4, 5, 6, 7]), (13, [3, 4, 5, 6, 7, 66]), (15, [3, 4, 5, 6, 7, 83]), (16, [2]), (14, [3, 4, 5, 6, 7]), (11, [3, 4, 5, 6]), (17, [2])], [(10, [3, 4, 5, 6], [24]), (13, [3, 4, 5, 6, 7], [24])], []⟩
def lb_9_13 : AC :=
  (.seq
    (.seq
      (.region false (gops [⟨some 56, (.mv (.t 7)), 3, none, 0⟩, ⟨some 57, (.faddr 27 (.t 3) 0), 0, none, 0⟩, ⟨some 58, (.load 23 (.t 57)), 23, none, 0⟩, ⟨some 59, (.len 23 (.t 58)), 3, none, 0⟩, ⟨some 60, (.bin .lss 3 (.t 56) (.t 59)), 4, none, 0⟩, ⟨some 61, (.mv (.t 60)), 4, none, 0⟩, ⟨some 62, (.mv (.t 4)), 3, some (61, true), 0⟩, ⟨some 63, (.mv (.t 6)), 3, some (61, true), 0⟩, ⟨some 64, (.call (.f 47) [(.t 62), (.t 63)]), 3, some (61, true), 3⟩, ⟨some 65, (.bin .eql 3 (.t 64) (.c (.int .i64 1))), 4, some (61, true), 0⟩, ⟨some 66, (.pick (.t 61) (.t 65) (.c (.bool false))), 4, none, 0⟩]) (some [3, 4, 5, 6, 7, 66]))
      (.cond (.t 66)
        .skip
        (.exit 2)))
    (.seq
      (.block 3
        (.seq
          (.region true [⟨some 69, (.faddr 27 (.t 3) 0), 0, none, 0⟩, ⟨some 70, (.load 23 (.t 69)), 23, none, 0⟩, ⟨some 71, (.load 27 (.t 3)), 27, none, 0⟩, ⟨some 72, (.mv (.t 6)), 3, none, 0⟩, ⟨some 73, (.faddr 27 (.t 3) 0), 0, none, 0⟩, ⟨some 74, (.load 23 (.t 73)), 23, none, 0⟩, ⟨some 75, (.len 23 (.t 74)), 3, none, 0⟩, ⟨some 76, (.call (.f 48) [(.t 71), (.t 72), (.t 75)]), 3, none, 3⟩, ⟨some 77, (.mv (.t 7)), 3, none, 0⟩, ⟨some 78, (.call (.f 52) [(.t 70), (.t 76), (.t 77)]), 4, none, 3⟩, ⟨some 79, (.mv (.t 5)), 3, none, 0⟩, ⟨some 80, (.mv (.t 7)), 3, none, 0⟩, ⟨some 81, (.call (.f 47) [(.t 79), (.t 80)]), 3, none, 3⟩, ⟨some 82, (.bin .eql 3 (.t 81) (.c (.int .i64 1))), 4, none, 0⟩, ⟨some 83, (.bin .neq 4 (.t 78) (.t 82)), 4, none, 0⟩] (some [3, 4, 5, 6, 7, 83]))
          (.cond (.t 83)
            (.seq
              (.region false [⟨some 2, (.mv (.c (.bool false))), 4, none, 0⟩] (some [2]))
              .ret)
            .skip)))
      (.region false [⟨some 67, (.mv (.t 7)), 3, none, 0⟩, ⟨some 68, (.bin .add 3 (.t 67) (.c (.int .i64 1))), 3, none, 0⟩, ⟨some 7, (.mv (.t 68)), 3, none, 0⟩] (some [3, 4, 5, 6, 7]))))
def lb_9_10 : AC :=
  (.seq
    (.seq
      (.region false (gops [⟨some 44, (.mv (.t 6)), 3, none, 0⟩, ⟨some 45, (.faddr 27 (.t 3) 0), 0, none, 0⟩, ⟨some 46, (.load 23 (.t 45)), 23, none, 0⟩, ⟨some 47, (.len 23 (.t 46)), 3, none, 0⟩, ⟨some 48, (.bin .lss 3 (.t 44) (.t 47)), 4, none, 0⟩, ⟨some 49, (.mv (.t 48)), 4, none, 0⟩, ⟨some 50, (.mv (.t 4)), 3, some (49, true), 0⟩, ⟨some 51, (.call (.f 51) [(.t 50)]), 3, some (49, true), 3⟩, ⟨some 52, (.bin .eql 3 (.t 51) (.c (.int .i64 1))), 4, some (49, true), 0⟩, ⟨some 53, (.pick (.t 49) (.t 52) (.c (.bool false))), 4, none, 0⟩]) (some [3, 4, 5, 6, 53]))
      (.cond (.t 53)
        .skip
        (.exit 0)))
    (.seq
      (.block 1
        (.seq
          (.region false [⟨some 7, (.mv (.c (.int .i64 0))), 3, none, 0⟩] (some [3, 4, 5, 6, 7]))
          (.block 2
            (.loop [3, 4, 5, 6, 7] [24] lb_9_13))))
      (.region false [⟨some 54, (.mv (.t 6)), 3, none, 0⟩, ⟨some 55, (.bin .add 3 (.t 54) (.c (.int .i64 1))), 3, none, 0⟩, ⟨some 6, (.mv (.t 55)), 3, none, 0⟩] (some [3, 4, 5, 6]))))
def fa_9 : FnA := ⟨84, [.t 2],
  (.seq
    (.region false [⟨some 2, (.mv (.c (.bool false))), 4, none, 0⟩] (some [0]))
    (.seq
      (.seq
        (.region false [⟨some 8, (.mv (.t 0)), 22, none, 0⟩, ⟨some 9, (.len 22 (.t 8)), 3, none, 0⟩, ⟨some 10, (.bin .gtr 3 (.t 9) (.c (.int .i64 1048576))), 4, none, 0⟩] (some [0, 10]))
        (.cond (.t 10)
          (.seq
            (.region false [⟨some 2, (.mv (.c (.bool true))), 4, none, 0⟩] (some [2]))
            .ret)
          .skip))
      (.seq
        (.region false [⟨some 12, (.mv (.t 0)), 22, none, 0⟩, ⟨some 13, (.call (.f 49) [(.t 12)]), 35, none, 3⟩, ⟨some 11, (.mv (.t 13)), 35, none, 0⟩, ⟨some 14, (.ext (.t 11) 0), 27, none, 0⟩, ⟨some 15, (.ext (.t 11) 1), 3, none, 0⟩, ⟨some 3, (.alloc 27), 0, none, 0⟩, ⟨none, (.store 27 (.t 3) (.t 14)), 0, none, 0⟩, ⟨some 4, (.mv (.t 15)), 3, none, 0⟩] (some [3, 4]))
        (.seq
          (.region false [⟨some 16, (.load 27 (.t 3)), 27, none, 0⟩, ⟨some 17, (.mv (.t 4)), 3, none, 0⟩, ⟨some 18, (.call (.f 29) [(.t 16), (.t 17)]), 3, none, 3⟩, ⟨some 5, (.mv (.t 18)), 3, none, 0⟩] (some [3, 4, 5]))
          (.seq
            (.seq
              (.region false (gops [⟨some 19, (.mv (.t 5)), 3, none, 0⟩, ⟨some 20, (.load 27 (.t 3)), 27, none, 0⟩, ⟨some 21, (.mv (.t 4)), 3, none, 0⟩, ⟨some 22, (.call (.f 50) [(.t 20), (.t 21)]), 3, none, 3⟩, ⟨some 23, (.bin .neq 3 (.t 19) (.t 22)), 4, none, 0⟩, ⟨some 24, (.mv (.t 23)), 4, none, 0⟩, ⟨some 25, (.mv (.t 5)), 3, some (24, false), 0⟩, ⟨some 26, (.bin .lss 3 (.t 25) (.c (.int .i64 0))), 4, some (24, false), 0⟩, ⟨some 27, (.pick (.t 24) (.c (.bool true)) (.t 26)), 4, none, 0⟩]) (some [3, 4, 5, 27]))
              (.cond (.t 27)
                (.seq
                  (.region false [⟨some 28, (.mv (.t 5)), 3, none, 0⟩, ⟨some 29, (.load 27 (.t 3)), 27, none, 0⟩, ⟨some 30, (.mv (.t 4)), 3, none, 0⟩, ⟨some 31, (.call (.f 50) [(.t 29), (.t 30)]), 3, none, 3⟩, ⟨some 32, (.bin .eql 3 (.t 28) (.t 31)), 4, none, 0⟩, ⟨some 2, (.mv (.t 32)), 4, none, 0⟩] (some [2]))
                  .ret)
                .skip))
            (.seq
              (.seq
                (.region false (gops [⟨some 33, (.load 27 (.t 3)), 27, none, 0⟩, ⟨some 34, (.mv (.t 5)), 3, none, 0⟩, ⟨some 35, (.call (.f 27) [(.t 33), (.t 34)]), 4, none, 3⟩, ⟨some 36, (.un .not (.t 35)), 4, none, 0⟩, ⟨some 37, (.mv (.t 36)), 4, none, 0⟩, ⟨some 38, (.mv (.t 5)), 3, some (37, false), 0⟩, ⟨some 39, (.mv (.t 4)), 3, some (37, false), 0⟩, ⟨some 40, (.bin .and 3 (.t 38) (.t 39)), 3, some (37, false), 0⟩, ⟨some 41, (.mv (.t 4)), 3, some (37, false), 0⟩, ⟨some 42, (.bin .neq 3 (.t 40) (.t 41)), 4, some (37, false), 0⟩, ⟨some 43, (.pick (.t 37) (.c (.bool true)) (.t 42)), 4, none, 0⟩]) (some [3, 4, 5, 43]))
                (.cond (.t 43)
                  (.seq
                    (.region false [⟨some 2, (.mv (.c (.bool false))), 4, none, 0⟩] (some [2]))
                    .ret)
                  .skip))
              (.seq
                (.seq
                  (.region false [⟨some 6, (.mv (.c (.int .i64 0))), 3, none, 0⟩] (some [3, 4, 5, 6]))
                  (.block 0
                    (.loop [3, 4, 5, 6] [24] lb_9_10)))
                (.seq
                  (.region false [⟨some 2, (.mv (.c (.bool true))), 4, none, 0⟩] (some [2]))
                  .ret))))))))⟩
theorem fok_9 : FnOk Try.prog 9 fa_9 an_9 := ⟨Try.f9, _, Try.func9, rfl, by kernel_rfl, rfl, rfl, by decide, by kernel_rfl⟩
end Go.PS
end

section
-- PRINTED by mkdraw2.py: draws.
set_option maxRecDepth 100000
set_option linter.unusedVariables false
set_option linter.unusedSimpArgs false
namespace Go.PS
open Go.Proofs
set_option maxHeartbeats 4000000 in
theorem fib_dag4 {Q : St → Prop} {b : List Int} {p : Nat} {u : List Int} {t : List (List Int)} {y q z : Int} (hq : (if (6 : Int) < u.length then (6 : Int) else u.length) = q) (l0 : fw_pick.look [.ptr 0 0 0, I64 q] (RS b p) = some (I64 y, RS b (p + 1))) (l1 : fm_power.look [I64 y] = some (I64 z))
    (hQ : ∀ tb g, getT tb 2 = .ptr 16 1 0 → getT tb 3 = I64 z → Q ⟨tb, [⟨40, 3, .cells [IL u, RL t]⟩, ⟨4080, 2, .cells (RS b (p + 1))⟩, ⟨16, 1, .cells [IL u, RL t]⟩], g⟩) : ∀ tb g, getT tb 2 = .ptr 16 1 0 → getT tb 4 = .ptr 4080 2 0 → getT tb 5 = .ptr 40 3 0 → exT (CI inlR) 0 (inlW (CI inlR) [fm_power] [fw_someAlg, fw_pick, fw_setOf] 1 0) ro_49_4 Q ex_49_4_0 ⟨tb, [⟨40, 3, .cells [IL u, RL t]⟩, ⟨4080, 2, .cells (RS b (p))⟩, ⟨16, 1, .cells [.nil, .nil]⟩], g⟩ := by
  have n1023 : ∀ tb g, getT tb 2 = .ptr 16 1 0 → getT tb 4 = .ptr 4080 2 0 → getT tb 5 = .ptr 40 3 0 → getT tb 13 = AL u t → getT tb 14 = .ptr 4080 2 0 → getT tb 15 = .ptr 40 3 0 → getT tb 16 = IL u → getT tb 17 = I64 (u.length : Int) → getT tb 18 = I64 q → getT tb 19 = I64 y → getT tb 20 = I64 z → getT tb 3 = I64 z → exT (CI inlR) 0 (inlW (CI inlR) [fm_power] [fw_someAlg, fw_pick, fw_setOf] 1 0) ro_49_4 Q ex_49_4_1023 ⟨tb, [⟨40, 3, .cells [IL u, RL t]⟩, ⟨4080, 2, .cells (RS b (p + 1))⟩, ⟨16, 1, .cells [IL u, RL t]⟩], g⟩ := by
    intro tb g e2 e4 e5 e13 e14 e15 e16 e17 e18 e19 e20 e3
    unfold ex_49_4_1023
    exact hQ tb g e2 e3
  have n511 : ∀ tb g, getT tb 2 = .ptr 16 1 0 → getT tb 4 = .ptr 4080 2 0 → getT tb 5 = .ptr 40 3 0 → getT tb 13 = AL u t → getT tb 14 = .ptr 4080 2 0 → getT tb 15 = .ptr 40 3 0 → getT tb 16 = IL u → getT tb 17 = I64 (u.length : Int) → getT tb 18 = I64 q → getT tb 19 = I64 y → getT tb 20 = I64 z → exT (CI inlR) 0 (inlW (CI inlR) [fm_power] [fw_someAlg, fw_pick, fw_setOf] 1 0) ro_49_4 Q ex_49_4_511 ⟨tb, [⟨40, 3, .cells [IL u, RL t]⟩, ⟨4080, 2, .cells (RS b (p + 1))⟩, ⟨16, 1, .cells [IL u, RL t]⟩], g⟩ := by
    intro tb g e2 e4 e5 e13 e14 e15 e16 e17 e18 e19 e20
    unfold ex_49_4_511
    simp only [exT_alt, exT_one, exT_stop, and_true]
    rw [ro_49_4_9]
    simp [callDOWR, callDOTR, hq, l0, l1, e2, e4, e5, e13, e14, e15, e16, e17, e18, e19, e20]
    refine n1023 _ _ ?_ ?_ ?_ ?_ ?_ ?_ ?_ ?_ ?_ ?_ ?_ ?_ <;> simp [getT, e2, e4, e5, e13, e14, e15, e16, e17, e18, e19, e20]
  have n255 : ∀ tb g, getT tb 2 = .ptr 16 1 0 → getT tb 4 = .ptr 4080 2 0 → getT tb 5 = .ptr 40 3 0 → getT tb 13 = AL u t → getT tb 14 = .ptr 4080 2 0 → getT tb 15 = .ptr 40 3 0 → getT tb 16 = IL u → getT tb 17 = I64 (u.length : Int) → getT tb 18 = I64 q → getT tb 19 = I64 y → getT tb 20 = I64 z → exT (CI inlR) 0 (inlW (CI inlR) [fm_power] [fw_someAlg, fw_pick, fw_setOf] 1 0) ro_49_4 Q ex_49_4_255 ⟨tb, [⟨40, 3, .cells [IL u, RL t]⟩, ⟨4080, 2, .cells (RS b (p + 1))⟩, ⟨16, 1, .cells [.nil, .nil]⟩], g⟩ := by
    intro tb g e2 e4 e5 e13 e14 e15 e16 e17 e18 e19 e20
    unfold ex_49_4_255
    simp only [exT_alt, exT_one, exT_stop, and_true]
    rw [ro_49_4_8]
    simp [callDOWR, callDOTR, hq, l0, l1, e2, e4, e5, e13, e14, e15, e16, e17, e18, e19, e20]
    refine n511 _ _ ?_ ?_ ?_ ?_ ?_ ?_ ?_ ?_ ?_ ?_ ?_ <;> simp [getT, e2, e4, e5, e13, e14, e15, e16, e17, e18, e19, e20]
  have n254 : ∀ tb g, getT tb 2 = .ptr 16 1 0 → getT tb 4 = .ptr 4080 2 0 → getT tb 5 = .ptr 40 3 0 → getT tb 14 = .ptr 4080 2 0 → getT tb 15 = .ptr 40 3 0 → getT tb 16 = IL u → getT tb 17 = I64 (u.length : Int) → getT tb 18 = I64 q → getT tb 19 = I64 y → getT tb 20 = I64 z → exT (CI inlR) 0 (inlW (CI inlR) [fm_power] [fw_someAlg, fw_pick, fw_setOf] 1 0) ro_49_4 Q ex_49_4_254 ⟨tb, [⟨40, 3, .cells [IL u, RL t]⟩, ⟨4080, 2, .cells (RS b (p + 1))⟩, ⟨16, 1, .cells [.nil, .nil]⟩], g⟩ := by
    intro tb g e2 e4 e5 e14 e15 e16 e17 e18 e19 e20
    unfold ex_49_4_254
    simp only [exT_alt, exT_one, exT_stop, and_true]
    rw [ro_49_4_0]
    simp [callDOWR, callDOTR, hq, l0, l1, e2, e4, e5, e14, e15, e16, e17, e18, e19, e20]
    refine n255 _ _ ?_ ?_ ?_ ?_ ?_ ?_ ?_ ?_ ?_ ?_ ?_ <;> simp [getT, e2, e4, e5, e14, e15, e16, e17, e18, e19, e20]
  have n127 : ∀ tb g, getT tb 2 = .ptr 16 1 0 → getT tb 4 = .ptr 4080 2 0 → getT tb 5 = .ptr 40 3 0 → getT tb 13 = AL u t → getT tb 14 = .ptr 4080 2 0 → getT tb 15 = .ptr 40 3 0 → getT tb 16 = IL u → getT tb 17 = I64 (u.length : Int) → getT tb 18 = I64 q → getT tb 19 = I64 y → exT (CI inlR) 0 (inlW (CI inlR) [fm_power] [fw_someAlg, fw_pick, fw_setOf] 1 0) ro_49_4 Q ex_49_4_127 ⟨tb, [⟨40, 3, .cells [IL u, RL t]⟩, ⟨4080, 2, .cells (RS b (p + 1))⟩, ⟨16, 1, .cells [.nil, .nil]⟩], g⟩ := by
    intro tb g e2 e4 e5 e13 e14 e15 e16 e17 e18 e19
    unfold ex_49_4_127
    simp only [exT_alt, exT_one, exT_stop, and_true]
    rw [ro_49_4_7]
    simp [callDOWR, callDOTR, hq, l0, l1, e2, e4, e5, e13, e14, e15, e16, e17, e18, e19]
    refine n255 _ _ ?_ ?_ ?_ ?_ ?_ ?_ ?_ ?_ ?_ ?_ ?_ <;> simp [getT, e2, e4, e5, e13, e14, e15, e16, e17, e18, e19]
  have n126 : ∀ tb g, getT tb 2 = .ptr 16 1 0 → getT tb 4 = .ptr 4080 2 0 → getT tb 5 = .ptr 40 3 0 → getT tb 14 = .ptr 4080 2 0 → getT tb 15 = .ptr 40 3 0 → getT tb 16 = IL u → getT tb 17 = I64 (u.length : Int) → getT tb 18 = I64 q → getT tb 19 = I64 y → exT (CI inlR) 0 (inlW (CI inlR) [fm_power] [fw_someAlg, fw_pick, fw_setOf] 1 0) ro_49_4 Q ex_49_4_126 ⟨tb, [⟨40, 3, .cells [IL u, RL t]⟩, ⟨4080, 2, .cells (RS b (p + 1))⟩, ⟨16, 1, .cells [.nil, .nil]⟩], g⟩ := by
    intro tb g e2 e4 e5 e14 e15 e16 e17 e18 e19
    unfold ex_49_4_126
    simp only [exT_alt, exT_one, exT_stop, and_true]
    refine ⟨?_, ?_⟩
    · rw [ro_49_4_0]
      simp [callDOWR, callDOTR, hq, l0, l1, e2, e4, e5, e14, e15, e16, e17, e18, e19]
      refine n127 _ _ ?_ ?_ ?_ ?_ ?_ ?_ ?_ ?_ ?_ ?_ <;> simp [getT, e2, e4, e5, e14, e15, e16, e17, e18, e19]
    · rw [ro_49_4_7]
      simp [callDOWR, callDOTR, hq, l0, l1, e2, e4, e5, e14, e15, e16, e17, e18, e19]
      refine n254 _ _ ?_ ?_ ?_ ?_ ?_ ?_ ?_ ?_ ?_ ?_ <;> simp [getT, e2, e4, e5, e14, e15, e16, e17, e18, e19]
  have n63 : ∀ tb g, getT tb 2 = .ptr 16 1 0 → getT tb 4 = .ptr 4080 2 0 → getT tb 5 = .ptr 40 3 0 → getT tb 13 = AL u t → getT tb 14 = .ptr 4080 2 0 → getT tb 15 = .ptr 40 3 0 → getT tb 16 = IL u → getT tb 17 = I64 (u.length : Int) → getT tb 18 = I64 q → exT (CI inlR) 0 (inlW (CI inlR) [fm_power] [fw_someAlg, fw_pick, fw_setOf] 1 0) ro_49_4 Q ex_49_4_63 ⟨tb, [⟨40, 3, .cells [IL u, RL t]⟩, ⟨4080, 2, .cells (RS b (p))⟩, ⟨16, 1, .cells [.nil, .nil]⟩], g⟩ := by
    intro tb g e2 e4 e5 e13 e14 e15 e16 e17 e18
    unfold ex_49_4_63
    simp only [exT_alt, exT_one, exT_stop, and_true]
    rw [ro_49_4_6]
    simp [callDOWR, callDOTR, hq, l0, l1, e2, e4, e5, e13, e14, e15, e16, e17, e18]
    refine n127 _ _ ?_ ?_ ?_ ?_ ?_ ?_ ?_ ?_ ?_ ?_ <;> simp [getT, e2, e4, e5, e13, e14, e15, e16, e17, e18]
  have n62 : ∀ tb g, getT tb 2 = .ptr 16 1 0 → getT tb 4 = .ptr 4080 2 0 → getT tb 5 = .ptr 40 3 0 → getT tb 14 = .ptr 4080 2 0 → getT tb 15 = .ptr 40 3 0 → getT tb 16 = IL u → getT tb 17 = I64 (u.length : Int) → getT tb 18 = I64 q → exT (CI inlR) 0 (inlW (CI inlR) [fm_power] [fw_someAlg, fw_pick, fw_setOf] 1 0) ro_49_4 Q ex_49_4_62 ⟨tb, [⟨40, 3, .cells [IL u, RL t]⟩, ⟨4080, 2, .cells (RS b (p))⟩, ⟨16, 1, .cells [.nil, .nil]⟩], g⟩ := by
    intro tb g e2 e4 e5 e14 e15 e16 e17 e18
    unfold ex_49_4_62
    simp only [exT_alt, exT_one, exT_stop, and_true]
    refine ⟨?_, ?_⟩
    · rw [ro_49_4_0]
      simp [callDOWR, callDOTR, hq, l0, l1, e2, e4, e5, e14, e15, e16, e17, e18]
      refine n63 _ _ ?_ ?_ ?_ ?_ ?_ ?_ ?_ ?_ ?_ <;> simp [getT, e2, e4, e5, e14, e15, e16, e17, e18]
    · rw [ro_49_4_6]
      simp [callDOWR, callDOTR, hq, l0, l1, e2, e4, e5, e14, e15, e16, e17, e18]
      refine n126 _ _ ?_ ?_ ?_ ?_ ?_ ?_ ?_ ?_ ?_ <;> simp [getT, e2, e4, e5, e14, e15, e16, e17, e18]
  have n30 : ∀ tb g, getT tb 2 = .ptr 16 1 0 → getT tb 4 = .ptr 4080 2 0 → getT tb 5 = .ptr 40 3 0 → getT tb 14 = .ptr 4080 2 0 → getT tb 15 = .ptr 40 3 0 → getT tb 16 = IL u → getT tb 17 = I64 (u.length : Int) → exT (CI inlR) 0 (inlW (CI inlR) [fm_power] [fw_someAlg, fw_pick, fw_setOf] 1 0) ro_49_4 Q ex_49_4_30 ⟨tb, [⟨40, 3, .cells [IL u, RL t]⟩, ⟨4080, 2, .cells (RS b (p))⟩, ⟨16, 1, .cells [.nil, .nil]⟩], g⟩ := by
    intro tb g e2 e4 e5 e14 e15 e16 e17
    unfold ex_49_4_30
    simp only [exT_alt, exT_one, exT_stop, and_true]
    rw [ro_49_4_5]
    simp [callDOWR, callDOTR, hq, l0, l1, e2, e4, e5, e14, e15, e16, e17]
    refine n62 _ _ ?_ ?_ ?_ ?_ ?_ ?_ ?_ ?_ <;> simp [getT, e2, e4, e5, e14, e15, e16, e17]
  have n31 : ∀ tb g, getT tb 2 = .ptr 16 1 0 → getT tb 4 = .ptr 4080 2 0 → getT tb 5 = .ptr 40 3 0 → getT tb 13 = AL u t → getT tb 14 = .ptr 4080 2 0 → getT tb 15 = .ptr 40 3 0 → getT tb 16 = IL u → getT tb 17 = I64 (u.length : Int) → exT (CI inlR) 0 (inlW (CI inlR) [fm_power] [fw_someAlg, fw_pick, fw_setOf] 1 0) ro_49_4 Q ex_49_4_31 ⟨tb, [⟨40, 3, .cells [IL u, RL t]⟩, ⟨4080, 2, .cells (RS b (p))⟩, ⟨16, 1, .cells [.nil, .nil]⟩], g⟩ := by
    intro tb g e2 e4 e5 e13 e14 e15 e16 e17
    unfold ex_49_4_31
    simp only [exT_alt, exT_one, exT_stop, and_true]
    rw [ro_49_4_5]
    simp [callDOWR, callDOTR, hq, l0, l1, e2, e4, e5, e13, e14, e15, e16, e17]
    refine n63 _ _ ?_ ?_ ?_ ?_ ?_ ?_ ?_ ?_ ?_ <;> simp [getT, e2, e4, e5, e13, e14, e15, e16, e17]
  have n15 : ∀ tb g, getT tb 2 = .ptr 16 1 0 → getT tb 4 = .ptr 4080 2 0 → getT tb 5 = .ptr 40 3 0 → getT tb 13 = AL u t → getT tb 14 = .ptr 4080 2 0 → getT tb 15 = .ptr 40 3 0 → getT tb 16 = IL u → exT (CI inlR) 0 (inlW (CI inlR) [fm_power] [fw_someAlg, fw_pick, fw_setOf] 1 0) ro_49_4 Q ex_49_4_15 ⟨tb, [⟨40, 3, .cells [IL u, RL t]⟩, ⟨4080, 2, .cells (RS b (p))⟩, ⟨16, 1, .cells [.nil, .nil]⟩], g⟩ := by
    intro tb g e2 e4 e5 e13 e14 e15 e16
    unfold ex_49_4_15
    simp only [exT_alt, exT_one, exT_stop, and_true]
    rw [ro_49_4_4]
    simp [callDOWR, callDOTR, hq, l0, l1, e2, e4, e5, e13, e14, e15, e16]
    refine n31 _ _ ?_ ?_ ?_ ?_ ?_ ?_ ?_ ?_ <;> simp [getT, e2, e4, e5, e13, e14, e15, e16]
  have n14 : ∀ tb g, getT tb 2 = .ptr 16 1 0 → getT tb 4 = .ptr 4080 2 0 → getT tb 5 = .ptr 40 3 0 → getT tb 14 = .ptr 4080 2 0 → getT tb 15 = .ptr 40 3 0 → getT tb 16 = IL u → exT (CI inlR) 0 (inlW (CI inlR) [fm_power] [fw_someAlg, fw_pick, fw_setOf] 1 0) ro_49_4 Q ex_49_4_14 ⟨tb, [⟨40, 3, .cells [IL u, RL t]⟩, ⟨4080, 2, .cells (RS b (p))⟩, ⟨16, 1, .cells [.nil, .nil]⟩], g⟩ := by
    intro tb g e2 e4 e5 e14 e15 e16
    unfold ex_49_4_14
    simp only [exT_alt, exT_one, exT_stop, and_true]
    refine ⟨?_, ?_⟩
    · rw [ro_49_4_0]
      simp [callDOWR, callDOTR, hq, l0, l1, e2, e4, e5, e14, e15, e16]
      refine n15 _ _ ?_ ?_ ?_ ?_ ?_ ?_ ?_ <;> simp [getT, e2, e4, e5, e14, e15, e16]
    · rw [ro_49_4_4]
      simp [callDOWR, callDOTR, hq, l0, l1, e2, e4, e5, e14, e15, e16]
      refine n30 _ _ ?_ ?_ ?_ ?_ ?_ ?_ ?_ <;> simp [getT, e2, e4, e5, e14, e15, e16]
  have n7 : ∀ tb g, getT tb 2 = .ptr 16 1 0 → getT tb 4 = .ptr 4080 2 0 → getT tb 5 = .ptr 40 3 0 → getT tb 13 = AL u t → getT tb 14 = .ptr 4080 2 0 → getT tb 15 = .ptr 40 3 0 → exT (CI inlR) 0 (inlW (CI inlR) [fm_power] [fw_someAlg, fw_pick, fw_setOf] 1 0) ro_49_4 Q ex_49_4_7 ⟨tb, [⟨40, 3, .cells [IL u, RL t]⟩, ⟨4080, 2, .cells (RS b (p))⟩, ⟨16, 1, .cells [.nil, .nil]⟩], g⟩ := by
    intro tb g e2 e4 e5 e13 e14 e15
    unfold ex_49_4_7
    simp only [exT_alt, exT_one, exT_stop, and_true]
    rw [ro_49_4_3]
    simp [callDOWR, callDOTR, hq, l0, l1, e2, e4, e5, e13, e14, e15]
    refine n15 _ _ ?_ ?_ ?_ ?_ ?_ ?_ ?_ <;> simp [getT, e2, e4, e5, e13, e14, e15]
  have n6 : ∀ tb g, getT tb 2 = .ptr 16 1 0 → getT tb 4 = .ptr 4080 2 0 → getT tb 5 = .ptr 40 3 0 → getT tb 14 = .ptr 4080 2 0 → getT tb 15 = .ptr 40 3 0 → exT (CI inlR) 0 (inlW (CI inlR) [fm_power] [fw_someAlg, fw_pick, fw_setOf] 1 0) ro_49_4 Q ex_49_4_6 ⟨tb, [⟨40, 3, .cells [IL u, RL t]⟩, ⟨4080, 2, .cells (RS b (p))⟩, ⟨16, 1, .cells [.nil, .nil]⟩], g⟩ := by
    intro tb g e2 e4 e5 e14 e15
    unfold ex_49_4_6
    simp only [exT_alt, exT_one, exT_stop, and_true]
    refine ⟨?_, ?_⟩
    · rw [ro_49_4_0]
      simp [callDOWR, callDOTR, hq, l0, l1, e2, e4, e5, e14, e15]
      refine n7 _ _ ?_ ?_ ?_ ?_ ?_ ?_ <;> simp [getT, e2, e4, e5, e14, e15]
    · rw [ro_49_4_3]
      simp [callDOWR, callDOTR, hq, l0, l1, e2, e4, e5, e14, e15]
      refine n14 _ _ ?_ ?_ ?_ ?_ ?_ ?_ <;> simp [getT, e2, e4, e5, e14, e15]
  have n3 : ∀ tb g, getT tb 2 = .ptr 16 1 0 → getT tb 4 = .ptr 4080 2 0 → getT tb 5 = .ptr 40 3 0 → getT tb 13 = AL u t → getT tb 14 = .ptr 4080 2 0 → exT (CI inlR) 0 (inlW (CI inlR) [fm_power] [fw_someAlg, fw_pick, fw_setOf] 1 0) ro_49_4 Q ex_49_4_3 ⟨tb, [⟨40, 3, .cells [IL u, RL t]⟩, ⟨4080, 2, .cells (RS b (p))⟩, ⟨16, 1, .cells [.nil, .nil]⟩], g⟩ := by
    intro tb g e2 e4 e5 e13 e14
    unfold ex_49_4_3
    simp only [exT_alt, exT_one, exT_stop, and_true]
    rw [ro_49_4_2]
    simp [callDOWR, callDOTR, hq, l0, l1, e2, e4, e5, e13, e14]
    refine n7 _ _ ?_ ?_ ?_ ?_ ?_ ?_ <;> simp [getT, e2, e4, e5, e13, e14]
  have n2 : ∀ tb g, getT tb 2 = .ptr 16 1 0 → getT tb 4 = .ptr 4080 2 0 → getT tb 5 = .ptr 40 3 0 → getT tb 14 = .ptr 4080 2 0 → exT (CI inlR) 0 (inlW (CI inlR) [fm_power] [fw_someAlg, fw_pick, fw_setOf] 1 0) ro_49_4 Q ex_49_4_2 ⟨tb, [⟨40, 3, .cells [IL u, RL t]⟩, ⟨4080, 2, .cells (RS b (p))⟩, ⟨16, 1, .cells [.nil, .nil]⟩], g⟩ := by
    intro tb g e2 e4 e5 e14
    unfold ex_49_4_2
    simp only [exT_alt, exT_one, exT_stop, and_true]
    refine ⟨?_, ?_⟩
    · rw [ro_49_4_0]
      simp [callDOWR, callDOTR, hq, l0, l1, e2, e4, e5, e14]
      refine n3 _ _ ?_ ?_ ?_ ?_ ?_ <;> simp [getT, e2, e4, e5, e14]
    · rw [ro_49_4_2]
      simp [callDOWR, callDOTR, hq, l0, l1, e2, e4, e5, e14]
      refine n6 _ _ ?_ ?_ ?_ ?_ ?_ <;> simp [getT, e2, e4, e5, e14]
  have n0 : ∀ tb g, getT tb 2 = .ptr 16 1 0 → getT tb 4 = .ptr 4080 2 0 → getT tb 5 = .ptr 40 3 0 → exT (CI inlR) 0 (inlW (CI inlR) [fm_power] [fw_someAlg, fw_pick, fw_setOf] 1 0) ro_49_4 Q ex_49_4_0 ⟨tb, [⟨40, 3, .cells [IL u, RL t]⟩, ⟨4080, 2, .cells (RS b (p))⟩, ⟨16, 1, .cells [.nil, .nil]⟩], g⟩ := by
    intro tb g e2 e4 e5
    unfold ex_49_4_0
    simp only [exT_alt, exT_one, exT_stop, and_true]
    rw [ro_49_4_1]
    simp [callDOWR, callDOTR, hq, l0, l1, e2, e4, e5]
    refine n2 _ _ ?_ ?_ ?_ ?_ <;> simp [getT, e2, e4, e5]
  exact n0

set_option maxHeartbeats 4000000 in
theorem fib_dag5 {Q : St → Prop} {b : List Int} {p : Nat} {u : List Int} {t : List (List Int)} {y q : Int} (hq : (if (6 : Int) < u.length then (6 : Int) else u.length) = q) (l0 : fw_setOf.look [.ptr 0 0 0, I64 q] (RS b p) = some (I64 y, RS b (p + 2)))
    (hQ : ∀ tb g, getT tb 2 = .ptr 16 1 0 → getT tb 3 = I64 y → Q ⟨tb, [⟨40, 3, .cells [IL u, RL t]⟩, ⟨4080, 2, .cells (RS b (p + 2))⟩, ⟨16, 1, .cells [IL u, RL t]⟩], g⟩) : ∀ tb g, getT tb 2 = .ptr 16 1 0 → getT tb 4 = .ptr 4080 2 0 → getT tb 5 = .ptr 40 3 0 → exT (CI inlR) 0 (inlW (CI inlR) [fm_power] [fw_someAlg, fw_pick, fw_setOf] 1 0) ro_49_5 Q ex_49_5_0 ⟨tb, [⟨40, 3, .cells [IL u, RL t]⟩, ⟨4080, 2, .cells (RS b (p))⟩, ⟨16, 1, .cells [.nil, .nil]⟩], g⟩ := by
  have n511 : ∀ tb g, getT tb 2 = .ptr 16 1 0 → getT tb 4 = .ptr 4080 2 0 → getT tb 5 = .ptr 40 3 0 → getT tb 21 = AL u t → getT tb 22 = .ptr 4080 2 0 → getT tb 23 = .ptr 40 3 0 → getT tb 24 = IL u → getT tb 25 = I64 (u.length : Int) → getT tb 26 = I64 q → getT tb 27 = I64 y → getT tb 3 = I64 y → exT (CI inlR) 0 (inlW (CI inlR) [fm_power] [fw_someAlg, fw_pick, fw_setOf] 1 0) ro_49_5 Q ex_49_5_511 ⟨tb, [⟨40, 3, .cells [IL u, RL t]⟩, ⟨4080, 2, .cells (RS b (p + 2))⟩, ⟨16, 1, .cells [IL u, RL t]⟩], g⟩ := by
    intro tb g e2 e4 e5 e21 e22 e23 e24 e25 e26 e27 e3
    unfold ex_49_5_511
    exact hQ tb g e2 e3
  have n255 : ∀ tb g, getT tb 2 = .ptr 16 1 0 → getT tb 4 = .ptr 4080 2 0 → getT tb 5 = .ptr 40 3 0 → getT tb 21 = AL u t → getT tb 22 = .ptr 4080 2 0 → getT tb 23 = .ptr 40 3 0 → getT tb 24 = IL u → getT tb 25 = I64 (u.length : Int) → getT tb 26 = I64 q → getT tb 27 = I64 y → exT (CI inlR) 0 (inlW (CI inlR) [fm_power] [fw_someAlg, fw_pick, fw_setOf] 1 0) ro_49_5 Q ex_49_5_255 ⟨tb, [⟨40, 3, .cells [IL u, RL t]⟩, ⟨4080, 2, .cells (RS b (p + 2))⟩, ⟨16, 1, .cells [IL u, RL t]⟩], g⟩ := by
    intro tb g e2 e4 e5 e21 e22 e23 e24 e25 e26 e27
    unfold ex_49_5_255
    simp only [exT_alt, exT_one, exT_stop, and_true]
    rw [ro_49_5_8]
    simp [callDOWR, hq, l0, e2, e4, e5, e21, e22, e23, e24, e25, e26, e27]
    refine n511 _ _ ?_ ?_ ?_ ?_ ?_ ?_ ?_ ?_ ?_ ?_ ?_ <;> simp [getT, e2, e4, e5, e21, e22, e23, e24, e25, e26, e27]
  have n127 : ∀ tb g, getT tb 2 = .ptr 16 1 0 → getT tb 4 = .ptr 4080 2 0 → getT tb 5 = .ptr 40 3 0 → getT tb 21 = AL u t → getT tb 22 = .ptr 4080 2 0 → getT tb 23 = .ptr 40 3 0 → getT tb 24 = IL u → getT tb 25 = I64 (u.length : Int) → getT tb 26 = I64 q → getT tb 27 = I64 y → exT (CI inlR) 0 (inlW (CI inlR) [fm_power] [fw_someAlg, fw_pick, fw_setOf] 1 0) ro_49_5 Q ex_49_5_127 ⟨tb, [⟨40, 3, .cells [IL u, RL t]⟩, ⟨4080, 2, .cells (RS b (p + 2))⟩, ⟨16, 1, .cells [.nil, .nil]⟩], g⟩ := by
    intro tb g e2 e4 e5 e21 e22 e23 e24 e25 e26 e27
    unfold ex_49_5_127
    simp only [exT_alt, exT_one, exT_stop, and_true]
    rw [ro_49_5_7]
    simp [callDOWR, hq, l0, e2, e4, e5, e21, e22, e23, e24, e25, e26, e27]
    refine n255 _ _ ?_ ?_ ?_ ?_ ?_ ?_ ?_ ?_ ?_ ?_ <;> simp [getT, e2, e4, e5, e21, e22, e23, e24, e25, e26, e27]
  have n126 : ∀ tb g, getT tb 2 = .ptr 16 1 0 → getT tb 4 = .ptr 4080 2 0 → getT tb 5 = .ptr 40 3 0 → getT tb 22 = .ptr 4080 2 0 → getT tb 23 = .ptr 40 3 0 → getT tb 24 = IL u → getT tb 25 = I64 (u.length : Int) → getT tb 26 = I64 q → getT tb 27 = I64 y → exT (CI inlR) 0 (inlW (CI inlR) [fm_power] [fw_someAlg, fw_pick, fw_setOf] 1 0) ro_49_5 Q ex_49_5_126 ⟨tb, [⟨40, 3, .cells [IL u, RL t]⟩, ⟨4080, 2, .cells (RS b (p + 2))⟩, ⟨16, 1, .cells [.nil, .nil]⟩], g⟩ := by
    intro tb g e2 e4 e5 e22 e23 e24 e25 e26 e27
    unfold ex_49_5_126
    simp only [exT_alt, exT_one, exT_stop, and_true]
    rw [ro_49_5_0]
    simp [callDOWR, hq, l0, e2, e4, e5, e22, e23, e24, e25, e26, e27]
    refine n127 _ _ ?_ ?_ ?_ ?_ ?_ ?_ ?_ ?_ ?_ ?_ <;> simp [getT, e2, e4, e5, e22, e23, e24, e25, e26, e27]
  have n63 : ∀ tb g, getT tb 2 = .ptr 16 1 0 → getT tb 4 = .ptr 4080 2 0 → getT tb 5 = .ptr 40 3 0 → getT tb 21 = AL u t → getT tb 22 = .ptr 4080 2 0 → getT tb 23 = .ptr 40 3 0 → getT tb 24 = IL u → getT tb 25 = I64 (u.length : Int) → getT tb 26 = I64 q → exT (CI inlR) 0 (inlW (CI inlR) [fm_power] [fw_someAlg, fw_pick, fw_setOf] 1 0) ro_49_5 Q ex_49_5_63 ⟨tb, [⟨40, 3, .cells [IL u, RL t]⟩, ⟨4080, 2, .cells (RS b (p))⟩, ⟨16, 1, .cells [.nil, .nil]⟩], g⟩ := by
    intro tb g e2 e4 e5 e21 e22 e23 e24 e25 e26
    unfold ex_49_5_63
    simp only [exT_alt, exT_one, exT_stop, and_true]
    rw [ro_49_5_6]
    simp [callDOWR, hq, l0, e2, e4, e5, e21, e22, e23, e24, e25, e26]
    refine n127 _ _ ?_ ?_ ?_ ?_ ?_ ?_ ?_ ?_ ?_ ?_ <;> simp [getT, e2, e4, e5, e21, e22, e23, e24, e25, e26]
  have n62 : ∀ tb g, getT tb 2 = .ptr 16 1 0 → getT tb 4 = .ptr 4080 2 0 → getT tb 5 = .ptr 40 3 0 → getT tb 22 = .ptr 4080 2 0 → getT tb 23 = .ptr 40 3 0 → getT tb 24 = IL u → getT tb 25 = I64 (u.length : Int) → getT tb 26 = I64 q → exT (CI inlR) 0 (inlW (CI inlR) [fm_power] [fw_someAlg, fw_pick, fw_setOf] 1 0) ro_49_5 Q ex_49_5_62 ⟨tb, [⟨40, 3, .cells [IL u, RL t]⟩, ⟨4080, 2, .cells (RS b (p))⟩, ⟨16, 1, .cells [.nil, .nil]⟩], g⟩ := by
    intro tb g e2 e4 e5 e22 e23 e24 e25 e26
    unfold ex_49_5_62
    simp only [exT_alt, exT_one, exT_stop, and_true]
    refine ⟨?_, ?_⟩
    · rw [ro_49_5_0]
      simp [callDOWR, hq, l0, e2, e4, e5, e22, e23, e24, e25, e26]
      refine n63 _ _ ?_ ?_ ?_ ?_ ?_ ?_ ?_ ?_ ?_ <;> simp [getT, e2, e4, e5, e22, e23, e24, e25, e26]
    · rw [ro_49_5_6]
      simp [callDOWR, hq, l0, e2, e4, e5, e22, e23, e24, e25, e26]
      refine n126 _ _ ?_ ?_ ?_ ?_ ?_ ?_ ?_ ?_ ?_ <;> simp [getT, e2, e4, e5, e22, e23, e24, e25, e26]
  have n30 : ∀ tb g, getT tb 2 = .ptr 16 1 0 → getT tb 4 = .ptr 4080 2 0 → getT tb 5 = .ptr 40 3 0 → getT tb 22 = .ptr 4080 2 0 → getT tb 23 = .ptr 40 3 0 → getT tb 24 = IL u → getT tb 25 = I64 (u.length : Int) → exT (CI inlR) 0 (inlW (CI inlR) [fm_power] [fw_someAlg, fw_pick, fw_setOf] 1 0) ro_49_5 Q ex_49_5_30 ⟨tb, [⟨40, 3, .cells [IL u, RL t]⟩, ⟨4080, 2, .cells (RS b (p))⟩, ⟨16, 1, .cells [.nil, .nil]⟩], g⟩ := by
    intro tb g e2 e4 e5 e22 e23 e24 e25
    unfold ex_49_5_30
    simp only [exT_alt, exT_one, exT_stop, and_true]
    rw [ro_49_5_5]
    simp [callDOWR, hq, l0, e2, e4, e5, e22, e23, e24, e25]
    refine n62 _ _ ?_ ?_ ?_ ?_ ?_ ?_ ?_ ?_ <;> simp [getT, e2, e4, e5, e22, e23, e24, e25]
  have n31 : ∀ tb g, getT tb 2 = .ptr 16 1 0 → getT tb 4 = .ptr 4080 2 0 → getT tb 5 = .ptr 40 3 0 → getT tb 21 = AL u t → getT tb 22 = .ptr 4080 2 0 → getT tb 23 = .ptr 40 3 0 → getT tb 24 = IL u → getT tb 25 = I64 (u.length : Int) → exT (CI inlR) 0 (inlW (CI inlR) [fm_power] [fw_someAlg, fw_pick, fw_setOf] 1 0) ro_49_5 Q ex_49_5_31 ⟨tb, [⟨40, 3, .cells [IL u, RL t]⟩, ⟨4080, 2, .cells (RS b (p))⟩, ⟨16, 1, .cells [.nil, .nil]⟩], g⟩ := by
    intro tb g e2 e4 e5 e21 e22 e23 e24 e25
    unfold ex_49_5_31
    simp only [exT_alt, exT_one, exT_stop, and_true]
    rw [ro_49_5_5]
    simp [callDOWR, hq, l0, e2, e4, e5, e21, e22, e23, e24, e25]
    refine n63 _ _ ?_ ?_ ?_ ?_ ?_ ?_ ?_ ?_ ?_ <;> simp [getT, e2, e4, e5, e21, e22, e23, e24, e25]
  have n15 : ∀ tb g, getT tb 2 = .ptr 16 1 0 → getT tb 4 = .ptr 4080 2 0 → getT tb 5 = .ptr 40 3 0 → getT tb 21 = AL u t → getT tb 22 = .ptr 4080 2 0 → getT tb 23 = .ptr 40 3 0 → getT tb 24 = IL u → exT (CI inlR) 0 (inlW (CI inlR) [fm_power] [fw_someAlg, fw_pick, fw_setOf] 1 0) ro_49_5 Q ex_49_5_15 ⟨tb, [⟨40, 3, .cells [IL u, RL t]⟩, ⟨4080, 2, .cells (RS b (p))⟩, ⟨16, 1, .cells [.nil, .nil]⟩], g⟩ := by
    intro tb g e2 e4 e5 e21 e22 e23 e24
    unfold ex_49_5_15
    simp only [exT_alt, exT_one, exT_stop, and_true]
    rw [ro_49_5_4]
    simp [callDOWR, hq, l0, e2, e4, e5, e21, e22, e23, e24]
    refine n31 _ _ ?_ ?_ ?_ ?_ ?_ ?_ ?_ ?_ <;> simp [getT, e2, e4, e5, e21, e22, e23, e24]
  have n14 : ∀ tb g, getT tb 2 = .ptr 16 1 0 → getT tb 4 = .ptr 4080 2 0 → getT tb 5 = .ptr 40 3 0 → getT tb 22 = .ptr 4080 2 0 → getT tb 23 = .ptr 40 3 0 → getT tb 24 = IL u → exT (CI inlR) 0 (inlW (CI inlR) [fm_power] [fw_someAlg, fw_pick, fw_setOf] 1 0) ro_49_5 Q ex_49_5_14 ⟨tb, [⟨40, 3, .cells [IL u, RL t]⟩, ⟨4080, 2, .cells (RS b (p))⟩, ⟨16, 1, .cells [.nil, .nil]⟩], g⟩ := by
    intro tb g e2 e4 e5 e22 e23 e24
    unfold ex_49_5_14
    simp only [exT_alt, exT_one, exT_stop, and_true]
    refine ⟨?_, ?_⟩
    · rw [ro_49_5_0]
      simp [callDOWR, hq, l0, e2, e4, e5, e22, e23, e24]
      refine n15 _ _ ?_ ?_ ?_ ?_ ?_ ?_ ?_ <;> simp [getT, e2, e4, e5, e22, e23, e24]
    · rw [ro_49_5_4]
      simp [callDOWR, hq, l0, e2, e4, e5, e22, e23, e24]
      refine n30 _ _ ?_ ?_ ?_ ?_ ?_ ?_ ?_ <;> simp [getT, e2, e4, e5, e22, e23, e24]
  have n7 : ∀ tb g, getT tb 2 = .ptr 16 1 0 → getT tb 4 = .ptr 4080 2 0 → getT tb 5 = .ptr 40 3 0 → getT tb 21 = AL u t → getT tb 22 = .ptr 4080 2 0 → getT tb 23 = .ptr 40 3 0 → exT (CI inlR) 0 (inlW (CI inlR) [fm_power] [fw_someAlg, fw_pick, fw_setOf] 1 0) ro_49_5 Q ex_49_5_7 ⟨tb, [⟨40, 3, .cells [IL u, RL t]⟩, ⟨4080, 2, .cells (RS b (p))⟩, ⟨16, 1, .cells [.nil, .nil]⟩], g⟩ := by
    intro tb g e2 e4 e5 e21 e22 e23
    unfold ex_49_5_7
    simp only [exT_alt, exT_one, exT_stop, and_true]
    rw [ro_49_5_3]
    simp [callDOWR, hq, l0, e2, e4, e5, e21, e22, e23]
    refine n15 _ _ ?_ ?_ ?_ ?_ ?_ ?_ ?_ <;> simp [getT, e2, e4, e5, e21, e22, e23]
  have n6 : ∀ tb g, getT tb 2 = .ptr 16 1 0 → getT tb 4 = .ptr 4080 2 0 → getT tb 5 = .ptr 40 3 0 → getT tb 22 = .ptr 4080 2 0 → getT tb 23 = .ptr 40 3 0 → exT (CI inlR) 0 (inlW (CI inlR) [fm_power] [fw_someAlg, fw_pick, fw_setOf] 1 0) ro_49_5 Q ex_49_5_6 ⟨tb, [⟨40, 3, .cells [IL u, RL t]⟩, ⟨4080, 2, .cells (RS b (p))⟩, ⟨16, 1, .cells [.nil, .nil]⟩], g⟩ := by
    intro tb g e2 e4 e5 e22 e23
    unfold ex_49_5_6
    simp only [exT_alt, exT_one, exT_stop, and_true]
    refine ⟨?_, ?_⟩
    · rw [ro_49_5_0]
      simp [callDOWR, hq, l0, e2, e4, e5, e22, e23]
      refine n7 _ _ ?_ ?_ ?_ ?_ ?_ ?_ <;> simp [getT, e2, e4, e5, e22, e23]
    · rw [ro_49_5_3]
      simp [callDOWR, hq, l0, e2, e4, e5, e22, e23]
      refine n14 _ _ ?_ ?_ ?_ ?_ ?_ ?_ <;> simp [getT, e2, e4, e5, e22, e23]
  have n3 : ∀ tb g, getT tb 2 = .ptr 16 1 0 → getT tb 4 = .ptr 4080 2 0 → getT tb 5 = .ptr 40 3 0 → getT tb 21 = AL u t → getT tb 22 = .ptr 4080 2 0 → exT (CI inlR) 0 (inlW (CI inlR) [fm_power] [fw_someAlg, fw_pick, fw_setOf] 1 0) ro_49_5 Q ex_49_5_3 ⟨tb, [⟨40, 3, .cells [IL u, RL t]⟩, ⟨4080, 2, .cells (RS b (p))⟩, ⟨16, 1, .cells [.nil, .nil]⟩], g⟩ := by
    intro tb g e2 e4 e5 e21 e22
    unfold ex_49_5_3
    simp only [exT_alt, exT_one, exT_stop, and_true]
    rw [ro_49_5_2]
    simp [callDOWR, hq, l0, e2, e4, e5, e21, e22]
    refine n7 _ _ ?_ ?_ ?_ ?_ ?_ ?_ <;> simp [getT, e2, e4, e5, e21, e22]
  have n2 : ∀ tb g, getT tb 2 = .ptr 16 1 0 → getT tb 4 = .ptr 4080 2 0 → getT tb 5 = .ptr 40 3 0 → getT tb 22 = .ptr 4080 2 0 → exT (CI inlR) 0 (inlW (CI inlR) [fm_power] [fw_someAlg, fw_pick, fw_setOf] 1 0) ro_49_5 Q ex_49_5_2 ⟨tb, [⟨40, 3, .cells [IL u, RL t]⟩, ⟨4080, 2, .cells (RS b (p))⟩, ⟨16, 1, .cells [.nil, .nil]⟩], g⟩ := by
    intro tb g e2 e4 e5 e22
    unfold ex_49_5_2
    simp only [exT_alt, exT_one, exT_stop, and_true]
    refine ⟨?_, ?_⟩
    · rw [ro_49_5_0]
      simp [callDOWR, hq, l0, e2, e4, e5, e22]
      refine n3 _ _ ?_ ?_ ?_ ?_ ?_ <;> simp [getT, e2, e4, e5, e22]
    · rw [ro_49_5_2]
      simp [callDOWR, hq, l0, e2, e4, e5, e22]
      refine n6 _ _ ?_ ?_ ?_ ?_ ?_ <;> simp [getT, e2, e4, e5, e22]
  have n0 : ∀ tb g, getT tb 2 = .ptr 16 1 0 → getT tb 4 = .ptr 4080 2 0 → getT tb 5 = .ptr 40 3 0 → exT (CI inlR) 0 (inlW (CI inlR) [fm_power] [fw_someAlg, fw_pick, fw_setOf] 1 0) ro_49_5 Q ex_49_5_0 ⟨tb, [⟨40, 3, .cells [IL u, RL t]⟩, ⟨4080, 2, .cells (RS b (p))⟩, ⟨16, 1, .cells [.nil, .nil]⟩], g⟩ := by
    intro tb g e2 e4 e5
    unfold ex_49_5_0
    simp only [exT_alt, exT_one, exT_stop, and_true]
    rw [ro_49_5_1]
    simp [callDOWR, hq, l0, e2, e4, e5]
    refine n2 _ _ ?_ ?_ ?_ ?_ <;> simp [getT, e2, e4, e5]
  exact n0

def dFB (b : List Int) (p : Nat) (u : List Int) : Int := if pkM b p 2 = 0 then 2 ^ (pkM b (p + 1) (mn6 u.length : Nat)).toNat else soM b (p + 1) (mn6 u.length)
theorem drFiB_pc (c : List Int) (hc : Byt c) (hl : Big c.length) : PC Try.prog 49 [BL c] none false (fun r _ => r = .tup [AL (saM (rdB c) 0).1.1 (saM (rdB c) 0).1.2, I64 (dFB (rdB c) (saM (rdB c) 0).2 (saM (rdB c) 0).1.1)]) := by
  have hl := hl.le
  have hb := rdB_ok hc
  have l1 := fw_someAlg_look (rdB c) 0 hb (by omega) (by omega)
  obtain ⟨g, q⟩ := saM_few hb (p := 0) (by omega)
  refine pcR [fm_power] [fw_someAlg, fw_pick, fw_setOf] fok_49 ?_
  generalize saM (rdB c) 0 = A at *
  obtain ⟨⟨u, t⟩, p1⟩ := A
  dsimp only at *
  have hmm := mn6_le (n := u.length)
  have l0 := fw_pick_look (rdB c) p1 2 hb (by omega) (by omega)
  have l2 := fw_setOf_look (rdB c) (p1 + 1) (mn6 u.length : Nat) hb (by omega) (by omega) (by omega) (by omega)
  have l3 := fw_pick_look (rdB c) (p1 + 1) (mn6 u.length : Nat) hb (by omega) (by omega)
  have hm := mn6_int (n := u.length)
  have hr : 0 ≤ pkM (rdB c) (p1 + 1) (mn6 u.length : Nat) ∧ pkM (rdB c) (p1 + 1) (mn6 u.length : Nat) ≤ 61 := by
    rcases Nat.eq_zero_or_pos (mn6 u.length) with e | e
    · rw [e, pkM_small (by decide)]; omega
    · have := pkM_rng hb (p := p1 + 1) (by omega) (n := (mn6 u.length : Nat)) (by omega)
      omega
  have l4 := fm_power_look (pkM (rdB c) (p1 + 1) (mn6 u.length : Nat)) hr.1 hr.2
  simp only [Int.toNat_natCast] at l2
  unfold dFB
  generalize mn6 u.length = m at *
  generalize soM (rdB c) (p1 + 1) m = y at *
  generalize pkM (rdB c) (p1 + 1) (m : Int) = y1 at *
  generalize (2 : Int) ^ y1.toNat = z at *
  simp [fa_49]
  refine newR hl ?_
  by_cases hz : pkM (rdB c) p1 2 = 0
  · simp [callOWR, l1, l0, hz]
    refine cutE (α := Unit) (fun _ => [(2, .ptr 16 1 0), (3, I64 z)]) (fun _ => [⟨16, 1, .cells [IL u, RL t]⟩]) ?_ (fun _ g0 => ?_)
    · refine fib_dag4 (p := p1 + 1) hm l3 l4 (fun tb g q2 q3 => ?_) _ _ (by simp) (by simp) (by simp)
      simp [q2, q3]
    · simp
  · simp [callOWR, l1, l0, hz]
    refine cutE (α := Unit) (fun _ => [(2, .ptr 16 1 0), (3, I64 y)]) (fun _ => [⟨16, 1, .cells [IL u, RL t]⟩]) ?_ (fun _ g0 => ?_)
    · refine fib_dag5 (p := p1 + 1) hm l2 (fun tb g q2 q3 => ?_) _ _ (by simp) (by simp) (by simp)
      simp [q2, q3]
    · simp
noncomputable def fm_drFiB : Fam Try.prog := mkFam (X := List Int) 49 false (fun c => [BL c]) (fun c => (Byt c) ∧ (Big c.length)) (fun c => .tup [AL (saM (rdB c) 0).1.1 (saM (rdB c) 0).1.2, I64 (dFB (rdB c) (saM (rdB c) 0).2 (saM (rdB c) 0).1.1)]) (by
  rintro c ⟨hc, hl⟩
  exact drFiB_pc c hc hl)
@[simp] theorem fm_drFiB_id : fm_drFiB.id = 49 := rfl
@[simp] theorem fm_drFiB_fresh : fm_drFiB.fresh = false := rfl
@[simp] theorem fm_drFiB_look (c : List Int) (hc : Byt c) (hl : Big c.length) : fm_drFiB.look [BL c] = some (.tup [AL (saM (rdB c) 0).1.1 (saM (rdB c) 0).1.2, I64 (dFB (rdB c) (saM (rdB c) 0).2 (saM (rdB c) 0).1.1)]) :=
  lookF_of (X := List Int) (args := fun c => [BL c]) (pre := fun c => (Byt c) ∧ (Big c.length)) (val := fun c => .tup [AL (saM (rdB c) 0).1.1 (saM (rdB c) 0).1.2, I64 (dFB (rdB c) (saM (rdB c) 0).2 (saM (rdB c) 0).1.1)]) (by
  intro c c' h
  simp at h
  subst h
  rfl) c ⟨hc, hl⟩
attribute [irreducible] fm_drFiB
end Go.PS
end

section
-- PRINTED by gen.py: clean texts of functions, and their tie to the program.
set_option maxRecDepth 100000
namespace Go.PS
open Go.Proofs
/-- spec.has -/
def an_125 : Ann := ⟨[(1, 1, 3), (1, 8, 3), (1, 16, 3)], [(0, [1, 2, 3]), (1, [6])], [], []⟩
def fa_125 : FnA := ⟨25, [.t 6],
  (.seq
    (.region false [⟨some 3, (.box 27 (.t 0)), 0, none, 0⟩, ⟨some 6, (.mv (.c (.bool false))), 4, none, 0⟩] (some [1, 2, 3]))
    (.seq
      (.region false (gops (seg [2, 3, 16] [⟨some 7, (.load 27 (.t 3)), 27, none, 0⟩, ⟨some 8, (.call (.f 111) [(.t 7)]), 4, none, 3⟩, ⟨some 9, (.mv (.t 8)), 4, none, 0⟩, ⟨some 10, (.mv (.t 1)), 3, some (9, true), 0⟩, ⟨some 11, (.faddr 27 (.t 3) 0), 0, some (9, true), 0⟩, ⟨some 12, (.load 23 (.t 11)), 23, some (9, true), 0⟩, ⟨some 13, (.len 23 (.t 12)), 3, some (9, true), 0⟩, ⟨some 14, (.bin .sub 3 (.t 13) (.c (.int .i64 1))), 3, some (9, true), 0⟩, ⟨some 15, (.call (.f 128) [(.t 10), (.c (.int .i64 0)), (.t 14)]), 4, some (9, true), 3⟩, ⟨some 16, (.pick (.t 9) (.t 15) (.c (.bool false))), 4, none, 0⟩]
      [⟨some 17, (.mv (.t 16)), 4, none, 0⟩, ⟨some 18, (.mv (.t 2)), 3, some (17, true), 0⟩, ⟨some 19, (.faddr 27 (.t 3) 0), 0, some (17, true), 0⟩, ⟨some 20, (.load 23 (.t 19)), 23, some (17, true), 0⟩, ⟨some 21, (.len 23 (.t 20)), 3, some (17, true), 0⟩, ⟨some 22, (.bin .sub 3 (.t 21) (.c (.int .i64 1))), 3, some (17, true), 0⟩, ⟨some 23, (.call (.f 128) [(.t 18), (.c (.int .i64 0)), (.t 22)]), 4, some (17, true), 3⟩, ⟨some 24, (.pick (.t 17) (.t 23) (.c (.bool false))), 4, none, 0⟩, ⟨some 6, (.mv (.t 24)), 4, none, 0⟩] [6] (by decide))) (some [6]))
      .ret))⟩
theorem fok_125 : FnOk Try.prog 125 fa_125 an_125 := ⟨Try.f125, _, Try.func125, rfl, by kernel_rfl, rfl, rfl, by decide, by kernel_rfl⟩
/-- spec.near -/
def an_176 : Ann := ⟨[(1, 5, 3), (1, 11, 3)], [(0, [1, 2, 3]), (1, [6])], [], []⟩
def fa_176 : FnA := ⟨21, [.t 6],
  (.seq
    (.region false [⟨some 3, (.box 27 (.t 0)), 0, none, 0⟩, ⟨some 6, (.mv (.c (.int .i64 0))), 3, none, 0⟩] (some [1, 2, 3]))
    (.seq
      (.region true [⟨some 7, (.faddr 27 (.t 3) 1), 0, none, 0⟩, ⟨some 8, (.load 25 (.t 7)), 25, none, 0⟩, ⟨some 9, (.load 27 (.t 3)), 27, none, 0⟩, ⟨some 10, (.mv (.t 1)), 3, none, 0⟩, ⟨some 11, (.mv (.t 2)), 3, none, 0⟩, ⟨some 12, (.call (.f 137) [(.t 9), (.t 10), (.t 11)]), 3, none, 3⟩, ⟨some 13, (.iaddr 25 (.t 8) (.t 12)), 0, none, 0⟩, ⟨some 14, (.load 23 (.t 13)), 23, none, 0⟩, ⟨some 15, (.load 27 (.t 3)), 27, none, 0⟩, ⟨some 16, (.mv (.t 2)), 3, none, 0⟩, ⟨some 17, (.mv (.t 1)), 3, none, 0⟩, ⟨some 18, (.call (.f 137) [(.t 15), (.t 16), (.t 17)]), 3, none, 3⟩, ⟨some 19, (.iaddr 23 (.t 14) (.t 18)), 0, none, 0⟩, ⟨some 20, (.load 3 (.t 19)), 3, none, 0⟩, ⟨some 6, (.mv (.t 20)), 3, none, 0⟩] (some [6]))
      .ret))⟩
theorem fok_176 : FnOk Try.prog 176 fa_176 an_176 := ⟨Try.f176, _, Try.func176, rfl, by kernel_rfl, rfl, rfl, by decide, by kernel_rfl⟩
/-- impl.near -/
def an_134 : Ann := ⟨[(1, 5, 3), (1, 11, 3)], [(0, [1, 2, 3]), (1, [6])], [], []⟩
def fa_134 : FnA := ⟨21, [.t 6],
  (.seq
    (.region false [⟨some 3, (.box 27 (.t 0)), 0, none, 0⟩, ⟨some 6, (.mv (.c (.int .i64 0))), 3, none, 0⟩] (some [1, 2, 3]))
    (.seq
      (.region true [⟨some 7, (.faddr 27 (.t 3) 1), 0, none, 0⟩, ⟨some 8, (.load 25 (.t 7)), 25, none, 0⟩, ⟨some 9, (.load 27 (.t 3)), 27, none, 0⟩, ⟨some 10, (.mv (.t 1)), 3, none, 0⟩, ⟨some 11, (.mv (.t 2)), 3, none, 0⟩, ⟨some 12, (.call (.f 118) [(.t 9), (.t 10), (.t 11)]), 3, none, 3⟩, ⟨some 13, (.iaddr 25 (.t 8) (.t 12)), 0, none, 0⟩, ⟨some 14, (.load 23 (.t 13)), 23, none, 0⟩, ⟨some 15, (.load 27 (.t 3)), 27, none, 0⟩, ⟨some 16, (.mv (.t 2)), 3, none, 0⟩, ⟨some 17, (.mv (.t 1)), 3, none, 0⟩, ⟨some 18, (.call (.f 118) [(.t 15), (.t 16), (.t 17)]), 3, none, 3⟩, ⟨some 19, (.iaddr 23 (.t 14) (.t 18)), 0, none, 0⟩, ⟨some 20, (.load 3 (.t 19)), 3, none, 0⟩, ⟨some 6, (.mv (.t 20)), 3, none, 0⟩] (some [6]))
      .ret))⟩
theorem fok_134 : FnOk Try.prog 134 fa_134 an_134 := ⟨Try.f134, _, Try.func134, rfl, by kernel_rfl, rfl, rfl, by decide, by kernel_rfl⟩
/-- impl.ImplyOf -/
def an_33 : Ann := ⟨[(1, 4, 3), (3, 3, 3)], [(0, [1, 2, 3]), (1, [1, 2, 3, 12]), (2, [6]), (3, [6])], [], []⟩
def fa_33 : FnA := ⟨17, [.t 6],
  (.seq
    (.region false [⟨some 3, (.box 27 (.t 0)), 0, none, 0⟩, ⟨some 6, (.mv (.c (.int .i64 0))), 3, none, 0⟩] (some [1, 2, 3]))
    (.seq
      (.seq
        (.region false [⟨some 7, (.load 27 (.t 3)), 27, none, 0⟩, ⟨some 8, (.mv (.t 1)), 3, none, 0⟩, ⟨some 9, (.mv (.t 2)), 3, none, 0⟩, ⟨some 10, (.bslice 23 2 [(0, (.t 8)), (1, (.t 9))]), 23, none, 0⟩, ⟨some 11, (.call (.f 117) [(.t 7), (.t 10)]), 4, none, 3⟩, ⟨some 12, (.un .not (.t 11)), 4, none, 0⟩] (some [1, 2, 3, 12]))
        (.cond (.t 12)
          (.seq
            (.region false [⟨some 6, (.mv (.c (.int .i64 (-1)))), 3, none, 0⟩] (some [6]))
            .ret)
          .skip))
      (.seq
        (.region false [⟨some 13, (.load 27 (.t 3)), 27, none, 0⟩, ⟨some 14, (.mv (.t 1)), 3, none, 0⟩, ⟨some 15, (.mv (.t 2)), 3, none, 0⟩, ⟨some 16, (.call (.f 118) [(.t 13), (.t 14), (.t 15)]), 3, none, 3⟩, ⟨some 6, (.mv (.t 16)), 3, none, 0⟩] (some [6]))
        .ret)))⟩
theorem fok_33 : FnOk Try.prog 33 fa_33 an_33 := ⟨Try.f33, _, Try.func33, rfl, by kernel_rfl, rfl, rfl, by decide, by kernel_rfl⟩
/-- impl.NotOf -/
def an_46 : Ann := ⟨[(1, 3, 3), (3, 2, 3)], [(0, [1, 2]), (1, [1, 2, 9]), (2, [4]), (3, [4])], [], []⟩
def fa_46 : FnA := ⟨13, [.t 4],
  (.seq
    (.region false [⟨some 2, (.box 27 (.t 0)), 0, none, 0⟩, ⟨some 4, (.mv (.c (.int .i64 0))), 3, none, 0⟩] (some [1, 2]))
    (.seq
      (.seq
        (.region false [⟨some 5, (.load 27 (.t 2)), 27, none, 0⟩, ⟨some 6, (.mv (.t 1)), 3, none, 0⟩, ⟨some 7, (.bslice 23 1 [(0, (.t 6))]), 23, none, 0⟩, ⟨some 8, (.call (.f 117) [(.t 5), (.t 7)]), 4, none, 3⟩, ⟨some 9, (.un .not (.t 8)), 4, none, 0⟩] (some [1, 2, 9]))
        (.cond (.t 9)
          (.seq
            (.region false [⟨some 4, (.mv (.c (.int .i64 (-1)))), 3, none, 0⟩] (some [4]))
            .ret)
          .skip))
      (.seq
        (.region false [⟨some 10, (.load 27 (.t 2)), 27, none, 0⟩, ⟨some 11, (.mv (.t 1)), 3, none, 0⟩, ⟨some 12, (.call (.f 127) [(.t 10), (.t 11)]), 3, none, 3⟩, ⟨some 4, (.mv (.t 12)), 3, none, 0⟩] (some [4]))
        .ret)))⟩
theorem fok_46 : FnOk Try.prog 46 fa_46 an_46 := ⟨Try.f46, _, Try.func46, rfl, by kernel_rfl, rfl, rfl, by decide, by kernel_rfl⟩
/-- impl.NearOf -/
def an_56 : Ann := ⟨[(1, 4, 3), (3, 3, 3)], [(0, [1, 2, 3]), (1, [1, 2, 3, 12]), (2, [6]), (3, [6])], [], []⟩
def fa_56 : FnA := ⟨17, [.t 6],
  (.seq
    (.region false [⟨some 3, (.box 27 (.t 0)), 0, none, 0⟩, ⟨some 6, (.mv (.c (.int .i64 0))), 3, none, 0⟩] (some [1, 2, 3]))
    (.seq
      (.seq
        (.region false [⟨some 7, (.load 27 (.t 3)), 27, none, 0⟩, ⟨some 8, (.mv (.t 1)), 3, none, 0⟩, ⟨some 9, (.mv (.t 2)), 3, none, 0⟩, ⟨some 10, (.bslice 23 2 [(0, (.t 8)), (1, (.t 9))]), 23, none, 0⟩, ⟨some 11, (.call (.f 117) [(.t 7), (.t 10)]), 4, none, 3⟩, ⟨some 12, (.un .not (.t 11)), 4, none, 0⟩] (some [1, 2, 3, 12]))
        (.cond (.t 12)
          (.seq
            (.region false [⟨some 6, (.mv (.c (.int .i64 (-1)))), 3, none, 0⟩] (some [6]))
            .ret)
          .skip))
      (.seq
        (.region false [⟨some 13, (.load 27 (.t 3)), 27, none, 0⟩, ⟨some 14, (.mv (.t 1)), 3, none, 0⟩, ⟨some 15, (.mv (.t 2)), 3, none, 0⟩, ⟨some 16, (.call (.f 134) [(.t 13), (.t 14), (.t 15)]), 3, none, 3⟩, ⟨some 6, (.mv (.t 16)), 3, none, 0⟩] (some [6]))
        .ret)))⟩
theorem fok_56 : FnOk Try.prog 56 fa_56 an_56 := ⟨Try.f56, _, Try.func56, rfl, by kernel_rfl, rfl, rfl, by decide, by kernel_rfl⟩
/-- impl.PowerOf -/
def an_48 : Ann := ⟨[(1, 3, 3), (1, 7, 3), (3, 3, 3)], [(0, [1, 2, 3]), (1, [1, 2, 3, 16]), (2, [6]), (3, [6])], [], []⟩
def fa_48 : FnA := ⟨21, [.t 6],
  (.seq
    (.region false [⟨some 3, (.box 27 (.t 0)), 0, none, 0⟩, ⟨some 6, (.mv (.c (.int .i64 0))), 3, none, 0⟩] (some [1, 2, 3]))
    (.seq
      (.seq
        (.region false (gops [⟨some 7, (.load 27 (.t 3)), 27, none, 0⟩, ⟨some 8, (.mv (.t 1)), 3, none, 0⟩, ⟨some 9, (.bslice 23 1 [(0, (.t 8))]), 23, none, 0⟩, ⟨some 10, (.call (.f 117) [(.t 7), (.t 9)]), 4, none, 3⟩, ⟨some 11, (.un .not (.t 10)), 4, none, 0⟩, ⟨some 12, (.mv (.t 11)), 4, none, 0⟩, ⟨some 13, (.mv (.t 2)), 3, some (12, false), 0⟩, ⟨some 14, (.call (.f 101) [(.t 13), (.c (.int .i64 0)), (.c (.int .i64 20))]), 4, some (12, false), 3⟩, ⟨some 15, (.un .not (.t 14)), 4, some (12, false), 0⟩, ⟨some 16, (.pick (.t 12) (.c (.bool true)) (.t 15)), 4, none, 0⟩]) (some [1, 2, 3, 16]))
        (.cond (.t 16)
          (.seq
            (.region false [⟨some 6, (.mv (.c (.int .i64 (-1)))), 3, none, 0⟩] (some [6]))
            .ret)
          .skip))
      (.seq
        (.region false [⟨some 17, (.load 27 (.t 3)), 27, none, 0⟩, ⟨some 18, (.mv (.t 1)), 3, none, 0⟩, ⟨some 19, (.mv (.t 2)), 3, none, 0⟩, ⟨some 20, (.call (.f 124) [(.t 17), (.t 18), (.t 19)]), 3, none, 3⟩, ⟨some 6, (.mv (.t 20)), 3, none, 0⟩] (some [6]))
        .ret)))⟩
theorem fok_48 : FnOk Try.prog 48 fa_48 an_48 := ⟨Try.f48, _, Try.func48, rfl, by kernel_rfl, rfl, rfl, by decide, by kernel_rfl⟩
/-- impl.latticeAt$1 -/
def an_175 : Ann := ⟨[(1, 4, 3)], [(0, [0, 1]), (1, [3])], [], []⟩
def fa_175 : FnA := ⟨10, [.t 3],
  (.seq
    (.region false [⟨some 3, (.mv (.c (.bool false))), 4, none, 0⟩] (some [0, 1]))
    (.seq
      (.region false [⟨some 4, (.mv (.t 0)), 3, none, 0⟩, ⟨some 5, (.load 23 (.t 1)), 23, none, 0⟩, ⟨some 6, (.len 23 (.t 5)), 3, none, 0⟩, ⟨some 7, (.bin .sub 3 (.t 6) (.c (.int .i64 1))), 3, none, 0⟩, ⟨some 8, (.call (.f 101) [(.t 4), (.c (.int .i64 0)), (.t 7)]), 4, none, 3⟩, ⟨some 9, (.un .not (.t 8)), 4, none, 0⟩, ⟨some 3, (.mv (.t 9)), 4, none, 0⟩] (some [3]))
      .ret))⟩
theorem fok_175 : FnOk Try.prog 175 fa_175 an_175 := ⟨Try.f175, _, Try.func175, rfl, by kernel_rfl, rfl, rfl, by decide, by kernel_rfl⟩
/-- impl.latticeAt -/
def an_130 : Ann := ⟨[(1, 1, 3), (1, 5, 3)], [(0, [1, 2]), (1, [4])], [], []⟩
def fa_130 : FnA := ⟨13, [.t 4],
  (.seq
    (.region false [⟨some 2, (.box 23 (.t 0)), 0, none, 0⟩, ⟨some 4, (.mv (.c (.bool false))), 4, none, 0⟩] (some [1, 2]))
    (.seq
      (.region false (gops [⟨some 5, (.load 23 (.t 2)), 23, none, 0⟩, ⟨some 6, (.call (.f 91) [(.t 5)]), 4, none, 3⟩, ⟨some 7, (.mv (.t 6)), 4, none, 0⟩, ⟨some 8, (.mv (.t 1)), 23, some (7, true), 0⟩, ⟨some 9, (.mkfn 175 [(.t 2)]), 80, some (7, true), 0⟩, ⟨some 10, (.call (.f 99) [(.t 8), (.t 9)]), 4, some (7, true), 3⟩, ⟨some 11, (.un .not (.t 10)), 4, some (7, true), 0⟩, ⟨some 12, (.pick (.t 7) (.t 11) (.c (.bool false))), 4, none, 0⟩, ⟨some 4, (.mv (.t 12)), 4, none, 0⟩]) (some [4]))
      .ret))⟩
theorem fok_130 : FnOk Try.prog 130 fa_130 an_130 := ⟨Try.f130, _, Try.func130, rfl, by kernel_rfl, rfl, rfl, by decide, by kernel_rfl⟩
/-- impl.IsBelow -/
def an_52 : Ann := ⟨[(1, 4, 3), (1, 9, 3)], [(0, [0, 1, 2]), (1, [6])], [], []⟩
def fa_52 : FnA := ⟨18, [.t 6],
  (.seq
    (.region false [⟨some 6, (.mv (.c (.bool false))), 4, none, 0⟩] (some [0, 1, 2]))
    (.seq
      (.region false (gops [⟨some 7, (.mv (.t 0)), 23, none, 0⟩, ⟨some 8, (.mv (.t 1)), 3, none, 0⟩, ⟨some 9, (.mv (.t 2)), 3, none, 0⟩, ⟨some 10, (.bslice 23 2 [(0, (.t 8)), (1, (.t 9))]), 23, none, 0⟩, ⟨some 11, (.call (.f 130) [(.t 7), (.t 10)]), 4, none, 3⟩, ⟨some 12, (.mv (.t 11)), 4, none, 0⟩, ⟨some 13, (.mv (.t 0)), 23, some (12, true), 0⟩, ⟨some 14, (.mv (.t 1)), 3, some (12, true), 0⟩, ⟨some 15, (.mv (.t 2)), 3, some (12, true), 0⟩, ⟨some 16, (.call (.f 131) [(.t 13), (.t 14), (.t 15)]), 4, some (12, true), 3⟩, ⟨some 17, (.pick (.t 12) (.t 16) (.c (.bool false))), 4, none, 0⟩, ⟨some 6, (.mv (.t 17)), 4, none, 0⟩]) (some [6]))
      .ret))⟩
theorem fok_52 : FnOk Try.prog 52 fa_52 an_52 := ⟨Try.f52, _, Try.func52, rfl, by kernel_rfl, rfl, rfl, by decide, by kernel_rfl⟩
end Go.PS
end

section
-- PRINTED by gen.py: clean texts of functions, and their tie to the program.
set_option maxRecDepth 100000
namespace Go.PS
open Go.Proofs
/-- spec.assignments -/
def an_150 : Ann := ⟨[(5, 0, 1), (12, 1, 1), (12, 10, 2), (13, 1, 2)], [(0, [0]), (1, [0, 3]), (2, [0, 3, 4]), (3, [0, 3, 4, 11]), (5, [0, 3, 4, 5]), (6, [0, 3, 4, 5, 6]), (7, [0, 3, 4, 5, 6, 18]), (9, [0, 3, 4, 5, 6, 7]), (10, [0, 3, 4, 5, 6, 7, 23]), (12, [0, 3, 4, 5, 6, 7]), (11, [0, 3, 4, 5, 6, 7]), (8, [0, 3, 4, 5, 6]), (13, [0, 3, 4]), (4, [0, 3, 4]), (14, [2])], [(3, [0, 3, 4], [112, 296]), (7, [0, 3, 4, 5, 6], [112, 296]), (10, [0, 3, 4, 5, 6, 7], [112, 296])], []⟩
def lb_150_10 : AC :=
  (.seq
    (.seq
      (.region false [⟨some 21, (.mv (.t 7)), 3, none, 0⟩, ⟨some 22, (.mv (.t 0)), 3, none, 0⟩, ⟨some 23, (.bin .lss 3 (.t 21) (.t 22)), 4, none, 0⟩] (some [0, 3, 4, 5, 6, 7, 23]))
      (.cond (.t 23)
        .skip
        (.exit 4)))
    (.seq
      (.block 5
        (.region false [⟨some 26, (.mv (.t 5)), 25, none, 0⟩, ⟨some 27, (.bslice 23 0 []), 23, none, 1⟩, ⟨some 28, (.mv (.t 3)), 25, none, 0⟩, ⟨some 29, (.mv (.t 6)), 3, none, 0⟩, ⟨some 30, (.iaddr 25 (.t 28) (.t 29)), 0, none, 0⟩, ⟨some 31, (.load 23 (.t 30)), 23, none, 0⟩, ⟨some 32, (.app 23 23 (.t 27) (.t 31)), 23, none, 0⟩, ⟨some 33, (.mv (.t 7)), 3, none, 0⟩, ⟨some 34, (.bslice 23 1 [(0, (.t 33))]), 23, none, 0⟩, ⟨some 35, (.app 23 23 (.t 32) (.t 34)), 23, none, 0⟩, ⟨some 36, (.bslice 25 1 [(0, (.t 35))]), 25, none, 2⟩, ⟨some 37, (.app 25 25 (.t 26) (.t 36)), 25, none, 0⟩, ⟨some 5, (.mv (.t 37)), 25, none, 0⟩] (some [0, 3, 4, 5, 6, 7])))
      (.region false [⟨some 24, (.mv (.t 7)), 3, none, 0⟩, ⟨some 25, (.bin .add 3 (.t 24) (.c (.int .i64 1))), 3, none, 0⟩, ⟨some 7, (.mv (.t 25)), 3, none, 0⟩] (some [0, 3, 4, 5, 6, 7]))))
def lb_150_7 : AC :=
  (.seq
    (.seq
      (.region false [⟨some 15, (.mv (.t 6)), 3, none, 0⟩, ⟨some 16, (.mv (.t 3)), 25, none, 0⟩, ⟨some 17, (.len 25 (.t 16)), 3, none, 0⟩, ⟨some 18, (.bin .lss 3 (.t 15) (.t 17)), 4, none, 0⟩] (some [0, 3, 4, 5, 6, 18]))
      (.cond (.t 18)
        .skip
        (.exit 2)))
    (.seq
      (.block 3
        (.seq
          (.region false [⟨some 7, (.mv (.c (.int .i64 0))), 3, none, 0⟩] (some [0, 3, 4, 5, 6, 7]))
          (.block 4
            (.loop [0, 3, 4, 5, 6, 7] [112, 296] lb_150_10))))
      (.region false [⟨some 19, (.mv (.t 6)), 3, none, 0⟩, ⟨some 20, (.bin .add 3 (.t 19) (.c (.int .i64 1))), 3, none, 0⟩, ⟨some 6, (.mv (.t 20)), 3, none, 0⟩] (some [0, 3, 4, 5, 6]))))
def lb_150_3 : AC :=
  (.seq
    (.seq
      (.region false [⟨some 10, (.mv (.t 4)), 3, none, 0⟩, ⟨some 11, (.bin .lss 3 (.t 10) (.c (.int .i64 3))), 4, none, 0⟩] (some [0, 3, 4, 11]))
      (.cond (.t 11)
        .skip
        (.exit 0)))
    (.seq
      (.block 1
        (.seq
          (.region false [⟨some 14, (.bslice 25 0 []), 25, none, 1⟩, ⟨some 5, (.mv (.t 14)), 25, none, 0⟩] (some [0, 3, 4, 5]))
          (.seq
            (.seq
              (.region false [⟨some 6, (.mv (.c (.int .i64 0))), 3, none, 0⟩] (some [0, 3, 4, 5, 6]))
              (.block 2
                (.loop [0, 3, 4, 5, 6] [112, 296] lb_150_7)))
            (.region false [⟨some 38, (.mv (.t 5)), 25, none, 0⟩, ⟨some 3, (.mv (.t 38)), 25, none, 2⟩] (some [0, 3, 4])))))
      (.region false [⟨some 12, (.mv (.t 4)), 3, none, 0⟩, ⟨some 13, (.bin .add 3 (.t 12) (.c (.int .i64 1))), 3, none, 0⟩, ⟨some 4, (.mv (.t 13)), 3, none, 0⟩] (some [0, 3, 4]))))
def fa_150 : FnA := ⟨40, [.t 2],
  (.seq
    (.region false [⟨some 2, (.mv (.c .nil)), 25, none, 0⟩] (some [0]))
    (.seq
      (.region false [⟨some 8, (.bslice 23 0 []), 23, none, 0⟩, ⟨some 9, (.bslice 25 1 [(0, (.t 8))]), 25, none, 0⟩, ⟨some 3, (.mv (.t 9)), 25, none, 0⟩] (some [0, 3]))
      (.seq
        (.seq
          (.region false [⟨some 4, (.mv (.c (.int .i64 0))), 3, none, 0⟩] (some [0, 3, 4]))
          (.block 0
            (.loop [0, 3, 4] [112, 296] lb_150_3)))
        (.seq
          (.region false [⟨some 39, (.mv (.t 3)), 25, none, 0⟩, ⟨some 2, (.mv (.t 39)), 25, none, 0⟩] (some [2]))
          .ret))))⟩
theorem fok_150 : FnOk Try.prog 150 fa_150 an_150 := ⟨Try.f150, _, Try.func150, rfl, by kernel_rfl, rfl, rfl, by decide, by kernel_rfl⟩
/-- spec.pow -/
def an_126 : Ann := ⟨[], [(0, [1, 2, 3]), (1, [1, 2, 3, 7]), (2, [1, 2, 3, 7, 13]), (4, [1, 2, 3, 7]), (3, [1, 2, 3, 7]), (5, [6])], [(2, [1, 2, 3, 7], [])], []⟩
def lb_126_2 : AC :=
  (.seq
    (.seq
      (.region false [⟨some 12, (.mv (.t 2)), 3, none, 0⟩, ⟨some 13, (.bin .gtr 3 (.t 12) (.c (.int .i64 0))), 4, none, 0⟩] (some [1, 2, 3, 7, 13]))
      (.cond (.t 13)
        .skip
        (.exit 0)))
    (.seq
      (.block 1
        (.region false [⟨some 16, (.faddr 27 (.t 3) 1), 0, none, 0⟩, ⟨some 17, (.load 25 (.t 16)), 25, none, 0⟩, ⟨some 18, (.mv (.t 7)), 3, none, 0⟩, ⟨some 19, (.iaddr 25 (.t 17) (.t 18)), 0, none, 0⟩, ⟨some 20, (.load 23 (.t 19)), 23, none, 0⟩, ⟨some 21, (.mv (.t 1)), 3, none, 0⟩, ⟨some 22, (.iaddr 23 (.t 20) (.t 21)), 0, none, 0⟩, ⟨some 23, (.load 3 (.t 22)), 3, none, 0⟩, ⟨some 7, (.mv (.t 23)), 3, none, 0⟩] (some [1, 2, 3, 7])))
      (.region false [⟨some 14, (.mv (.t 2)), 3, none, 0⟩, ⟨some 15, (.bin .sub 3 (.t 14) (.c (.int .i64 1))), 3, none, 0⟩, ⟨some 2, (.mv (.t 15)), 3, none, 0⟩] (some [1, 2, 3, 7]))))
def fa_126 : FnA := ⟨25, [.t 6],
  (.seq
    (.region false [⟨some 3, (.box 27 (.t 0)), 0, none, 0⟩, ⟨some 6, (.mv (.c (.int .i64 0))), 3, none, 0⟩] (some [1, 2, 3]))
    (.seq
      (.region false [⟨some 8, (.faddr 27 (.t 3) 0), 0, none, 0⟩, ⟨some 9, (.load 23 (.t 8)), 23, none, 0⟩, ⟨some 10, (.len 23 (.t 9)), 3, none, 0⟩, ⟨some 11, (.bin .sub 3 (.t 10) (.c (.int .i64 1))), 3, none, 0⟩, ⟨some 7, (.mv (.t 11)), 3, none, 0⟩] (some [1, 2, 3, 7]))
      (.seq
        (.block 0
          (.loop [1, 2, 3, 7] [] lb_126_2))
        (.seq
          (.region false [⟨some 24, (.mv (.t 7)), 3, none, 0⟩, ⟨some 6, (.mv (.t 24)), 3, none, 0⟩] (some [6]))
          .ret))))⟩
theorem fok_126 : FnOk Try.prog 126 fa_126 an_126 := ⟨Try.f126, _, Try.func126, rfl, by kernel_rfl, rfl, rfl, by decide, by kernel_rfl⟩
/-- spec.LeastPower -/
def an_82 : Ann := ⟨[(1, 1, 3), (1, 5, 3), (1, 10, 3), (3, 3, 3), (8, 6, 3), (9, 6, 3), (10, 5, 3), (10, 7, 3)], [(0, [1, 2, 3]), (1, [1, 2, 3, 25]), (2, [6, 7]), (3, [1, 2, 3, 8]), (4, [1, 2, 3, 8, 9]), (5, [1, 2, 3, 8, 9, 10]), (6, [1, 2, 3, 8, 9, 10, 33]), (8, [1, 2, 3, 8, 9, 10, 11]), (9, [1, 2, 3, 8, 9, 10, 11, 12]), (10, [1, 2, 3, 8, 9, 10, 11, 12, 58]), (11, [1, 2, 3, 8, 9, 10, 11, 12]), (12, [1, 2, 3, 8, 9, 10, 11, 12, 62]), (13, [6, 7]), (7, [1, 2, 3, 8, 9, 10]), (14, [6, 7])], [(6, [1, 2, 3, 8, 9, 10], []), (10, [1, 2, 3, 8, 9, 10, 11, 12], [])], []⟩
def lb_82_10 : AC :=
  (.seq
    (.seq
      (.region true [⟨some 50, (.faddr 27 (.t 3) 0), 0, none, 0⟩, ⟨some 51, (.load 23 (.t 50)), 23, none, 0⟩, ⟨some 52, (.load 27 (.t 3)), 27, none, 0⟩, ⟨some 53, (.mv (.t 11)), 3, none, 0⟩, ⟨some 54, (.mv (.t 9)), 3, none, 0⟩, ⟨some 55, (.call (.f 126) [(.t 52), (.t 53), (.t 54)]), 3, none, 3⟩, ⟨some 56, (.mv (.t 12)), 3, none, 0⟩, ⟨some 57, (.call (.f 156) [(.t 51), (.t 55), (.t 56)]), 4, none, 3⟩, ⟨some 58, (.un .not (.t 57)), 4, none, 0⟩] (some [1, 2, 3, 8, 9, 10, 11, 12, 58]))
      (.cond (.t 58)
        .skip
        (.exit 2)))
    (.block 3
      (.seq
        (.region false [⟨some 59, (.mv (.t 9)), 3, none, 0⟩, ⟨some 60, (.bin .add 3 (.t 59) (.c (.int .i64 1))), 3, none, 0⟩, ⟨some 9, (.mv (.t 60)), 3, none, 0⟩] (some [1, 2, 3, 8, 9, 10, 11, 12]))
        (.seq
          (.region false [⟨some 61, (.mv (.t 9)), 3, none, 0⟩, ⟨some 62, (.bin .gtr 3 (.t 61) (.c (.int .i64 20))), 4, none, 0⟩] (some [1, 2, 3, 8, 9, 10, 11, 12, 62]))
          (.cond (.t 62)
            (.seq
              (.region false [⟨some 6, (.mv (.c (.int .i64 0))), 3, none, 0⟩, ⟨some 7, (.mv (.c (.bool false))), 4, none, 0⟩] (some [6, 7]))
              .ret)
            .skip)))))
def lb_82_6 : AC :=
  (.seq
    (.seq
      (.region false [⟨some 30, (.mv (.t 10)), 3, none, 0⟩, ⟨some 31, (.mv (.t 8)), 25, none, 0⟩, ⟨some 32, (.len 25 (.t 31)), 3, none, 0⟩, ⟨some 33, (.bin .lss 3 (.t 30) (.t 32)), 4, none, 0⟩] (some [1, 2, 3, 8, 9, 10, 33]))
      (.cond (.t 33)
        .skip
        (.exit 0)))
    (.seq
      (.block 1
        (.seq
          (.region true [⟨some 36, (.load 27 (.t 3)), 27, none, 0⟩, ⟨some 37, (.mv (.t 1)), 23, none, 0⟩, ⟨some 38, (.mv (.t 8)), 25, none, 0⟩, ⟨some 39, (.mv (.t 10)), 3, none, 0⟩, ⟨some 40, (.iaddr 25 (.t 38) (.t 39)), 0, none, 0⟩, ⟨some 41, (.load 23 (.t 40)), 23, none, 0⟩, ⟨some 42, (.call (.f 142) [(.t 36), (.t 37), (.c (.int .i64 0)), (.t 41)]), 3, none, 3⟩, ⟨some 11, (.mv (.t 42)), 3, none, 0⟩] (some [1, 2, 3, 8, 9, 10, 11]))
          (.seq
            (.region true [⟨some 43, (.load 27 (.t 3)), 27, none, 0⟩, ⟨some 44, (.mv (.t 2)), 23, none, 0⟩, ⟨some 45, (.mv (.t 8)), 25, none, 0⟩, ⟨some 46, (.mv (.t 10)), 3, none, 0⟩, ⟨some 47, (.iaddr 25 (.t 45) (.t 46)), 0, none, 0⟩, ⟨some 48, (.load 23 (.t 47)), 23, none, 0⟩, ⟨some 49, (.call (.f 142) [(.t 43), (.t 44), (.c (.int .i64 0)), (.t 48)]), 3, none, 3⟩, ⟨some 12, (.mv (.t 49)), 3, none, 0⟩] (some [1, 2, 3, 8, 9, 10, 11, 12]))
            (.block 2
              (.loop [1, 2, 3, 8, 9, 10, 11, 12] [] lb_82_10)))))
      (.region false [⟨some 34, (.mv (.t 10)), 3, none, 0⟩, ⟨some 35, (.bin .add 3 (.t 34) (.c (.int .i64 1))), 3, none, 0⟩, ⟨some 10, (.mv (.t 35)), 3, none, 0⟩] (some [1, 2, 3, 8, 9, 10]))))
def fa_82 : FnA := ⟨64, [.t 6, .t 7],
  (.seq
    (.region false [⟨some 3, (.box 27 (.t 0)), 0, none, 0⟩, ⟨some 6, (.mv (.c (.int .i64 0))), 3, none, 0⟩, ⟨some 7, (.mv (.c (.bool false))), 4, none, 0⟩] (some [1, 2, 3]))
    (.seq
      (.seq
        (.region false (gops [⟨some 13, (.load 27 (.t 3)), 27, none, 0⟩, ⟨some 14, (.call (.f 111) [(.t 13)]), 4, none, 3⟩, ⟨some 15, (.un .not (.t 14)), 4, none, 0⟩, ⟨some 16, (.mv (.t 15)), 4, none, 0⟩, ⟨some 17, (.mv (.t 1)), 23, some (16, false), 0⟩, ⟨some 18, (.call (.f 140) [(.t 17)]), 4, some (16, false), 3⟩, ⟨some 19, (.un .not (.t 18)), 4, some (16, false), 0⟩, ⟨some 20, (.pick (.t 16) (.c (.bool true)) (.t 19)), 4, none, 0⟩, ⟨some 21, (.mv (.t 20)), 4, none, 0⟩, ⟨some 22, (.mv (.t 2)), 23, some (21, false), 0⟩, ⟨some 23, (.call (.f 140) [(.t 22)]), 4, some (21, false), 3⟩, ⟨some 24, (.un .not (.t 23)), 4, some (21, false), 0⟩, ⟨some 25, (.pick (.t 21) (.c (.bool true)) (.t 24)), 4, none, 0⟩]) (some [1, 2, 3, 25]))
        (.cond (.t 25)
          (.seq
            (.region false [⟨some 6, (.mv (.c (.int .i64 0))), 3, none, 0⟩, ⟨some 7, (.mv (.c (.bool false))), 4, none, 0⟩] (some [6, 7]))
            .ret)
          .skip))
      (.seq
        (.region false [⟨some 26, (.faddr 27 (.t 3) 0), 0, none, 0⟩, ⟨some 27, (.load 23 (.t 26)), 23, none, 0⟩, ⟨some 28, (.len 23 (.t 27)), 3, none, 0⟩, ⟨some 29, (.call (.f 150) [(.t 28)]), 25, none, 3⟩, ⟨some 8, (.mv (.t 29)), 25, none, 0⟩] (some [1, 2, 3, 8]))
        (.seq
          (.region false [⟨some 9, (.mv (.c (.int .i64 0))), 3, none, 0⟩] (some [1, 2, 3, 8, 9]))
          (.seq
            (.seq
              (.region false [⟨some 10, (.mv (.c (.int .i64 0))), 3, none, 0⟩] (some [1, 2, 3, 8, 9, 10]))
              (.block 0
                (.loop [1, 2, 3, 8, 9, 10] [] lb_82_6)))
            (.seq
              (.region false [⟨some 63, (.mv (.t 9)), 3, none, 0⟩, ⟨some 6, (.mv (.t 63)), 3, none, 0⟩, ⟨some 7, (.mv (.c (.bool true))), 4, none, 0⟩] (some [6, 7]))
              .ret))))))⟩
theorem fok_82 : FnOk Try.prog 82 fa_82 an_82 := ⟨Try.f82, _, Try.func82, rfl, by kernel_rfl, rfl, rfl, by decide, by kernel_rfl⟩
/-- impl.power -/
def an_124 : Ann := ⟨[], [(0, [1, 2, 3]), (1, [1, 2, 3, 7]), (2, [1, 2, 3, 7, 13]), (4, [1, 2, 3, 7]), (3, [1, 2, 3, 7]), (5, [6])], [(2, [1, 2, 3, 7], [])], []⟩
def lb_124_2 : AC :=
  (.seq
    (.seq
      (.region false [⟨some 12, (.mv (.t 2)), 3, none, 0⟩, ⟨some 13, (.bin .gtr 3 (.t 12) (.c (.int .i64 0))), 4, none, 0⟩] (some [1, 2, 3, 7, 13]))
      (.cond (.t 13)
        .skip
        (.exit 0)))
    (.seq
      (.block 1
        (.region false [⟨some 16, (.faddr 27 (.t 3) 1), 0, none, 0⟩, ⟨some 17, (.load 25 (.t 16)), 25, none, 0⟩, ⟨some 18, (.mv (.t 7)), 3, none, 0⟩, ⟨some 19, (.iaddr 25 (.t 17) (.t 18)), 0, none, 0⟩, ⟨some 20, (.load 23 (.t 19)), 23, none, 0⟩, ⟨some 21, (.mv (.t 1)), 3, none, 0⟩, ⟨some 22, (.iaddr 23 (.t 20) (.t 21)), 0, none, 0⟩, ⟨some 23, (.load 3 (.t 22)), 3, none, 0⟩, ⟨some 7, (.mv (.t 23)), 3, none, 0⟩] (some [1, 2, 3, 7])))
      (.region false [⟨some 14, (.mv (.t 2)), 3, none, 0⟩, ⟨some 15, (.bin .sub 3 (.t 14) (.c (.int .i64 1))), 3, none, 0⟩, ⟨some 2, (.mv (.t 15)), 3, none, 0⟩] (some [1, 2, 3, 7]))))
def fa_124 : FnA := ⟨25, [.t 6],
  (.seq
    (.region false [⟨some 3, (.box 27 (.t 0)), 0, none, 0⟩, ⟨some 6, (.mv (.c (.int .i64 0))), 3, none, 0⟩] (some [1, 2, 3]))
    (.seq
      (.region false [⟨some 8, (.faddr 27 (.t 3) 0), 0, none, 0⟩, ⟨some 9, (.load 23 (.t 8)), 23, none, 0⟩, ⟨some 10, (.len 23 (.t 9)), 3, none, 0⟩, ⟨some 11, (.bin .sub 3 (.t 10) (.c (.int .i64 1))), 3, none, 0⟩, ⟨some 7, (.mv (.t 11)), 3, none, 0⟩] (some [1, 2, 3, 7]))
      (.seq
        (.block 0
          (.loop [1, 2, 3, 7] [] lb_124_2))
        (.seq
          (.region false [⟨some 24, (.mv (.t 7)), 3, none, 0⟩, ⟨some 6, (.mv (.t 24)), 3, none, 0⟩] (some [6]))
          .ret))))⟩
theorem fok_124 : FnOk Try.prog 124 fa_124 an_124 := ⟨Try.f124, _, Try.func124, rfl, by kernel_rfl, rfl, rfl, by decide, by kernel_rfl⟩
/-- impl.LeastPower$1 -/
def an_155 : Ann := ⟨[(0, 8, 3), (0, 10, 3), (0, 14, 3), (0, 15, 3)], [(0, [])], [], []⟩
def fa_155 : FnA := ⟨24, [],
  (.region true (gops [⟨some 7, (.load 4 (.t 1)), 4, none, 0⟩, ⟨some 8, (.mv (.t 7)), 4, none, 0⟩, ⟨some 9, (.faddr 27 (.t 2) 0), 0, some (8, true), 0⟩, ⟨some 10, (.load 23 (.t 9)), 23, some (8, true), 0⟩, ⟨some 11, (.load 27 (.t 2)), 27, some (8, true), 0⟩, ⟨some 12, (.load 27 (.t 2)), 27, some (8, true), 0⟩, ⟨some 13, (.load 23 (.t 3)), 23, some (8, true), 0⟩, ⟨some 14, (.mv (.t 0)), 23, some (8, true), 0⟩, ⟨some 15, (.call (.f 139) [(.t 12), (.t 13), (.t 14)]), 3, some (8, true), 3⟩, ⟨some 16, (.load 3 (.t 4)), 3, some (8, true), 0⟩, ⟨some 17, (.call (.f 124) [(.t 11), (.t 15), (.t 16)]), 3, some (8, true), 3⟩, ⟨some 18, (.load 27 (.t 2)), 27, some (8, true), 0⟩, ⟨some 19, (.load 23 (.t 5)), 23, some (8, true), 0⟩, ⟨some 20, (.mv (.t 0)), 23, some (8, true), 0⟩, ⟨some 21, (.call (.f 139) [(.t 18), (.t 19), (.t 20)]), 3, some (8, true), 3⟩, ⟨some 22, (.call (.f 131) [(.t 10), (.t 17), (.t 21)]), 4, some (8, true), 3⟩, ⟨some 23, (.pick (.t 8) (.t 22) (.c (.bool false))), 4, none, 0⟩, ⟨none, (.store 4 (.t 1) (.t 23)), 0, none, 0⟩]) (some []))⟩
theorem fok_155 : FnOk Try.prog 155 fa_155 an_155 := ⟨Try.f155, _, Try.func155, rfl, by kernel_rfl, rfl, rfl, by decide, by kernel_rfl⟩
/-- impl.eachList -/
def an_183 : Ann := ⟨[(1, 2, 16)], [(0, [0, 1, 4]), (1, [0, 1, 4]), (2, [0, 1, 4, 5]), (3, [0, 1, 4, 5, 27]), (4, [0, 1, 4, 5]), (5, [0, 1, 4, 5]), (6, [0, 1, 4, 5, 34]), (7, [0, 1, 4])], [(1, [0, 1, 4], [12160, 8064, 4064, 8, 16, 24, 32, 40, 48, 56, 64, 72, 80, 88, 96, 104, 112, 120, 128]), (3, [0, 1, 4, 5], [12160, 8064, 4064, 8, 16, 24, 32, 40, 48, 56, 64, 72, 80, 88, 96, 104, 112, 120, 128])], []⟩
def lb_183_3 : AC :=
  (.seq
    (.seq
      (.region true (gops [⟨some 15, (.mv (.t 5)), 3, none, 0⟩, ⟨some 16, (.bin .geq 3 (.t 15) (.c (.int .i64 0))), 4, none, 0⟩, ⟨some 17, (.mv (.t 16)), 4, none, 0⟩, ⟨some 18, (.mv (.t 4)), 23, some (17, true), 0⟩, ⟨some 19, (.mv (.t 5)), 3, some (17, true), 0⟩, ⟨some 20, (.iaddr 23 (.t 18) (.t 19)), 0, some (17, true), 0⟩, ⟨some 21, (.load 3 (.t 20)), 3, some (17, true), 0⟩, ⟨some 22, (.mv (.t 0)), 23, some (17, true), 0⟩, ⟨some 23, (.mv (.t 5)), 3, some (17, true), 0⟩, ⟨some 24, (.iaddr 23 (.t 22) (.t 23)), 0, some (17, true), 0⟩, ⟨some 25, (.load 3 (.t 24)), 3, some (17, true), 0⟩, ⟨some 26, (.bin .eql 3 (.t 21) (.t 25)), 4, some (17, true), 0⟩, ⟨some 27, (.pick (.t 17) (.t 26) (.c (.bool false))), 4, none, 0⟩]) (some [0, 1, 4, 5, 27]))
      (.cond (.t 27)
        .skip
        (.exit 2)))
    (.block 3
      (.seq
        (.region false [⟨some 28, (.mv (.t 4)), 23, none, 0⟩, ⟨some 29, (.mv (.t 5)), 3, none, 0⟩, ⟨some 30, (.iaddr 23 (.t 28) (.t 29)), 0, none, 0⟩, ⟨none, (.store 3 (.t 30) (.c (.int .i64 0))), 0, none, 0⟩] (some [0, 1, 4, 5]))
        (.region false [⟨some 31, (.mv (.t 5)), 3, none, 0⟩, ⟨some 32, (.bin .sub 3 (.t 31) (.c (.int .i64 1))), 3, none, 0⟩, ⟨some 5, (.mv (.t 32)), 3, none, 0⟩] (some [0, 1, 4, 5])))))
def lb_183_1 : AC :=
  (.block 1
    (.seq
      (.region false [⟨some 9, (.mv (.t 1)), 94, none, 0⟩, ⟨some 10, (.mv (.t 4)), 23, none, 0⟩, ⟨some 11, (.call (.t 9) [(.t 10)]), 0, none, 16⟩] (some [0, 1, 4]))
      (.seq
        (.region false [⟨some 12, (.mv (.t 4)), 23, none, 0⟩, ⟨some 13, (.len 23 (.t 12)), 3, none, 0⟩, ⟨some 14, (.bin .sub 3 (.t 13) (.c (.int .i64 1))), 3, none, 0⟩, ⟨some 5, (.mv (.t 14)), 3, none, 0⟩] (some [0, 1, 4, 5]))
        (.seq
          (.block 2
            (.loop [0, 1, 4, 5] [12160, 8064, 4064, 8, 16, 24, 32, 40, 48, 56, 64, 72, 80, 88, 96, 104, 112, 120, 128] lb_183_3))
          (.seq
            (.seq
              (.region false [⟨some 33, (.mv (.t 5)), 3, none, 0⟩, ⟨some 34, (.bin .lss 3 (.t 33) (.c (.int .i64 0))), 4, none, 0⟩] (some [0, 1, 4, 5, 34]))
              (.cond (.t 34)
                .ret
                .skip))
            (.region false [⟨some 35, (.mv (.t 4)), 23, none, 0⟩, ⟨some 36, (.mv (.t 5)), 3, none, 0⟩, ⟨some 37, (.iaddr 23 (.t 35) (.t 36)), 0, none, 0⟩, ⟨some 38, (.load 3 (.t 37)), 3, none, 0⟩, ⟨some 39, (.bin .add 3 (.t 38) (.c (.int .i64 1))), 3, none, 0⟩, ⟨some 40, (.iaddr 23 (.t 35) (.t 36)), 0, none, 0⟩, ⟨none, (.store 3 (.t 40) (.t 39)), 0, none, 0⟩] (some [0, 1, 4])))))))
def fa_183 : FnA := ⟨41, [],
  (.seq
    (.region false [⟨some 6, (.mv (.t 0)), 23, none, 0⟩, ⟨some 7, (.len 23 (.t 6)), 3, none, 0⟩, ⟨some 8, (.make 23 (.t 7) (.t 7)), 23, none, 0⟩, ⟨some 4, (.mv (.t 8)), 23, none, 0⟩] (some [0, 1, 4]))
    (.block 0
      (.loop [0, 1, 4] [12160, 8064, 4064, 8, 16, 24, 32, 40, 48, 56, 64, 72, 80, 88, 96, 104, 112, 120, 128] lb_183_1)))⟩
theorem fok_183 : FnOk Try.prog 183 fa_183 an_183 := ⟨Try.f183, _, Try.func183, rfl, by kernel_rfl, rfl, rfl, by decide, by kernel_rfl⟩
/-- impl.eachNames -/
def an_148 : Ann := ⟨[(1, 5, 3), (1, 7, 16)], [(0, [1, 2]), (1, [])], [], []⟩
def fa_148 : FnA := ⟨12, [],
  (.seq
    (.region false [⟨some 2, (.box 27 (.t 0)), 0, none, 0⟩] (some [1, 2]))
    (.region false [⟨some 4, (.faddr 27 (.t 2) 0), 0, none, 0⟩, ⟨some 5, (.load 23 (.t 4)), 23, none, 0⟩, ⟨some 6, (.len 23 (.t 5)), 3, none, 0⟩, ⟨some 7, (.bin .sub 3 (.t 6) (.c (.int .i64 1))), 3, none, 0⟩, ⟨some 8, (.bslice 23 1 [(0, (.t 7))]), 23, none, 0⟩, ⟨some 9, (.call (.f 184) [(.t 8), (.c (.int .i64 3))]), 23, none, 3⟩, ⟨some 10, (.mv (.t 1)), 94, none, 0⟩, ⟨some 11, (.call (.f 183) [(.t 9), (.t 10)]), 0, none, 16⟩] (some [])))⟩
theorem fok_148 : FnOk Try.prog 148 fa_148 an_148 := ⟨Try.f148, _, Try.func148, rfl, by kernel_rfl, rfl, rfl, by decide, by kernel_rfl⟩
/-- impl.LeastPower -/
def an_81 : Ann := ⟨[(1, 1, 3), (1, 5, 3), (1, 10, 3), (7, 2, 16)], [(0, [3, 4, 5]), (1, [3, 4, 5, 22]), (2, [6, 7]), (3, [3, 4, 5, 8]), (4, [3, 4, 5, 8, 24]), (6, [3, 4, 5, 8, 9]), (7, [3, 4, 5, 8, 9]), (8, [3, 4, 5, 8, 30]), (9, [6, 7]), (10, [3, 4, 5, 32]), (11, [3, 4, 5, 8]), (5, [3, 4, 5, 8]), (12, [6, 7])], [(4, [3, 4, 5, 8], [64])], []⟩
def lb_81_4 : AC :=
  (.seq
    (.seq
      (.region false [⟨some 23, (.load 3 (.t 8)), 3, none, 0⟩, ⟨some 24, (.bin .leq 3 (.t 23) (.c (.int .i64 20))), 4, none, 0⟩] (some [3, 4, 5, 8, 24]))
      (.cond (.t 24)
        .skip
        (.exit 0)))
    (.seq
      (.block 1
        (.seq
          (.region false [⟨some 9, (.alloc 4), 0, none, 0⟩, ⟨none, (.store 4 (.t 9) (.c (.bool true))), 0, none, 0⟩] (some [3, 4, 5, 8, 9]))
          (.seq
            (.region false [⟨some 27, (.load 27 (.t 3)), 27, none, 0⟩, ⟨some 28, (.mkfn 155 [(.t 9), (.t 3), (.t 4), (.t 8), (.t 5)]), 94, none, 0⟩, ⟨some 29, (.call (.f 148) [(.t 27), (.t 28)]), 0, none, 16⟩] (some [3, 4, 5, 8, 9]))
            (.seq
              (.region false [⟨some 30, (.load 4 (.t 9)), 4, none, 0⟩] (some [3, 4, 5, 8, 30]))
              (.cond (.t 30)
                (.seq
                  (.region false [⟨some 31, (.load 3 (.t 8)), 3, none, 0⟩, ⟨some 6, (.mv (.t 31)), 3, none, 0⟩, ⟨some 7, (.mv (.c (.bool true))), 4, none, 0⟩] (some [6, 7]))
                  .ret)
                .skip)))))
      (.seq
        (.seq
          (.region false [⟨some 32, (.load 3 (.t 8)), 3, none, 0⟩] (some [3, 4, 5, 32]))
          (.region false [⟨some 8, (.alloc 3), 0, none, 0⟩, ⟨none, (.store 3 (.t 8) (.t 32)), 0, none, 0⟩] (some [3, 4, 5, 8])))
        (.region false [⟨some 25, (.load 3 (.t 8)), 3, none, 0⟩, ⟨some 26, (.bin .add 3 (.t 25) (.c (.int .i64 1))), 3, none, 0⟩, ⟨none, (.store 3 (.t 8) (.t 26)), 0, none, 0⟩] (some [3, 4, 5, 8])))))
def fa_81 : FnA := ⟨33, [.t 6, .t 7],
  (.seq
    (.region false [⟨some 3, (.box 27 (.t 0)), 0, none, 0⟩, ⟨some 4, (.box 23 (.t 1)), 0, none, 0⟩, ⟨some 5, (.box 23 (.t 2)), 0, none, 0⟩, ⟨some 6, (.mv (.c (.int .i64 0))), 3, none, 0⟩, ⟨some 7, (.mv (.c (.bool false))), 4, none, 0⟩] (some [3, 4, 5]))
    (.seq
      (.seq
        (.region false (gops [⟨some 10, (.load 27 (.t 3)), 27, none, 0⟩, ⟨some 11, (.call (.f 23) [(.t 10)]), 4, none, 3⟩, ⟨some 12, (.un .not (.t 11)), 4, none, 0⟩, ⟨some 13, (.mv (.t 12)), 4, none, 0⟩, ⟨some 14, (.load 23 (.t 4)), 23, some (13, false), 0⟩, ⟨some 15, (.call (.f 75) [(.t 14)]), 4, some (13, false), 3⟩, ⟨some 16, (.un .not (.t 15)), 4, some (13, false), 0⟩, ⟨some 17, (.pick (.t 13) (.c (.bool true)) (.t 16)), 4, none, 0⟩, ⟨some 18, (.mv (.t 17)), 4, none, 0⟩, ⟨some 19, (.load 23 (.t 5)), 23, some (18, false), 0⟩, ⟨some 20, (.call (.f 75) [(.t 19)]), 4, some (18, false), 3⟩, ⟨some 21, (.un .not (.t 20)), 4, some (18, false), 0⟩, ⟨some 22, (.pick (.t 18) (.c (.bool true)) (.t 21)), 4, none, 0⟩]) (some [3, 4, 5, 22]))
        (.cond (.t 22)
          (.seq
            (.region false [⟨some 6, (.mv (.c (.int .i64 0))), 3, none, 0⟩, ⟨some 7, (.mv (.c (.bool false))), 4, none, 0⟩] (some [6, 7]))
            .ret)
          .skip))
      (.seq
        (.seq
          (.region false [⟨some 8, (.alloc 3), 0, none, 0⟩, ⟨none, (.store 3 (.t 8) (.c (.int .i64 0))), 0, none, 0⟩] (some [3, 4, 5, 8]))
          (.block 0
            (.loop [3, 4, 5, 8] [64] lb_81_4)))
        (.seq
          (.region false [⟨some 6, (.mv (.c (.int .i64 0))), 3, none, 0⟩, ⟨some 7, (.mv (.c (.bool false))), 4, none, 0⟩] (some [6, 7]))
          .ret))))⟩
theorem fok_81 : FnOk Try.prog 81 fa_81 an_81 := ⟨Try.f81, _, Try.func81, rfl, by kernel_rfl, rfl, rfl, by decide, by kernel_rfl⟩
end Go.PS
end

section
-- Contracts: lists of elements for the names, powers, the least power of the reference.
set_option maxRecDepth 100000
set_option linter.unusedVariables false
set_option linter.unusedSimpArgs false
namespace Go.PS
open Go.Proofs

theorem powS_pc (u : List Int) (t : List (List Int)) (x k : Int) (f : TF u t) (hx0 : 0 ≤ x) (hx : x.toNat < u.length) (hk0 : 0 ≤ k) (hk : k ≤ 1000000) : PC Try.prog 126 [AL u t, I64 x, I64 k] none true (fun r _ => r = I64 (powM u t x.toNat k.toNat)) := by
  obtain ⟨x, rfl⟩ := Int.eq_ofNat_of_zero_le hx0
  obtain ⟨k, rfl⟩ := Int.eq_ofNat_of_zero_le hk0
  simp at hx
  have h6 := f.lat.six
  refine pcT [] fok_126 ?_
  simp [fa_126, wrap64 (n := (u.length : Int) - 1) (by omega) (by omega)]
  refine loopA (tabK_mono _) k (fun i => [(2, I64 ((k : Int) - i)), (7, I64 (powM u t x i))]) (fun _ => []) (fun _ => True) (by simp [powM]) (by simp) (fun i g hi _ => ?_)
  have hr := powM_rng f hx i
  simp [lb_126_2, f.len, f.rows, hr, hx, show (powM u t x i).toNat < u.length by omega, wrap64 (n := (k : Int) - i - 1) (by omega) (by omega), powM]
  refine ⟨fun h => ⟨by omega, by omega⟩, fun h => by rw [show i = k by omega]⟩
noncomputable def fm_powS : Fam Try.prog := mkFam (X := List Int × List (List Int) × Int × Int) 126 true (fun (u, t, x, k) => [AL u t, I64 x, I64 k]) (fun (u, t, x, k) => (TF u t) ∧ (0 ≤ x) ∧ (x.toNat < u.length) ∧ (0 ≤ k) ∧ (k ≤ 1000000)) (fun (u, t, x, k) => I64 (powM u t x.toNat k.toNat)) (by
  rintro ⟨u, t, x, k⟩ ⟨f, hx0, hx, hk0, hk⟩
  exact powS_pc u t x k f hx0 hx hk0 hk)
@[simp] theorem fm_powS_id : fm_powS.id = 126 := rfl
@[simp] theorem fm_powS_fresh : fm_powS.fresh = true := rfl
@[simp] theorem fm_powS_look (u : List Int) (t : List (List Int)) (x k : Int) (f : TF u t) (hx0 : 0 ≤ x) (hx : x.toNat < u.length) (hk0 : 0 ≤ k) (hk : k ≤ 1000000) : fm_powS.look [AL u t, I64 x, I64 k] = some (I64 (powM u t x.toNat k.toNat)) :=
  lookF_of (X := List Int × List (List Int) × Int × Int) (args := fun (u, t, x, k) => [AL u t, I64 x, I64 k]) (pre := fun (u, t, x, k) => (TF u t) ∧ (0 ≤ x) ∧ (x.toNat < u.length) ∧ (0 ≤ k) ∧ (k ≤ 1000000)) (val := fun (u, t, x, k) => I64 (powM u t x.toNat k.toNat)) (by
  rintro ⟨u, t, x, k⟩ ⟨u', t', x', k'⟩ h
  simp at h
  try simp only [and_assoc] at h
  obtain ⟨rfl, rfl, rfl, rfl⟩ := h
  rfl) (u, t, x, k) ⟨f, hx0, hx, hk0, hk⟩
attribute [irreducible] fm_powS

theorem powI_pc (u : List Int) (t : List (List Int)) (x k : Int) (f : TF u t) (hx0 : 0 ≤ x) (hx : x.toNat < u.length) (hk0 : 0 ≤ k) (hk : k ≤ 1000000) : PC Try.prog 124 [AL u t, I64 x, I64 k] none true (fun r _ => r = I64 (powM u t x.toNat k.toNat)) := by
  obtain ⟨x, rfl⟩ := Int.eq_ofNat_of_zero_le hx0
  obtain ⟨k, rfl⟩ := Int.eq_ofNat_of_zero_le hk0
  simp at hx
  have h6 := f.lat.six
  refine pcT [] fok_124 ?_
  simp [fa_124, wrap64 (n := (u.length : Int) - 1) (by omega) (by omega)]
  refine loopA (tabK_mono _) k (fun i => [(2, I64 ((k : Int) - i)), (7, I64 (powM u t x i))]) (fun _ => []) (fun _ => True) (by simp [powM]) (by simp) (fun i g hi _ => ?_)
  have hr := powM_rng f hx i
  simp [lb_124_2, f.len, f.rows, hr, hx, show (powM u t x i).toNat < u.length by omega, wrap64 (n := (k : Int) - i - 1) (by omega) (by omega), powM]
  refine ⟨fun h => ⟨by omega, by omega⟩, fun h => by rw [show i = k by omega]⟩
noncomputable def fm_powI : Fam Try.prog := mkFam (X := List Int × List (List Int) × Int × Int) 124 true (fun (u, t, x, k) => [AL u t, I64 x, I64 k]) (fun (u, t, x, k) => (TF u t) ∧ (0 ≤ x) ∧ (x.toNat < u.length) ∧ (0 ≤ k) ∧ (k ≤ 1000000)) (fun (u, t, x, k) => I64 (powM u t x.toNat k.toNat)) (by
  rintro ⟨u, t, x, k⟩ ⟨f, hx0, hx, hk0, hk⟩
  exact powI_pc u t x k f hx0 hx hk0 hk)
@[simp] theorem fm_powI_id : fm_powI.id = 124 := rfl
@[simp] theorem fm_powI_fresh : fm_powI.fresh = true := rfl
@[simp] theorem fm_powI_look (u : List Int) (t : List (List Int)) (x k : Int) (f : TF u t) (hx0 : 0 ≤ x) (hx : x.toNat < u.length) (hk0 : 0 ≤ k) (hk : k ≤ 1000000) : fm_powI.look [AL u t, I64 x, I64 k] = some (I64 (powM u t x.toNat k.toNat)) :=
  lookF_of (X := List Int × List (List Int) × Int × Int) (args := fun (u, t, x, k) => [AL u t, I64 x, I64 k]) (pre := fun (u, t, x, k) => (TF u t) ∧ (0 ≤ x) ∧ (x.toNat < u.length) ∧ (0 ≤ k) ∧ (k ≤ 1000000)) (val := fun (u, t, x, k) => I64 (powM u t x.toNat k.toNat)) (by
  rintro ⟨u, t, x, k⟩ ⟨u', t', x', k'⟩ h
  simp at h
  try simp only [and_assoc] at h
  obtain ⟨rfl, rfl, rfl, rfl⟩ := h
  rfl) (u, t, x, k) ⟨f, hx0, hx, hk0, hk⟩
attribute [irreducible] fm_powI

theorem assignments_pc (n : Int) (h0 : 0 ≤ n) (h6 : n ≤ 6) : PC Try.prog 150 [I64 n] none false (fun r _ => r = RL (asgK n.toNat 3)) := by
  obtain ⟨n, rfl⟩ := Int.eq_ofNat_of_zero_le h0
  have h6 : n ≤ 6 := by omega
  refine pcT [] fok_150 ?_
  simp [fa_150]
  refine loopA (tabK_mono _) 3 (fun i => [(3, RL (asgK n i)), (4, I64 i)]) (fun _ => []) (fun _ => True) (by simp [asgK, rowsD, ints]) (by simp) (fun i g hi _ => ?_)
  simp [lb_150_3, wrap_succ hi (by omega)]
  refine ⟨fun h => ?_, fun h => by rw [show i = 3 by omega]⟩
  have hlen : (asgK n i).length ≤ 36 := by
    rw [asgK_length]
    have : i = 0 ∨ i = 1 ∨ i = 2 := by omega
    rcases this with rfl | rfl | rfl
    · simp
    · simp; omega
    · have := Nat.pow_le_pow_left h6 2; omega
  have hrow : ∀ j, j < (asgK n i).length → (gr (asgK n i) j).length = i := fun j hj => asgK_row n i _ (by simp [gr, List.getElem?_eq_getElem hj])
  have hnx : asgK n (i + 1) = nxt n (asgK n i) := rfl
  generalize asgK n i = o at *
  refine loopX (tabK_mono _) o.length (fun j γ => [(5, .arr 112 γ), (6, I64 j)]) (fun j γ => [⟨112, γ, .arr 1 (orowsD (nxt n (o.take j)))⟩]) (fun _ _ => True) g (by simp) (by simp [nxt, orowsD]) trivial (fun j γ g2 hj _ => ?_)
  simp [lb_150_7, wrap_succ hj (by omega)]
  refine ⟨fun h2 => ?_, fun h2 => ?_⟩
  · refine loopX (tabK_mono _) n (fun x γ => [(5, .arr 112 γ), (7, I64 x)]) (fun x γ => [⟨112, γ, .arr 1 (orowsD (nxt n (o.take j) ++ (List.range x).map fun (z : Nat) => gr o j ++ [(z : Int)]))⟩]) (fun _ _ => True) γ (by simp) (by simp) trivial (fun x γ g3 hx _ => ?_)
    simp [lb_150_10, wrap_succ hx (by omega)]
    refine ⟨fun h3 => ?_, fun h3 => ?_⟩
    · have e1 := hrow j h2
      have e2 : j * n ≤ 36 * 6 := Nat.mul_le_mul (by omega) h6
      have e3 : (nxt n (List.take j o)).length = j * n := by rw [nxt_length, List.length_take, Nat.min_eq_left hj]
      have e4 : big = 1048576 * 1048576 := rfl
      refine ⟨h2, by omega, by omega, by omega, h3, by rw [List.range_succ, List.map_append]; rfl⟩
    · obtain rfl : x = n := by omega
      rw [← nxt_take h2]
      exact ⟨h2, γ, ⟨rfl, wrap_succ hj (by omega)⟩, rfl, rfl⟩
  · obtain rfl : j = o.length := by omega
    rw [List.take_length]
    exact ⟨by omega, hnx.symm, wrap_succ hi (by omega)⟩
noncomputable def fm_assignments : Fam Try.prog := mkFam (X := Int) 150 false (fun n => [I64 n]) (fun n => (0 ≤ n) ∧ (n ≤ 6)) (fun n => RL (asgK n.toNat 3)) (by
  rintro n ⟨h0, h6⟩
  exact assignments_pc n h0 h6)
@[simp] theorem fm_assignments_id : fm_assignments.id = 150 := rfl
@[simp] theorem fm_assignments_fresh : fm_assignments.fresh = false := rfl
@[simp] theorem fm_assignments_look (n : Int) (h0 : 0 ≤ n) (h6 : n ≤ 6) : fm_assignments.look [I64 n] = some (RL (asgK n.toNat 3)) :=
  lookF_of (X := Int) (args := fun n => [I64 n]) (pre := fun n => (0 ≤ n) ∧ (n ≤ 6)) (val := fun n => RL (asgK n.toNat 3)) (by
  intro n n' h
  simp at h
  subst h
  rfl) n ⟨h0, h6⟩
attribute [irreducible] fm_assignments

theorem all_gr {A : List (List Int)} {p : List Int → Bool} : A.all p = true ↔ ∀ j, j < A.length → p (gr A j) = true := by
  rw [List.all_eq_true]
  constructor
  · intro h j hj
    exact h _ (by simp [gr, List.getElem?_eq_getElem hj])
  · intro h x hx
    obtain ⟨j, hj, rfl⟩ := List.getElem_of_mem hx
    have := h j hj
    simpa [gr, List.getElem?_eq_getElem hj] using this

theorem okP_up {u : List Int} {t : List (List Int)} (a : VA u t) {p q nm : List Int} (hp : validT p) (hq : validT q) (hn : NmOk nm u.length) {k : Nat} (h : okP u t p q k nm = true) : ∀ i, okP u t p q (k + i) nm = true
  | 0 => h
  | i + 1 => okP_mono a hp hq hn (okP_up a hp hq hn h i)

theorem leastS_pc (u : List Int) (t : List (List Int)) (p q : List Int) (hu : Big u.length) (ht : BigR t) (hp : Big p.length) (hq : Big q.length) : PC Try.prog 82 [AL u t, IL p, IL q] none true (fun r _ => r = .tup [I64 (lpM u t p q).1, .bool (lpM u t p q).2]) := by
  have hul := hu.le
  refine pcT [fm_validAlgebraS, fm_validTermS, fm_assignments, fm_powS, fm_valueS, fm_belowS] fok_82 ?_
  simp [fa_82]
  refine cutW (tabK_mono _) [(25, .bool (!(decide (VA u t) && decide (validT p) && decide (validT q))))] (by simp [hu, ht, hp, hq]; grind) ?_
  cases hb : (decide (VA u t) && decide (validT p) && decide (validT q))
  · simp [lpM, hb]
  simp only [Bool.and_eq_true, decide_eq_true_eq] at hb
  obtain ⟨⟨a, vp⟩, vq⟩ := hb
  have f := a.tf
  have h6 := f.lat.six
  simp [h6, show (u.length : Int) ≤ 6 by omega]
  have hA : ∀ j, j < (asgK u.length 3).length → NmOk (gr (asgK u.length 3) j) u.length := fun j hj => asg3_ok (by simp [gr, List.getElem?_eq_getElem hj])
  have hAl : (asgK u.length 3).length ≤ 216 := by
    rw [asgK_length]
    exact Nat.pow_le_pow_left h6 3
  have elp : lpI u t p q = firstI 21 fun k => (asgK u.length 3).all (okP u t p q k) := rfl
  have ee : lpM u t p q = if 0 ≤ lpI u t p q then (lpI u t p q, true) else (0, false) := by simp [lpM, a, vp, vq]
  rw [ee, elp]
  clear ee elp
  have hall : ∀ k, (asgK u.length 3).all (okP u t p q k) = true ↔ ∀ j, j < (asgK u.length 3).length → okP u t p q k (gr (asgK u.length 3) j) = true := fun k => all_gr
  generalize asgK u.length 3 = A at *
  refine loopX (tabK_mono _) A.length (fun j m => [(9, I64 (m : Nat)), (10, I64 j)]) (fun _ _ => []) (fun j m => m ≤ 20 ∧ (∀ z, z < j → okP u t p q m (gr A z) = true) ∧ ∀ m', m' < m → A.all (okP u t p q m') = false) (0 : Nat) (by simp) (by simp) (by simp) (fun j m g hj hP => ?_)
  obtain ⟨hm, hP1, hP2⟩ := hP
  rcases Nat.lt_or_ge j A.length with h | h
  · have nm := hA j h
    have ho1 := (ev1_ok f nm _ _ _ (Nat.le_refl _) vp.2).1
    have ho2 := (ev1_ok f nm _ _ _ (Nat.le_refl _) vq.2).1
    have eo : ∀ k, okP u t p q k (gr A j) = tb u (powM u t (ev1 u t (gr A j) p).1.toNat k).toNat (ev1 u t (gr A j) q).1.toNat := fun _ => rfl
    simp [lb_82_6, wrap_succ hj (by omega), h, f, nm, hp, hq, vp.some, vq.some]
    generalize hx : (ev1 u t (gr A j) p).1 = x at *
    generalize hy : (ev1 u t (gr A j) q).1 = y at *
    refine loopA (tabK_mono _) (20 - m) (fun i => [(9, I64 ((m + i : Nat)))]) (fun _ => []) (fun i => okP u t p q (m + i) (gr A j) = false) (by simp) (by simp) (fun i g hi hQ => ?_)
    have hr := powM_rng f (x := x.toNat) (by omega) (m + i)
    have s := f.lat.sm
    simp [lb_82_10, f, s, hr, ho1, ho2, show x.toNat < u.length by omega, show y.toNat < u.length by omega, show (0 : Int) ≤ (m : Int) + i by omega, show (m : Int) + i ≤ 1000000 by omega, show ((m : Int) + i).toNat = m + i by omega, show (powM u t x.toNat (m + i)).toNat < u.length by omega, ← eo, wrap64 (n := (m : Int) + i + 1) (by omega) (by omega)]
    have hmem : gr A j ∈ A := by simp [gr, List.getElem?_eq_getElem h]
    have hbad : ∀ m', m' < m + i → A.all (okP u t p q m') = false := fun m' hm' => by
      rcases Nat.lt_or_ge m' m with c | c
      · exact hP2 m' c
      · have := hQ (m' - m) (by omega)
        rw [show m + (m' - m) = m' by omega] at this
        rw [List.all_eq_false]
        exact ⟨_, hmem, by simp [this]⟩
    refine ⟨fun h3 => ⟨fun h4 => ?_, fun h4 => ⟨by omega, by omega, h3⟩⟩, fun h3 => ⟨h, m + i, ⟨by simp, wrap_succ hj (by omega)⟩, by omega, fun z hz => ?_, fun m' hm' => by simpa using hbad m' hm'⟩⟩
    · have hno : (firstI 21 fun k => A.all (okP u t p q k)) = -1 := firstI_none fun k hk => by
        rcases Nat.lt_or_ge k (m + i) with c | c
        · exact hbad k c
        · obtain rfl : k = m + i := by omega
          rw [List.all_eq_false]
          exact ⟨_, hmem, by simp [h3]⟩
      rw [hno]
      simp
    · rcases Nat.lt_or_ge z j with c | c
      · exact okP_up a vp vq (hA z (by omega)) (hP1 z c) i
      · obtain rfl : z = j := by omega
        exact h3
  · obtain rfl : j = A.length := by omega
    simp [lb_82_6]
    rw [firstI_some (z := m) (by omega) ((hall m).2 hP1) hP2]
    simp
noncomputable def fm_leastS : Fam Try.prog := mkFam (X := List Int × List (List Int) × List Int × List Int) 82 true (fun (u, t, p, q) => [AL u t, IL p, IL q]) (fun (u, t, p, q) => (Big u.length) ∧ (BigR t) ∧ (Big p.length) ∧ (Big q.length)) (fun (u, t, p, q) => .tup [I64 (lpM u t p q).1, .bool (lpM u t p q).2]) (by
  rintro ⟨u, t, p, q⟩ ⟨hu, ht, hp, hq⟩
  exact leastS_pc u t p q hu ht hp hq)
@[simp] theorem fm_leastS_id : fm_leastS.id = 82 := rfl
@[simp] theorem fm_leastS_fresh : fm_leastS.fresh = true := rfl
@[simp] theorem fm_leastS_look (u : List Int) (t : List (List Int)) (p q : List Int) (hu : Big u.length) (ht : BigR t) (hp : Big p.length) (hq : Big q.length) : fm_leastS.look [AL u t, IL p, IL q] = some (.tup [I64 (lpM u t p q).1, .bool (lpM u t p q).2]) :=
  lookF_of (X := List Int × List (List Int) × List Int × List Int) (args := fun (u, t, p, q) => [AL u t, IL p, IL q]) (pre := fun (u, t, p, q) => (Big u.length) ∧ (BigR t) ∧ (Big p.length) ∧ (Big q.length)) (val := fun (u, t, p, q) => .tup [I64 (lpM u t p q).1, .bool (lpM u t p q).2]) (by
  rintro ⟨u, t, p, q⟩ ⟨u', t', p', q'⟩ h
  simp at h
  try simp only [and_assoc] at h
  obtain ⟨rfl, rfl, rfl, rfl⟩ := h
  rfl) (u, t, p, q) ⟨hu, ht, hp, hq⟩
attribute [irreducible] fm_leastS

end Go.PS
end

section
-- Contracts: implications, nearness, powers; orders, meets and joins, of any numbers.
set_option maxRecDepth 100000
set_option linter.unusedVariables false
set_option linter.unusedSimpArgs false
namespace Go.PS
open Go.Proofs

/-- Is a number an element? -/
def inE (n : Nat) (x : Int) : Bool := decide (0 ≤ x ∧ x < n)
theorem inE_iff {n : Nat} {x : Int} : inE n x = true ↔ 0 ≤ x ∧ x.toNat < n := by simp [inE]; omega
theorem inE_rng {n : Nat} {x : Int} : (decide (0 ≤ x) && decide (x ≤ (n : Int) - 1)) = inE n x := by
  rw [Bool.eq_iff_iff]; simp [inE]; omega
theorem allE_two {n : Nat} {x y : Int} : decide (allE [x, y] n) = (inE n x && inE n y) := by
  rw [Bool.eq_iff_iff]; simp [allE, inE]
theorem allE_one {n : Nat} {x : Int} : decide (allE [x] n) = inE n x := by
  rw [Bool.eq_iff_iff]; simp [allE, inE]

theorem hasS_pc (u : List Int) (t : List (List Int)) (x y : Int) (hu : Big u.length) (ht : BigR t) : PC Try.prog 125 [AL u t, I64 x, I64 y] none true (fun r _ => r = .bool (decide (VA u t) && (inE u.length x && inE u.length y))) := by
  have hl := hu.le
  have w1 : IntKind.i64.wrap ((u.length : Int) - 1) = u.length - 1 := wrap64 (by omega) (by omega)
  refine pcT [fm_validAlgebraS, fm_inRange] fok_125 ?_
  simp [fa_125]
  refine cutW (tabK_mono _) [(6, .bool (decide (VA u t) && (inE u.length x && inE u.length y)))] (by
    rw [← inE_rng, ← inE_rng]
    cases hb : decide (VA u t)
    · simp [hu, ht, hb]
    · cases hb2 : (decide (0 ≤ x) && decide (x ≤ (u.length : Int) - 1))
      · simp [hu, ht, hb, w1, hb2]
      · simp [hu, ht, hb, w1, hb2]) ?_
  simp
noncomputable def fm_hasS : Fam Try.prog := mkFam (X := List Int × List (List Int) × Int × Int) 125 true (fun (u, t, x, y) => [AL u t, I64 x, I64 y]) (fun (u, t, x, y) => (Big u.length) ∧ (BigR t)) (fun (u, t, x, y) => .bool (decide (VA u t) && (inE u.length x && inE u.length y))) (by
  rintro ⟨u, t, x, y⟩ ⟨hu, ht⟩
  exact hasS_pc u t x y hu ht)
@[simp] theorem fm_hasS_id : fm_hasS.id = 125 := rfl
@[simp] theorem fm_hasS_fresh : fm_hasS.fresh = true := rfl
@[simp] theorem fm_hasS_look (u : List Int) (t : List (List Int)) (x y : Int) (hu : Big u.length) (ht : BigR t) : fm_hasS.look [AL u t, I64 x, I64 y] = some (.bool (decide (VA u t) && (inE u.length x && inE u.length y))) :=
  lookF_of (X := List Int × List (List Int) × Int × Int) (args := fun (u, t, x, y) => [AL u t, I64 x, I64 y]) (pre := fun (u, t, x, y) => (Big u.length) ∧ (BigR t)) (val := fun (u, t, x, y) => .bool (decide (VA u t) && (inE u.length x && inE u.length y))) (by
  rintro ⟨u, t, x, y⟩ ⟨u', t', x', y'⟩ h
  simp at h
  try simp only [and_assoc] at h
  obtain ⟨rfl, rfl, rfl, rfl⟩ := h
  rfl) (u, t, x, y) ⟨hu, ht⟩
attribute [irreducible] fm_hasS

theorem nearS_pc (u : List Int) (t : List (List Int)) (x y : Int) (f : TF u t) (hx0 : 0 ≤ x) (hx : x.toNat < u.length) (hy0 : 0 ≤ y) (hy : y.toNat < u.length) : PC Try.prog 176 [AL u t, I64 x, I64 y] none true (fun r _ => r = I64 (tm t (implyM u t x.toNat y.toNat).toNat (implyM u t y.toNat x.toNat).toNat)) := by
  have v := f.lat
  have r1 := v.imply_rng (t := t) (x := x.toNat) (y := y.toNat)
  have r2 := v.imply_rng (t := t) (x := y.toNat) (y := x.toNat)
  refine pcT [fm_implyS] fok_176 ?_
  simp [fa_176, f, hx0, hx, hy0, hy, r1, r2, f.len, f.rows, show (implyM u t x.toNat y.toNat).toNat < u.length by omega]
noncomputable def fm_nearS : Fam Try.prog := mkFam (X := List Int × List (List Int) × Int × Int) 176 true (fun (u, t, x, y) => [AL u t, I64 x, I64 y]) (fun (u, t, x, y) => (TF u t) ∧ (0 ≤ x) ∧ (x.toNat < u.length) ∧ (0 ≤ y) ∧ (y.toNat < u.length)) (fun (u, t, x, y) => I64 (tm t (implyM u t x.toNat y.toNat).toNat (implyM u t y.toNat x.toNat).toNat)) (by
  rintro ⟨u, t, x, y⟩ ⟨f, hx0, hx, hy0, hy⟩
  exact nearS_pc u t x y f hx0 hx hy0 hy)
@[simp] theorem fm_nearS_id : fm_nearS.id = 176 := rfl
@[simp] theorem fm_nearS_fresh : fm_nearS.fresh = true := rfl
@[simp] theorem fm_nearS_look (u : List Int) (t : List (List Int)) (x y : Int) (f : TF u t) (hx0 : 0 ≤ x) (hx : x.toNat < u.length) (hy0 : 0 ≤ y) (hy : y.toNat < u.length) : fm_nearS.look [AL u t, I64 x, I64 y] = some (I64 (tm t (implyM u t x.toNat y.toNat).toNat (implyM u t y.toNat x.toNat).toNat)) :=
  lookF_of (X := List Int × List (List Int) × Int × Int) (args := fun (u, t, x, y) => [AL u t, I64 x, I64 y]) (pre := fun (u, t, x, y) => (TF u t) ∧ (0 ≤ x) ∧ (x.toNat < u.length) ∧ (0 ≤ y) ∧ (y.toNat < u.length)) (val := fun (u, t, x, y) => I64 (tm t (implyM u t x.toNat y.toNat).toNat (implyM u t y.toNat x.toNat).toNat)) (by
  rintro ⟨u, t, x, y⟩ ⟨u', t', x', y'⟩ h
  simp at h
  try simp only [and_assoc] at h
  obtain ⟨rfl, rfl, rfl, rfl⟩ := h
  rfl) (u, t, x, y) ⟨f, hx0, hx, hy0, hy⟩
attribute [irreducible] fm_nearS
theorem nearI_pc (u : List Int) (t : List (List Int)) (x y : Int) (f : TF u t) (hx0 : 0 ≤ x) (hx : x.toNat < u.length) (hy0 : 0 ≤ y) (hy : y.toNat < u.length) : PC Try.prog 134 [AL u t, I64 x, I64 y] none true (fun r _ => r = I64 (tm t (implyM u t x.toNat y.toNat).toNat (implyM u t y.toNat x.toNat).toNat)) := by
  have v := f.lat
  have r1 := v.imply_rng (t := t) (x := x.toNat) (y := y.toNat)
  have r2 := v.imply_rng (t := t) (x := y.toNat) (y := x.toNat)
  refine pcT [fm_implyI] fok_134 ?_
  simp [fa_134, f, hx0, hx, hy0, hy, r1, r2, f.len, f.rows, show (implyM u t x.toNat y.toNat).toNat < u.length by omega]
noncomputable def fm_nearI : Fam Try.prog := mkFam (X := List Int × List (List Int) × Int × Int) 134 true (fun (u, t, x, y) => [AL u t, I64 x, I64 y]) (fun (u, t, x, y) => (TF u t) ∧ (0 ≤ x) ∧ (x.toNat < u.length) ∧ (0 ≤ y) ∧ (y.toNat < u.length)) (fun (u, t, x, y) => I64 (tm t (implyM u t x.toNat y.toNat).toNat (implyM u t y.toNat x.toNat).toNat)) (by
  rintro ⟨u, t, x, y⟩ ⟨f, hx0, hx, hy0, hy⟩
  exact nearI_pc u t x y f hx0 hx hy0 hy)
@[simp] theorem fm_nearI_id : fm_nearI.id = 134 := rfl
@[simp] theorem fm_nearI_fresh : fm_nearI.fresh = true := rfl
@[simp] theorem fm_nearI_look (u : List Int) (t : List (List Int)) (x y : Int) (f : TF u t) (hx0 : 0 ≤ x) (hx : x.toNat < u.length) (hy0 : 0 ≤ y) (hy : y.toNat < u.length) : fm_nearI.look [AL u t, I64 x, I64 y] = some (I64 (tm t (implyM u t x.toNat y.toNat).toNat (implyM u t y.toNat x.toNat).toNat)) :=
  lookF_of (X := List Int × List (List Int) × Int × Int) (args := fun (u, t, x, y) => [AL u t, I64 x, I64 y]) (pre := fun (u, t, x, y) => (TF u t) ∧ (0 ≤ x) ∧ (x.toNat < u.length) ∧ (0 ≤ y) ∧ (y.toNat < u.length)) (val := fun (u, t, x, y) => I64 (tm t (implyM u t x.toNat y.toNat).toNat (implyM u t y.toNat x.toNat).toNat)) (by
  rintro ⟨u, t, x, y⟩ ⟨u', t', x', y'⟩ h
  simp at h
  try simp only [and_assoc] at h
  obtain ⟨rfl, rfl, rfl, rfl⟩ := h
  rfl) (u, t, x, y) ⟨f, hx0, hx, hy0, hy⟩
attribute [irreducible] fm_nearI

noncomputable def ImM (u : List Int) (t : List (List Int)) (x y : Int) : Int := if decide (VA u t) && (inE u.length x && inE u.length y) then implyM u t x.toNat y.toNat else -1
noncomputable def NoM (u : List Int) (t : List (List Int)) (x : Int) : Int := if decide (VA u t) && inE u.length x then implyM u t x.toNat 0 else -1
noncomputable def NeM (u : List Int) (t : List (List Int)) (x y : Int) : Int := if decide (VA u t) && (inE u.length x && inE u.length y) then tm t (implyM u t x.toNat y.toNat).toNat (implyM u t y.toNat x.toNat).toNat else -1
noncomputable def PoM (u : List Int) (t : List (List Int)) (x k : Int) : Int := if decide (VA u t) && inE u.length x && (decide (0 ≤ k) && decide (k ≤ 20)) then powM u t x.toNat k.toNat else -1

theorem ImplyI_pc (u : List Int) (t : List (List Int)) (x y : Int) (hu : Big u.length) (ht : BigR t) : PC Try.prog 33 [AL u t, I64 x, I64 y] none true (fun r _ => r = I64 (ImM u t x y)) := by
  have l1 : fm_atI.look [AL u t, .list 1 [.int .i64 x, .int .i64 y]] = some (.bool (decide (VA u t) && decide (allE [x, y] u.length))) := fm_atI_look u t [x, y] hu ht (by unfold Big; simp)
  rw [allE_two] at l1
  refine pcT [fm_atI, fm_implyI] fok_33 ?_
  unfold ImM
  cases hb : (decide (VA u t) && (inE u.length x && inE u.length y))
  · rw [hb] at l1
    simp [fa_33, l1, show List.range 2 = [0, 1] from rfl]
  · have h := hb
    rw [hb] at l1
    simp only [Bool.and_eq_true, decide_eq_true_eq, inE_iff] at h
    simp [fa_33, l1, h.1.tf, h.2, show List.range 2 = [0, 1] from rfl]
noncomputable def fm_ImplyI : Fam Try.prog := mkFam (X := List Int × List (List Int) × Int × Int) 33 true (fun (u, t, x, y) => [AL u t, I64 x, I64 y]) (fun (u, t, x, y) => (Big u.length) ∧ (BigR t)) (fun (u, t, x, y) => I64 (ImM u t x y)) (by
  rintro ⟨u, t, x, y⟩ ⟨hu, ht⟩
  exact ImplyI_pc u t x y hu ht)
@[simp] theorem fm_ImplyI_id : fm_ImplyI.id = 33 := rfl
@[simp] theorem fm_ImplyI_fresh : fm_ImplyI.fresh = true := rfl
@[simp] theorem fm_ImplyI_look (u : List Int) (t : List (List Int)) (x y : Int) (hu : Big u.length) (ht : BigR t) : fm_ImplyI.look [AL u t, I64 x, I64 y] = some (I64 (ImM u t x y)) :=
  lookF_of (X := List Int × List (List Int) × Int × Int) (args := fun (u, t, x, y) => [AL u t, I64 x, I64 y]) (pre := fun (u, t, x, y) => (Big u.length) ∧ (BigR t)) (val := fun (u, t, x, y) => I64 (ImM u t x y)) (by
  rintro ⟨u, t, x, y⟩ ⟨u', t', x', y'⟩ h
  simp at h
  try simp only [and_assoc] at h
  obtain ⟨rfl, rfl, rfl, rfl⟩ := h
  rfl) (u, t, x, y) ⟨hu, ht⟩
attribute [irreducible] fm_ImplyI
theorem NotI_pc (u : List Int) (t : List (List Int)) (x : Int) (hu : Big u.length) (ht : BigR t) : PC Try.prog 46 [AL u t, I64 x] none true (fun r _ => r = I64 (NoM u t x)) := by
  have l1 : fm_atI.look [AL u t, .list 1 [.int .i64 x]] = some (.bool (decide (VA u t) && decide (allE [x] u.length))) := fm_atI_look u t [x] hu ht (by unfold Big; simp)
  rw [allE_one] at l1
  refine pcT [fm_atI, fm_notI] fok_46 ?_
  unfold NoM
  cases hb : (decide (VA u t) && inE u.length x)
  · rw [hb] at l1
    simp [fa_46, l1, show List.range 1 = [0] from rfl]
  · have h := hb
    rw [hb] at l1
    simp only [Bool.and_eq_true, decide_eq_true_eq, inE_iff] at h
    simp [fa_46, l1, h.1.tf, h.2, show List.range 1 = [0] from rfl]
noncomputable def fm_NotI : Fam Try.prog := mkFam (X := List Int × List (List Int) × Int) 46 true (fun (u, t, x) => [AL u t, I64 x]) (fun (u, t, x) => (Big u.length) ∧ (BigR t)) (fun (u, t, x) => I64 (NoM u t x)) (by
  rintro ⟨u, t, x⟩ ⟨hu, ht⟩
  exact NotI_pc u t x hu ht)
@[simp] theorem fm_NotI_id : fm_NotI.id = 46 := rfl
@[simp] theorem fm_NotI_fresh : fm_NotI.fresh = true := rfl
@[simp] theorem fm_NotI_look (u : List Int) (t : List (List Int)) (x : Int) (hu : Big u.length) (ht : BigR t) : fm_NotI.look [AL u t, I64 x] = some (I64 (NoM u t x)) :=
  lookF_of (X := List Int × List (List Int) × Int) (args := fun (u, t, x) => [AL u t, I64 x]) (pre := fun (u, t, x) => (Big u.length) ∧ (BigR t)) (val := fun (u, t, x) => I64 (NoM u t x)) (by
  rintro ⟨u, t, x⟩ ⟨u', t', x'⟩ h
  simp at h
  try simp only [and_assoc] at h
  obtain ⟨rfl, rfl, rfl⟩ := h
  rfl) (u, t, x) ⟨hu, ht⟩
attribute [irreducible] fm_NotI
theorem NearI_pc (u : List Int) (t : List (List Int)) (x y : Int) (hu : Big u.length) (ht : BigR t) : PC Try.prog 56 [AL u t, I64 x, I64 y] none true (fun r _ => r = I64 (NeM u t x y)) := by
  have l1 : fm_atI.look [AL u t, .list 1 [.int .i64 x, .int .i64 y]] = some (.bool (decide (VA u t) && decide (allE [x, y] u.length))) := fm_atI_look u t [x, y] hu ht (by unfold Big; simp)
  rw [allE_two] at l1
  refine pcT [fm_atI, fm_nearI] fok_56 ?_
  unfold NeM
  cases hb : (decide (VA u t) && (inE u.length x && inE u.length y))
  · rw [hb] at l1
    simp [fa_56, l1, show List.range 2 = [0, 1] from rfl]
  · have h := hb
    rw [hb] at l1
    simp only [Bool.and_eq_true, decide_eq_true_eq, inE_iff] at h
    simp [fa_56, l1, h.1.tf, h.2, show List.range 2 = [0, 1] from rfl]
noncomputable def fm_NearI : Fam Try.prog := mkFam (X := List Int × List (List Int) × Int × Int) 56 true (fun (u, t, x, y) => [AL u t, I64 x, I64 y]) (fun (u, t, x, y) => (Big u.length) ∧ (BigR t)) (fun (u, t, x, y) => I64 (NeM u t x y)) (by
  rintro ⟨u, t, x, y⟩ ⟨hu, ht⟩
  exact NearI_pc u t x y hu ht)
@[simp] theorem fm_NearI_id : fm_NearI.id = 56 := rfl
@[simp] theorem fm_NearI_fresh : fm_NearI.fresh = true := rfl
@[simp] theorem fm_NearI_look (u : List Int) (t : List (List Int)) (x y : Int) (hu : Big u.length) (ht : BigR t) : fm_NearI.look [AL u t, I64 x, I64 y] = some (I64 (NeM u t x y)) :=
  lookF_of (X := List Int × List (List Int) × Int × Int) (args := fun (u, t, x, y) => [AL u t, I64 x, I64 y]) (pre := fun (u, t, x, y) => (Big u.length) ∧ (BigR t)) (val := fun (u, t, x, y) => I64 (NeM u t x y)) (by
  rintro ⟨u, t, x, y⟩ ⟨u', t', x', y'⟩ h
  simp at h
  try simp only [and_assoc] at h
  obtain ⟨rfl, rfl, rfl, rfl⟩ := h
  rfl) (u, t, x, y) ⟨hu, ht⟩
attribute [irreducible] fm_NearI
theorem PowerI_pc (u : List Int) (t : List (List Int)) (x k : Int) (hu : Big u.length) (ht : BigR t) : PC Try.prog 48 [AL u t, I64 x, I64 k] none true (fun r _ => r = I64 (PoM u t x k)) := by
  have l1 : fm_atI.look [AL u t, .list 1 [.int .i64 x]] = some (.bool (decide (VA u t) && decide (allE [x] u.length))) := fm_atI_look u t [x] hu ht (by unfold Big; simp)
  rw [allE_one] at l1
  refine pcT [fm_atI, fm_powI, fm_within] fok_48 ?_
  simp [fa_48]
  refine cutW (tabK_mono _) [(16, .bool (!(decide (VA u t) && inE u.length x && (decide (0 ≤ k) && decide (k ≤ 20)))))] (by
    cases hb : (decide (VA u t) && inE u.length x)
    · rw [hb] at l1
      simp [l1, show List.range 1 = [0] from rfl]
    · rw [hb] at l1
      simp [l1, show List.range 1 = [0] from rfl]) ?_
  unfold PoM
  cases hb : (decide (VA u t) && inE u.length x && (decide (0 ≤ k) && decide (k ≤ 20)))
  · simp
  · have h := hb
    simp only [Bool.and_eq_true, decide_eq_true_eq, inE_iff] at h
    simp [h.1.1.tf, h.1.2, h.2, show k ≤ 1000000 by omega]
noncomputable def fm_PowerI : Fam Try.prog := mkFam (X := List Int × List (List Int) × Int × Int) 48 true (fun (u, t, x, k) => [AL u t, I64 x, I64 k]) (fun (u, t, x, k) => (Big u.length) ∧ (BigR t)) (fun (u, t, x, k) => I64 (PoM u t x k)) (by
  rintro ⟨u, t, x, k⟩ ⟨hu, ht⟩
  exact PowerI_pc u t x k hu ht)
@[simp] theorem fm_PowerI_id : fm_PowerI.id = 48 := rfl
@[simp] theorem fm_PowerI_fresh : fm_PowerI.fresh = true := rfl
@[simp] theorem fm_PowerI_look (u : List Int) (t : List (List Int)) (x k : Int) (hu : Big u.length) (ht : BigR t) : fm_PowerI.look [AL u t, I64 x, I64 k] = some (I64 (PoM u t x k)) :=
  lookF_of (X := List Int × List (List Int) × Int × Int) (args := fun (u, t, x, k) => [AL u t, I64 x, I64 k]) (pre := fun (u, t, x, k) => (Big u.length) ∧ (BigR t)) (val := fun (u, t, x, k) => I64 (PoM u t x k)) (by
  rintro ⟨u, t, x, k⟩ ⟨u', t', x', k'⟩ h
  simp at h
  try simp only [and_assoc] at h
  obtain ⟨rfl, rfl, rfl, rfl⟩ := h
  rfl) (u, t, x, k) ⟨hu, ht⟩
attribute [irreducible] fm_PowerI

theorem latC_pc (x : Int) (u : List Int) (h2 : Big u.length) : PC Try.prog 175 [I64 x, .iptr (IL u)] none true (fun r _ => r = .bool (outR u.length x)) := by
  have h2 := h2.le
  refine pcT [fm_within] fok_175 ?_
  simp [fa_175, outR, wrap64 (n := (u.length : Int) - 1) (by omega) (by omega)]
noncomputable def fm_latC : Fam Try.prog := mkFam (X := Int × List Int) 175 true (fun (x, u) => [I64 x, .iptr (IL u)]) (fun (x, u) => (Big u.length)) (fun (x, u) => .bool (outR u.length x)) (by
  rintro ⟨x, u⟩ h2
  exact latC_pc x u h2)
@[simp] theorem fm_latC_id : fm_latC.id = 175 := rfl
@[simp] theorem fm_latC_fresh : fm_latC.fresh = true := rfl
@[simp] theorem fm_latC_look (x : Int) (u : List Int) (h2 : Big u.length) : fm_latC.look [I64 x, .iptr (IL u)] = some (.bool (outR u.length x)) :=
  lookF_of (X := Int × List Int) (args := fun (x, u) => [I64 x, .iptr (IL u)]) (pre := fun (x, u) => (Big u.length)) (val := fun (x, u) => .bool (outR u.length x)) (by
  rintro ⟨x, u⟩ ⟨x', u'⟩ h
  simp at h
  try simp only [and_assoc] at h
  obtain ⟨rfl, rfl⟩ := h
  rfl) (x, u) h2
attribute [irreducible] fm_latC
theorem contLat_pc (xs : List Int) (u : List Int) (hl : Big xs.length) (h2 : Big u.length) : PC Try.prog 99 [IL xs, .fn 175 [.iptr (IL u)]] none true (fun r _ => r = .bool (xs.any (outR u.length))) := by
  exact containsFunc_pc hl (by simp) (by simp) (outR u.length) (fun x hx => latC_pc x u h2)
noncomputable def fm_contLat : Fam Try.prog := mkFam (X := List Int × List Int) 99 true (fun (xs, u) => [IL xs, .fn 175 [.iptr (IL u)]]) (fun (xs, u) => (Big xs.length) ∧ (Big u.length)) (fun (xs, u) => .bool (xs.any (outR u.length))) (by
  rintro ⟨xs, u⟩ ⟨hl, h2⟩
  exact contLat_pc xs u hl h2)
@[simp] theorem fm_contLat_id : fm_contLat.id = 99 := rfl
@[simp] theorem fm_contLat_fresh : fm_contLat.fresh = true := rfl
@[simp] theorem fm_contLat_look (xs : List Int) (u : List Int) (hl : Big xs.length) (h2 : Big u.length) : fm_contLat.look [IL xs, .fn 175 [.iptr (IL u)]] = some (.bool (xs.any (outR u.length))) :=
  lookF_of (X := List Int × List Int) (args := fun (xs, u) => [IL xs, .fn 175 [.iptr (IL u)]]) (pre := fun (xs, u) => (Big xs.length) ∧ (Big u.length)) (val := fun (xs, u) => .bool (xs.any (outR u.length))) (by
  rintro ⟨xs, u⟩ ⟨xs', u'⟩ h
  simp at h
  try simp only [and_assoc] at h
  obtain ⟨rfl, rfl⟩ := h
  rfl) (xs, u) ⟨hl, h2⟩
attribute [irreducible] fm_contLat
theorem latAt_pc (u : List Int) (xs : List Int) (hu : Big u.length) (hx : Big xs.length) : PC Try.prog 130 [IL u, IL xs] none true (fun r _ => r = .bool (decide (VL u) && decide (allE xs u.length))) := by
  refine pcT [fm_validLatticeI, fm_contLat] fok_130 ?_
  simp [fa_130]
  refine cutW (tabK_mono _) [(4, .bool (decide (VL u) && decide (allE xs u.length)))] (by rw [← allE_any]; simp [hu, hx]; grind) ?_
  simp
noncomputable def fm_latAt : Fam Try.prog := mkFam (X := List Int × List Int) 130 true (fun (u, xs) => [IL u, IL xs]) (fun (u, xs) => (Big u.length) ∧ (Big xs.length)) (fun (u, xs) => .bool (decide (VL u) && decide (allE xs u.length))) (by
  rintro ⟨u, xs⟩ ⟨hu, hx⟩
  exact latAt_pc u xs hu hx)
@[simp] theorem fm_latAt_id : fm_latAt.id = 130 := rfl
@[simp] theorem fm_latAt_fresh : fm_latAt.fresh = true := rfl
@[simp] theorem fm_latAt_look (u : List Int) (xs : List Int) (hu : Big u.length) (hx : Big xs.length) : fm_latAt.look [IL u, IL xs] = some (.bool (decide (VL u) && decide (allE xs u.length))) :=
  lookF_of (X := List Int × List Int) (args := fun (u, xs) => [IL u, IL xs]) (pre := fun (u, xs) => (Big u.length) ∧ (Big xs.length)) (val := fun (u, xs) => .bool (decide (VL u) && decide (allE xs u.length))) (by
  rintro ⟨u, xs⟩ ⟨u', xs'⟩ h
  simp at h
  try simp only [and_assoc] at h
  obtain ⟨rfl, rfl⟩ := h
  rfl) (u, xs) ⟨hu, hx⟩
attribute [irreducible] fm_latAt
noncomputable def BeM (u : List Int) (x y : Int) : Bool := decide (VL u) && (inE u.length x && inE u.length y) && tb u x.toNat y.toNat
noncomputable def MeM (u : List Int) (x y : Int) : Int := if decide (VL u) && (inE u.length x && inE u.length y) then meetM u x.toNat y.toNat else -1
noncomputable def JoM (u : List Int) (x y : Int) : Int := if decide (VL u) && (inE u.length x && inE u.length y) then joinM u x.toNat y.toNat else -1
theorem BelowI_pc (u : List Int) (x y : Int) (hu : Big u.length) : PC Try.prog 52 [IL u, I64 x, I64 y] none true (fun r _ => r = .bool (BeM u x y)) := by
  have l1 : fm_latAt.look [IL u, .list 1 [.int .i64 x, .int .i64 y]] = some (.bool (decide (VL u) && decide (allE [x, y] u.length))) := fm_latAt_look u [x, y] hu (by unfold Big; simp)
  rw [allE_two] at l1
  refine pcT [fm_latAt, fm_belowI] fok_52 ?_
  simp [fa_52]
  unfold BeM
  refine cutW (tabK_mono _) [(6, .bool (decide (VL u) && (inE u.length x && inE u.length y) && tb u x.toNat y.toNat))] (by
    cases hb : (decide (VL u) && (inE u.length x && inE u.length y))
    · rw [hb] at l1
      simp [l1, show List.range 2 = [0, 1] from rfl]
    · have h := hb
      rw [hb] at l1
      simp only [Bool.and_eq_true, decide_eq_true_eq, inE_iff] at h
      simp [l1, h.1.six, h.2, show List.range 2 = [0, 1] from rfl]) ?_
  simp
noncomputable def fm_BelowI : Fam Try.prog := mkFam (X := List Int × Int × Int) 52 true (fun (u, x, y) => [IL u, I64 x, I64 y]) (fun (u, x, y) => (Big u.length)) (fun (u, x, y) => .bool (BeM u x y)) (by
  rintro ⟨u, x, y⟩ hu
  exact BelowI_pc u x y hu)
@[simp] theorem fm_BelowI_id : fm_BelowI.id = 52 := rfl
@[simp] theorem fm_BelowI_fresh : fm_BelowI.fresh = true := rfl
@[simp] theorem fm_BelowI_look (u : List Int) (x y : Int) (hu : Big u.length) : fm_BelowI.look [IL u, I64 x, I64 y] = some (.bool (BeM u x y)) :=
  lookF_of (X := List Int × Int × Int) (args := fun (u, x, y) => [IL u, I64 x, I64 y]) (pre := fun (u, x, y) => (Big u.length)) (val := fun (u, x, y) => .bool (BeM u x y)) (by
  rintro ⟨u, x, y⟩ ⟨u', x', y'⟩ h
  simp at h
  try simp only [and_assoc] at h
  obtain ⟨rfl, rfl, rfl⟩ := h
  rfl) (u, x, y) hu
attribute [irreducible] fm_BelowI
end Go.PS
end

section
-- Draws of one algebra.
set_option maxRecDepth 100000
set_option linter.unusedVariables false
set_option linter.unusedSimpArgs false
namespace Go.PS
open Go.Proofs


end Go.PS
end

section
-- What the laws of elements have in common; the law of products.
set_option maxRecDepth 100000
set_option linter.unusedVariables false
set_option linter.unusedSimpArgs false
namespace Go.PS
open Go.Proofs

section
variable {u : List Int} {t : List (List Int)} {x y z : Nat}
theorem inE_nat (h : x < u.length) : inE u.length (x : Int) = true := by simp [inE, h]
theorem BeM_nat (v : VL u) (hx : x < u.length) (hy : y < u.length) : BeM u x y = tb u x y := by simp [BeM, v, inE_nat hx, inE_nat hy]
theorem MeM_nat (v : VL u) (hx : x < u.length) (hy : y < u.length) : MeM u x y = (mt u x y : Nat) := by simp [MeM, v, inE_nat hx, inE_nat hy, ← v.mt_int hx hy]
theorem ImM_nat (a : VA u t) (hx : x < u.length) (hy : y < u.length) : ImM u t x y = (im u t x y : Nat) := by simp [ImM, a, inE_nat hx, inE_nat hy, ← a.im_int]
theorem NoM_nat (a : VA u t) (hx : x < u.length) : NoM u t x = (im u t x 0 : Nat) := by simp [NoM, a, inE_nat hx, ← a.im_int]
theorem NeM_nat (a : VA u t) (hx : x < u.length) (hy : y < u.length) : NeM u t x y = (nr u t x y : Nat) := by
  have h1 : (nr u t x y : Int) = tm t (im u t x y) (im u t y x) := (a.tn_int a.im_lt a.im_lt).symm
  simp only [NeM, a, inE_nat hx, inE_nat hy, decide_true, Bool.and_self, if_true, Int.toNat_natCast, h1]
theorem elems (h : (inE u.length x = true)) : True := trivial
end
theorem inE_ex {n : Nat} {x : Int} (h : inE n x = true) : ∃ k : Nat, x = k ∧ k < n := by
  rw [inE_iff] at h
  exact ⟨x.toNat, by omega, h.2⟩
theorem ImM_ex {u : List Int} {t : List (List Int)} {x y : Int} (h : ¬ ImM u t x y < 0) : ∃ (i j : Nat), x = i ∧ y = j ∧ i < u.length ∧ j < u.length ∧ VA u t := by
  unfold ImM at h
  split at h
  · rename_i hb
    simp only [Bool.and_eq_true, decide_eq_true_eq] at hb
    obtain ⟨i, rfl, hi⟩ := inE_ex hb.2.1
    obtain ⟨j, rfl, hj⟩ := inE_ex hb.2.2
    exact ⟨i, j, rfl, rfl, hi, hj, hb.1⟩
  · exact absurd (by decide) h

theorem NoM_ex {u : List Int} {t : List (List Int)} {x : Int} (h : ¬ NoM u t x < 0) : ∃ (i : Nat), x = i ∧ i < u.length ∧ VA u t := by
  unfold NoM at h
  split at h
  · rename_i hb
    simp only [Bool.and_eq_true, decide_eq_true_eq] at hb
    obtain ⟨i, rfl, hi⟩ := inE_ex hb.2
    exact ⟨i, rfl, hi, hb.1⟩
  · exact absurd (by decide) h
theorem NeM_ex {u : List Int} {t : List (List Int)} {x y : Int} (h : ¬ NeM u t x y < 0) : ∃ (i j : Nat), x = i ∧ y = j ∧ i < u.length ∧ j < u.length ∧ VA u t := by
  unfold NeM at h
  split at h
  · rename_i hb
    simp only [Bool.and_eq_true, decide_eq_true_eq] at hb
    obtain ⟨i, rfl, hi⟩ := inE_ex hb.2.1
    obtain ⟨j, rfl, hj⟩ := inE_ex hb.2.2
    exact ⟨i, j, rfl, rfl, hi, hj, hb.1⟩
  · exact absurd (by decide) h
theorem PoM_ex {u : List Int} {t : List (List Int)} {x k : Int} (h : ¬ PoM u t x k < 0) : ∃ (i e : Nat), x = i ∧ k = e ∧ i < u.length ∧ e ≤ 20 ∧ VA u t := by
  unfold PoM at h
  split at h
  · rename_i hb
    simp only [Bool.and_eq_true, decide_eq_true_eq] at hb
    obtain ⟨i, rfl, hi⟩ := inE_ex hb.1.2
    exact ⟨i, k.toNat, rfl, by omega, hi, by omega, hb.1.1⟩
  · exact absurd (by decide) h
theorem PoM_nat {u : List Int} {t : List (List Int)} {x e : Nat} (a : VA u t) (hx : x < u.length) (he : e ≤ 20) : PoM u t x e = powM u t x e := by
  simp [PoM, a, inE_nat hx]; omega


end Go.PS
end

section
-- The law of filters of one element.
set_option maxRecDepth 100000
set_option linter.unusedVariables false
set_option linter.unusedSimpArgs false
namespace Go.PS
open Go.Proofs

theorem wt_one : ∀ s, s < 64 → ∀ x, x < 6 → s.testBit x = true → wtN 6 s = 1 → s = 2 ^ x := by decide +kernel
theorem fbM_ex {u : List Int} {t : List (List Int)} {f : Int} (h : ¬ fbM u t f < 0) : ∃ s : Nat, f = s ∧ s < 2 ^ u.length ∧ VA u t ∧ fbM u t f = (genN u t s : Nat) := by
  unfold fbM at *
  split at h
  · rename_i hb
    have hb2 := hb
    simp only [Bool.and_eq_true, decide_eq_true_eq] at hb2
    obtain ⟨f, rfl, hf⟩ := inS_ex hb2.2
    rw [if_pos hb]
    exact ⟨f, rfl, hf, hb2.1, rfl⟩
  · exact absurd (by decide) h
theorem fbM_lt {u : List Int} {t : List (List Int)} {s : Nat} (h : s < 2 ^ u.length) (a : VA u t) : fbM u t s = (genN u t s : Nat) := by
  unfold fbM
  rw [if_pos (by simp [a, inS_nat h])]
  simp
theorem ifM_fi {u : List Int} {t : List (List Int)} {f : Nat} (a : VA u t) (h : FI u t f) : ifM u t f = true := by
  unfold ifM; simp [a, inS_nat h.lt, h]
set_option maxHeartbeats 2000000 in
theorem FnFilterBy_pc (c : List Int) (hl : Hu c.length) (hc : Byt c) : PC Try.prog 9 [BL c] none true (fun r _ => r = .bool true) := by
  have hl' := hl.le
  refine pcT [fm_drFiB, fm_FiByI, fm_FiByS, fm_IsFilI, fm_PowerI, fm_BelowI, fm_bitL, fm_wtL] fok_9 ?_
  rcases Nat.lt_or_ge 1048576 c.length with q | q
  · simp [fa_9, show ((1048576 : Int) < c.length) by omega]
  · have hbig : Big c.length := by unfold Big; omega
    have l1 := fm_drFiB_look c hc hbig
    obtain ⟨g, _⟩ := saM_few (rdB_ok hc) (p := 0) (by omega)
    have hu := g.big
    have ht := g.bigR
    generalize saM (rdB c) 0 = A at *
    obtain ⟨⟨u, t⟩, p1⟩ := A
    dsimp only at *
    generalize dFB (rdB c) p1 u = f at *
    have hul := hu.le
    simp [fa_9, show ¬ ((1048576 : Int) < c.length) by omega, show ((c.length : Int) ≤ 1048576) by omega, l1, hu, ht]
    refine cutW (tabK_mono _) [(27, .bool (decide (fbM u t f < 0)))] (by simp [hu, ht]) ?_
    simp [hu, ht]
    intro h
    obtain ⟨s, rfl, hs, a, e⟩ := fbM_ex (u := u) (t := t) (f := f) (by omega)
    have v := a.lat
    have h6 := v.six
    have h64 := p2le h6
    have F := gen_fi a (s := s)
    have hsup := gen_sup (t := t) hs
    have hone := fun x (hx : x < u.length) (h1 : s.testBit x = true) (hw : wtN 6 s = 1) y (hy : y < u.length) => (by
      have e := wt_one s (by omega) x (by omega) h1 hw
      have := gen_one a hx hy
      rw [← e] at this
      exact this : (genN u t s).testBit y = tb u (pw u t x u.length) y)
    have l2 := fm_IsFilI_look u t (genN u t s : Nat) hu ht
    rw [ifM_fi a F] at l2
    have hlt := F.lt
    rw [e]
    generalize genN u t s = o at *
    have hand : bAnd .i64 (o : Int) (s : Int) = (s : Int) := by
      rw [and_nat (by omega) (by omega), Nat.and_comm, hsup]
    refine cutW (tabK_mono _) [(43, .bool false)] (by simp [l2, hand]) ?_
    simp
    refine loopA (tabK_mono _) u.length (fun i => [(6, I64 i)]) (fun _ => [⟨24, 1, .cells [IL u, RL t]⟩]) (fun _ => True) (by simp) (by simp) (fun x g hx _ => ?_)
    simp [lb_9_10, wrap_succ hx hul]
    refine cutW (tabK_mono _) [(53, .bool (decide (x < u.length) && decide (wtN 6 s = 1)))] (by
      have : (s : Int) < 64 := by omega
      rcases Nat.lt_or_ge x u.length with h2 | h2
      · simp [h2, this]
        omega
      · simp [show ¬ x < u.length by omega]) ?_
    simp
    intro h2 hw1
    refine loopA (tabK_mono _) u.length (fun i => [(7, I64 i)]) (fun _ => [⟨24, 1, .cells [IL u, RL t]⟩]) (fun _ => True) (by simp) (by simp) (fun y g2 hy _ => ?_)
    simp [lb_9_13, wrap_succ hy hul]
    refine cutW (tabK_mono _) [(66, .bool (decide (y < u.length) && s.testBit x))] (by
      have : (s : Int) < 64 := by omega
      rcases Nat.lt_or_ge y u.length with h3 | h3
      · simp [h3, this, show (x : Int) ≤ 61 by omega]
      · simp [show ¬ y < u.length by omega]) ?_
    simp
    refine ⟨fun h3 h4 => ?_, fun h3 => ?_⟩
    · have k := hone x h2 h4 hw1 y h3
      have hpl := a.pw_lt h2 (k := u.length)
      have m1 := fm_PowerI_look u t x u.length hu ht
      have m2 := fm_BelowI_look u (pw u t x u.length : Nat) y hu
      rw [PoM_nat a h2 (by omega), a.pw_int h2] at m1
      rw [BeM_nat v hpl h3, ← k] at m2
      generalize pw u t x u.length = w at *
      simp [m1, m2, show (o : Int) < 64 by omega, show (y : Int) ≤ 61 by omega, h3, wrap_succ hy hul]
    · simp [h2, wrap_succ hx hul]
end Go.PS
end
