/- Part 8 of what the last text proves: The filters told by IsFilter are filters: the law holds at every input. -/
import Derived.Test.YthbdihoacfhflaaQo7
section
-- PRINTED by gen.py: clean texts of functions, and their tie to the program.
set_option maxRecDepth 100000
namespace Go.PS
open Go.Proofs
/-- spec.setOf -/
def an_107 : Ann := ⟨[(1, 1, 16), (2, 2, 3), (2, 4, 16), (3, 2, 3), (3, 3, 16)], [(0, [0, 1]), (1, [0, 1, 7]), (2, [4]), (3, [4])], [], []⟩
def fa_107 : FnA := ⟨17, [.t 4],
  (.seq
    (.region false [⟨some 4, (.mv (.c (.int .i64 0))), 3, none, 0⟩] (some [0, 1]))
    (.seq
      (.seq
        (.region false [⟨some 5, (.mv (.t 0)), 72, none, 0⟩, ⟨some 6, (.call (.f 106) [(.t 5), (.c (.int .i64 24))]), 3, none, 16⟩, ⟨some 7, (.bin .eql 3 (.t 6) (.c (.int .i64 0))), 4, none, 0⟩] (some [0, 1, 7]))
        (.cond (.t 7)
          (.seq
            (.region false [⟨some 8, (.mv (.t 0)), 72, none, 0⟩, ⟨some 9, (.mv (.t 1)), 3, none, 0⟩, ⟨some 10, (.call (.f 121) [(.t 9)]), 3, none, 3⟩, ⟨some 11, (.bslice 23 3 [(0, (.c (.int .i64 (-1)))), (1, (.t 10)), (2, (.c (.int .i64 0)))]), 23, none, 0⟩, ⟨some 12, (.call (.f 161) [(.t 8), (.t 11)]), 3, none, 16⟩, ⟨some 4, (.mv (.t 12)), 3, none, 0⟩] (some [4]))
            .ret)
          .skip))
      (.seq
        (.region false [⟨some 13, (.mv (.t 0)), 72, none, 0⟩, ⟨some 14, (.mv (.t 1)), 3, none, 0⟩, ⟨some 15, (.call (.f 121) [(.t 14)]), 3, none, 3⟩, ⟨some 16, (.call (.f 106) [(.t 13), (.t 15)]), 3, none, 16⟩, ⟨some 4, (.mv (.t 16)), 3, none, 0⟩] (some [4]))
        .ret)))⟩
theorem fok_107 : FnOk Try.prog 107 fa_107 an_107 := ⟨Try.f107, _, Try.func107, rfl, by kernel_rfl, rfl, rfl, by decide, by kernel_rfl⟩
/-- spec.filterOf -/
def an_108 : Ann := ⟨[(1, 1, 3), (1, 5, 16), (2, 5, 16), (3, 1, 3), (4, 4, 16)], [(0, [0, 3]), (1, [0, 3, 13]), (2, [4]), (3, [0, 5]), (4, [4])], [], []⟩
def fa_108 : FnA := ⟨29, [.t 4],
  (.seq
    (.region false [⟨some 3, (.box 27 (.t 1)), 0, none, 0⟩, ⟨some 4, (.mv (.c (.int .i64 0))), 3, none, 0⟩] (some [0, 3]))
    (.seq
      (.seq
        (.region false (gops [⟨some 6, (.load 27 (.t 3)), 27, none, 0⟩, ⟨some 7, (.call (.f 111) [(.t 6)]), 4, none, 3⟩, ⟨some 8, (.un .not (.t 7)), 4, none, 0⟩, ⟨some 9, (.mv (.t 8)), 4, none, 0⟩, ⟨some 10, (.mv (.t 0)), 72, some (9, false), 0⟩, ⟨some 11, (.call (.f 106) [(.t 10), (.c (.int .i64 12))]), 3, some (9, false), 16⟩, ⟨some 12, (.bin .eql 3 (.t 11) (.c (.int .i64 0))), 4, some (9, false), 0⟩, ⟨some 13, (.pick (.t 9) (.c (.bool true)) (.t 12)), 4, none, 0⟩]) (some [0, 3, 13]))
        (.cond (.t 13)
          (.seq
            (.region false [⟨some 14, (.mv (.t 0)), 72, none, 0⟩, ⟨some 15, (.faddr 27 (.t 3) 0), 0, none, 0⟩, ⟨some 16, (.load 23 (.t 15)), 23, none, 0⟩, ⟨some 17, (.len 23 (.t 16)), 3, none, 0⟩, ⟨some 18, (.min (.t 17) (.c (.int .i64 6))), 3, none, 0⟩, ⟨some 19, (.call (.f 107) [(.t 14), (.t 18)]), 3, none, 16⟩, ⟨some 4, (.mv (.t 19)), 3, none, 0⟩] (some [4]))
            .ret)
          .skip))
      (.seq
        (.region false [⟨some 20, (.load 27 (.t 3)), 27, none, 0⟩, ⟨some 21, (.call (.f 119) [(.t 20)]), 23, none, 3⟩, ⟨some 5, (.mv (.t 21)), 23, none, 0⟩] (some [0, 5]))
        (.seq
          (.region false [⟨some 22, (.mv (.t 5)), 23, none, 0⟩, ⟨some 23, (.mv (.t 0)), 72, none, 0⟩, ⟨some 24, (.mv (.t 5)), 23, none, 0⟩, ⟨some 25, (.len 23 (.t 24)), 3, none, 0⟩, ⟨some 26, (.call (.f 106) [(.t 23), (.t 25)]), 3, none, 16⟩, ⟨some 27, (.iaddr 23 (.t 22) (.t 26)), 0, none, 0⟩, ⟨some 28, (.load 3 (.t 27)), 3, none, 0⟩, ⟨some 4, (.mv (.t 28)), 3, none, 0⟩] (some [4]))
          .ret))))⟩
theorem fok_108 : FnOk Try.prog 108 fa_108 an_108 := ⟨Try.f108, _, Try.func108, rfl, by kernel_rfl, rfl, rfl, by decide, by kernel_rfl⟩
end Go.PS
end

section
-- Contracts: sets and filters that are drawn.
set_option maxRecDepth 100000
set_option linter.unusedVariables false
set_option linter.unusedSimpArgs false
namespace Go.PS
open Go.Proofs

theorem callDOTR {T : List (Fam Try.prog)} {TW : List (FamW Try.prog)} {n kb kb' id : Nat} {caps args : List D} {σ : St} {d : Option Nat} {ops : List AOper} {Q : St → Prop} (hn : (id == 90) = false) (hw : (findW id TW).isNone = true) : callDO (CI inlR) kb' (inlW (CI inlR) T TW n kb) d 3 (.fn id caps) args σ ops Q = tab2 (findF id T) (args ++ caps) σ.h (fun v => opsKc (CI inlR) kb' (inlW (CI inlR) T TW n kb) ops ⟨put σ.t d (imm 5 v), σ.h, σ.g⟩ Q) :=
  callDO3W' (by show inlR id = none; unfold inlR; rw [if_neg (by simpa using hn)]) hw
/-- A set of elements, most often. -/
def soM (b : List Int) (p : Nat) (n : Nat) : Int := if pkM b p 24 = 0 then gi [-1, 2 ^ n, 0] (pkM b (p + 1) 3).toNat else pkM b (p + 1) (2 ^ n)
theorem setOf_pc (b : List Int) (p : Nat) (n : Int) (hb : BB b) (hp : p ≤ 1000000) (h0 : 0 ≤ n) (h6 : n ≤ 6) (hp2 : p ≤ 999000) : PC Try.prog 107 (.ptr 0 0 0 :: [I64 n]) (some (RS b p)) false (fun r c => imm 5 r = imm 5 (I64 (soM b p n.toNat)) ∧ c = (RS b (p + 2))) := by
  obtain ⟨n, rfl⟩ := Int.eq_ofNat_of_zero_le h0
  have h6 : n ≤ 6 := by omega
  have h64 := p2le h6
  have hp2' : (2 : Int) ^ n ≤ 1099511627776 := by rw [p2i]; omega
  have l1 : fw_one.look [.ptr 0 0 0, .list 1 [.int .i64 (-1), .int .i64 (2 ^ n), .int .i64 0]] (RS b (p + 1)) = some (I64 (gi [-1, 2 ^ n, 0] (pkM b (p + 1) 3).toNat), RS b (p + 2)) := fw_one_look b (p + 1) [-1, 2 ^ n, 0] hb (by omega) (by unfold Big; simp) (by simp)
  refine pcW [fm_power] [fw_pick, fw_one] fok_107 ?_
  simp [fa_107, callOW, callOT, hb, hp, h6, l1, rg3, hp2', show (n : Int) ≤ 61 by omega, show p + 1 ≤ 1000000 by omega]
  exact ⟨fun h => by simp [soM, h], fun h => by simp [soM, h]⟩
noncomputable def fw_setOf : FamW Try.prog := mkFamW (X := List Int × Nat × Int) 107 (fun (b, p, n) => (.ptr 0 0 0 :: [I64 n])) (fun (b, p, n) => (RS b p)) (fun (b, p, n) => (BB b) ∧ (p ≤ 1000000) ∧ (0 ≤ n) ∧ (n ≤ 6) ∧ (p ≤ 999000)) (fun (b, p, n) => I64 (soM b p n.toNat)) (fun (b, p, n) => (RS b (p + 2))) (by
  rintro ⟨b, p, n⟩ ⟨hb, hp, h0, h6, hp2⟩
  exact setOf_pc b p n hb hp h0 h6 hp2)
@[simp] theorem fw_setOf_id : fw_setOf.id = 107 := rfl
@[simp] theorem fw_setOf_look (b : List Int) (p : Nat) (n : Int) (hb : BB b) (hp : p ≤ 1000000) (h0 : 0 ≤ n) (h6 : n ≤ 6) (hp2 : p ≤ 999000) : fw_setOf.look (.ptr 0 0 0 :: [I64 n]) (RS b p) = some (I64 (soM b p n.toNat), (RS b (p + 2))) :=
  lookG_of (X := List Int × Nat × Int) (args := fun (b, p, n) => (.ptr 0 0 0 :: [I64 n])) (cell := fun (b, p, n) => (RS b p)) (pre := fun (b, p, n) => (BB b) ∧ (p ≤ 1000000) ∧ (0 ≤ n) ∧ (n ≤ 6) ∧ (p ≤ 999000)) (val := fun (b, p, n) => I64 (soM b p n.toNat)) (cell' := fun (b, p, n) => (RS b (p + 2))) (by
  rintro ⟨b, p, n⟩ ⟨b', p', n'⟩ h h2
  simp at h h2
  try simp only [and_assoc] at h
  obtain ⟨rfl, rfl⟩ := h2
  subst h
  exact ⟨rfl, rfl⟩) (b, p, n) ⟨hb, hp, h0, h6, hp2⟩
attribute [irreducible] fw_setOf
/-- The least of a number and 6. -/
abbrev mn6 (n : Nat) : Nat := if 6 < n then 6 else n
theorem mn6_le {n : Nat} : mn6 n ≤ 6 := by unfold mn6; split <;> omega
theorem mn6_int {n : Nat} : (if (6 : Int) < n then (6 : Int) else n) = (mn6 n : Nat) := by unfold mn6; split <;> split <;> omega
/-- A filter, most often, and how many numbers have been drawn. -/
noncomputable def foM (b : List Int) (p : Nat) (u : List Int) (t : List (List Int)) : Int × Nat :=
  if VA u t then (if pkM b p 12 = 0 then (soM b (p + 1) (mn6 u.length), p + 3) else (gi (natL (filN u t (2 ^ u.length))) (pkM b (p + 1) (filN u t (2 ^ u.length)).length).toNat, p + 2)) else (soM b p (mn6 u.length), p + 2)
theorem filterOf_pc (b : List Int) (p : Nat) (u : List Int) (t : List (List Int)) (hb : BB b) (hp : p ≤ 1000000) (hu : Big u.length) (ht : BigR t) (hp2 : p ≤ 990000) : PC Try.prog 108 (.ptr 0 0 0 :: [AL u t]) (some (RS b p)) false (fun r c => imm 5 r = imm 5 (I64 (foM b p u t).1) ∧ c = (RS b ((foM b p u t).2))) := by
  have hm := mn6_le (n := u.length)
  have hm2 := mn6_int (n := u.length)
  refine pcW [fm_validAlgebraS, fm_filS] [fw_pick, fw_setOf] fok_108 ?_
  generalize hme : mn6 u.length = m at *
  by_cases a : VA u t
  · have h6 := a.lat.six
    have h64 := p2le h6
    have hn := filN_len (u := u) (t := t) (m := 2 ^ u.length)
    have hpos : 0 < (filN u t (2 ^ u.length)).length := List.length_pos_of_mem (mem_fil.2 (fi_all a))
    have hr := pkM_rng hb (p := p + 1) (by omega) (n := (filN u t (2 ^ u.length)).length) (by omega)
    by_cases c : pkM b p 12 = 0
    · simp [gops, fa_108, foM, callOW, callOT, hb, hp, hu, ht, show (m : Int) ≤ 6 by omega, hm2, a, c, hme, show p + 1 ≤ 999000 by omega, show p + 1 ≤ 1000000 by omega]
    · generalize hL : filN u t (2 ^ u.length) = l at *
      simp [gops, fa_108, foM, callOW, callOT, hb, hp, hu, ht, a, c, hL, hr, show p + 1 ≤ 1000000 by omega, show (l.length : Int) ≤ 1099511627776 by omega]
  · simp [gops, fa_108, foM, callOW, callOT, hb, hp, hu, ht, show (m : Int) ≤ 6 by omega, hm2, a, hme, show p ≤ 999000 by omega]
noncomputable def fw_filterOf : FamW Try.prog := mkFamW (X := List Int × Nat × List Int × List (List Int)) 108 (fun (b, p, u, t) => (.ptr 0 0 0 :: [AL u t])) (fun (b, p, u, t) => (RS b p)) (fun (b, p, u, t) => (BB b) ∧ (p ≤ 1000000) ∧ (Big u.length) ∧ (BigR t) ∧ (p ≤ 990000)) (fun (b, p, u, t) => I64 (foM b p u t).1) (fun (b, p, u, t) => (RS b ((foM b p u t).2))) (by
  rintro ⟨b, p, u, t⟩ ⟨hb, hp, hu, ht, hp2⟩
  exact filterOf_pc b p u t hb hp hu ht hp2)
@[simp] theorem fw_filterOf_id : fw_filterOf.id = 108 := rfl
@[simp] theorem fw_filterOf_look (b : List Int) (p : Nat) (u : List Int) (t : List (List Int)) (hb : BB b) (hp : p ≤ 1000000) (hu : Big u.length) (ht : BigR t) (hp2 : p ≤ 990000) : fw_filterOf.look (.ptr 0 0 0 :: [AL u t]) (RS b p) = some (I64 (foM b p u t).1, (RS b ((foM b p u t).2))) :=
  lookG_of (X := List Int × Nat × List Int × List (List Int)) (args := fun (b, p, u, t) => (.ptr 0 0 0 :: [AL u t])) (cell := fun (b, p, u, t) => (RS b p)) (pre := fun (b, p, u, t) => (BB b) ∧ (p ≤ 1000000) ∧ (Big u.length) ∧ (BigR t) ∧ (p ≤ 990000)) (val := fun (b, p, u, t) => I64 (foM b p u t).1) (cell' := fun (b, p, u, t) => (RS b ((foM b p u t).2))) (by
  rintro ⟨b, p, u, t⟩ ⟨b', p', u', t'⟩ h h2
  simp at h h2
  try simp only [and_assoc] at h
  obtain ⟨rfl, rfl⟩ := h2
  obtain ⟨rfl, rfl⟩ := h
  exact ⟨rfl, rfl⟩) (b, p, u, t) ⟨hb, hp, hu, ht, hp2⟩
attribute [irreducible] fw_filterOf
theorem foM_p {b : List Int} {p : Nat} {u : List Int} {t : List (List Int)} : (foM b p u t).2 ≤ p + 3 := by
  unfold foM
  split
  · split
    · show p + 3 ≤ p + 3; omega
    · show p + 2 ≤ p + 3; omega
  · show p + 2 ≤ p + 3; omega
end Go.PS
end

section
-- PRINTED by gen.py: clean texts of functions, and their tie to the program.
set_option maxRecDepth 100000
namespace Go.PS
open Go.Proofs
/-- spec.DrawIsFilter -/
def ex_26_4_511 : Ex := .fin
def ex_26_4_255 : Ex := .one 8 ex_26_4_511
def ex_26_4_127 : Ex := (.alt 7 ex_26_4_255 .stop)
def ex_26_4_126 : Ex := (.alt 0 ex_26_4_127 .stop)
def ex_26_4_63 : Ex := (.alt 6 ex_26_4_127 .stop)
def ex_26_4_62 : Ex := (.alt 0 ex_26_4_63 (.alt 6 ex_26_4_126 .stop))
def ex_26_4_30 : Ex := .one 5 ex_26_4_62
def ex_26_4_31 : Ex := .one 5 ex_26_4_63
def ex_26_4_15 : Ex := (.alt 4 ex_26_4_31 .stop)
def ex_26_4_14 : Ex := (.alt 0 ex_26_4_15 (.alt 4 ex_26_4_30 .stop))
def ex_26_4_7 : Ex := (.alt 3 ex_26_4_15 .stop)
def ex_26_4_6 : Ex := (.alt 0 ex_26_4_7 (.alt 3 ex_26_4_14 .stop))
def ex_26_4_3 : Ex := (.alt 2 ex_26_4_7 .stop)
def ex_26_4_2 : Ex := (.alt 0 ex_26_4_3 (.alt 2 ex_26_4_6 .stop))
def ex_26_4_0 : Ex := .one 1 ex_26_4_2
def ro_26_4 : List AOper := [⟨some 13, (.load 27 (.t 5)), 27, none, 0⟩, ⟨some 14, (.mv (.t 4)), 72, none, 0⟩, ⟨some 15, (.faddr 27 (.t 5) 0), 0, none, 0⟩, ⟨some 16, (.load 23 (.t 15)), 23, none, 0⟩, ⟨some 17, (.len 23 (.t 16)), 3, none, 0⟩, ⟨some 18, (.min (.t 17) (.c (.int .i64 6))), 3, none, 0⟩, ⟨some 19, (.call (.f 107) [(.t 14), (.t 18)]), 3, none, 16⟩, ⟨none, (.store 27 (.t 2) (.t 13)), 0, none, 0⟩, ⟨some 3, (.mv (.t 19)), 3, none, 0⟩]
theorem ro_26_4_0 : ro_26_4[0]? = some ⟨some 13, (.load 27 (.t 5)), 27, none, 0⟩ := (rfl)
theorem ro_26_4_1 : ro_26_4[1]? = some ⟨some 14, (.mv (.t 4)), 72, none, 0⟩ := (rfl)
theorem ro_26_4_2 : ro_26_4[2]? = some ⟨some 15, (.faddr 27 (.t 5) 0), 0, none, 0⟩ := (rfl)
theorem ro_26_4_3 : ro_26_4[3]? = some ⟨some 16, (.load 23 (.t 15)), 23, none, 0⟩ := (rfl)
theorem ro_26_4_4 : ro_26_4[4]? = some ⟨some 17, (.len 23 (.t 16)), 3, none, 0⟩ := (rfl)
theorem ro_26_4_5 : ro_26_4[5]? = some ⟨some 18, (.min (.t 17) (.c (.int .i64 6))), 3, none, 0⟩ := (rfl)
theorem ro_26_4_6 : ro_26_4[6]? = some ⟨some 19, (.call (.f 107) [(.t 14), (.t 18)]), 3, none, 16⟩ := (rfl)
theorem ro_26_4_7 : ro_26_4[7]? = some ⟨none, (.store 27 (.t 2) (.t 13)), 0, none, 0⟩ := (rfl)
theorem ro_26_4_8 : ro_26_4[8]? = some ⟨some 3, (.mv (.t 19)), 3, none, 0⟩ := (rfl)
def ex_26_5_63 : Ex := .fin
def ex_26_5_31 : Ex := .one 5 ex_26_5_63
def ex_26_5_15 : Ex := (.alt 4 ex_26_5_31 .stop)
def ex_26_5_14 : Ex := (.alt 0 ex_26_5_15 .stop)
def ex_26_5_7 : Ex := (.alt 3 ex_26_5_15 .stop)
def ex_26_5_6 : Ex := (.alt 0 ex_26_5_7 (.alt 3 ex_26_5_14 .stop))
def ex_26_5_3 : Ex := (.alt 2 ex_26_5_7 .stop)
def ex_26_5_2 : Ex := (.alt 0 ex_26_5_3 (.alt 2 ex_26_5_6 .stop))
def ex_26_5_0 : Ex := .one 1 ex_26_5_2
def ro_26_5 : List AOper := [⟨some 20, (.load 27 (.t 5)), 27, none, 0⟩, ⟨some 21, (.mv (.t 4)), 72, none, 0⟩, ⟨some 22, (.load 27 (.t 5)), 27, none, 0⟩, ⟨some 23, (.call (.f 108) [(.t 21), (.t 22)]), 3, none, 16⟩, ⟨none, (.store 27 (.t 2) (.t 20)), 0, none, 0⟩, ⟨some 3, (.mv (.t 23)), 3, none, 0⟩]
theorem ro_26_5_0 : ro_26_5[0]? = some ⟨some 20, (.load 27 (.t 5)), 27, none, 0⟩ := (rfl)
theorem ro_26_5_1 : ro_26_5[1]? = some ⟨some 21, (.mv (.t 4)), 72, none, 0⟩ := (rfl)
theorem ro_26_5_2 : ro_26_5[2]? = some ⟨some 22, (.load 27 (.t 5)), 27, none, 0⟩ := (rfl)
theorem ro_26_5_3 : ro_26_5[3]? = some ⟨some 23, (.call (.f 108) [(.t 21), (.t 22)]), 3, none, 16⟩ := (rfl)
theorem ro_26_5_4 : ro_26_5[4]? = some ⟨none, (.store 27 (.t 2) (.t 20)), 0, none, 0⟩ := (rfl)
theorem ro_26_5_5 : ro_26_5[5]? = some ⟨some 3, (.mv (.t 23)), 3, none, 0⟩ := (rfl)
def an_26 : Ann := ⟨[(1, 1, 16), (2, 1, 16), (3, 1, 16), (4, 6, 16), (5, 3, 16)], [(0, [0, 2]), (1, [2, 4]), (2, [2, 4, 5]), (3, [2, 4, 5, 12]), (4, [2, 3]), (5, [2, 3])], [], [(4, ex_26_4_0, [16, 72, 152, 184]), (5, ex_26_5_0, [16, 72, 152, 184])]⟩
def fa_26 : FnA := ⟨24, [.c 2 27, .t 3],
  (.seq
    (.region false [⟨some 2, (.alloc 27), 0, none, 0⟩, ⟨some 3, (.mv (.c (.int .i64 0))), 3, none, 0⟩] (some [0, 2]))
    (.seq
      (.region false [⟨some 6, (.mv (.t 0)), 22, none, 0⟩, ⟨some 7, (.call (.f 90) [(.t 6)]), 72, none, 16⟩, ⟨some 4, (.mv (.t 7)), 72, none, 0⟩] (some [2, 4]))
      (.seq
        (.region false [⟨some 8, (.mv (.t 4)), 72, none, 0⟩, ⟨some 9, (.call (.f 105) [(.t 8)]), 27, none, 16⟩, ⟨some 5, (.alloc 27), 0, none, 0⟩, ⟨none, (.store 27 (.t 5) (.t 9)), 0, none, 0⟩] (some [2, 4, 5]))
        (.seq
          (.seq
            (.region false [⟨some 10, (.mv (.t 4)), 72, none, 0⟩, ⟨some 11, (.call (.f 106) [(.t 10), (.c (.int .i64 2))]), 3, none, 16⟩, ⟨some 12, (.bin .eql 3 (.t 11) (.c (.int .i64 0))), 4, none, 0⟩] (some [2, 4, 5, 12]))
            (.cond (.t 12)
              (.seq
                (.expl ro_26_4 ex_26_4_0 [2, 3] [16, 72, 152, 184])
                .ret)
              .skip))
          (.seq
            (.expl ro_26_5 ex_26_5_0 [2, 3] [16, 72, 152, 184])
            .ret)))))⟩
theorem fok_26 : FnOk Try.prog 26 fa_26 an_26 := ⟨Try.f26, _, Try.func26, rfl, by kernel_rfl, rfl, rfl, by decide, by kernel_rfl⟩
/-- laws.FnIsFilter -/
def an_4 : Ann := ⟨[(3, 1, 3), (4, 2, 3), (5, 3, 3), (5, 8, 3), (6, 3, 3), (7, 3, 3)], [(0, [0]), (1, [0, 8]), (2, [2]), (3, [3, 4]), (4, [3, 4, 5]), (5, [3, 4, 5, 27]), (6, [2]), (7, [2])], [], []⟩
def fa_4 : FnA := ⟨40, [.t 2],
  (.seq
    (.region false [⟨some 2, (.mv (.c (.bool false))), 4, none, 0⟩] (some [0]))
    (.seq
      (.seq
        (.region false [⟨some 6, (.mv (.t 0)), 22, none, 0⟩, ⟨some 7, (.len 22 (.t 6)), 3, none, 0⟩, ⟨some 8, (.bin .gtr 3 (.t 7) (.c (.int .i64 1048576))), 4, none, 0⟩] (some [0, 8]))
        (.cond (.t 8)
          (.seq
            (.region false [⟨some 2, (.mv (.c (.bool true))), 4, none, 0⟩] (some [2]))
            .ret)
          .skip))
      (.seq
        (.region false [⟨some 10, (.mv (.t 0)), 22, none, 0⟩, ⟨some 11, (.call (.f 26) [(.t 10)]), 35, none, 3⟩, ⟨some 9, (.mv (.t 11)), 35, none, 0⟩, ⟨some 12, (.ext (.t 9) 0), 27, none, 0⟩, ⟨some 13, (.ext (.t 9) 1), 3, none, 0⟩, ⟨some 3, (.alloc 27), 0, none, 0⟩, ⟨none, (.store 27 (.t 3) (.t 12)), 0, none, 0⟩, ⟨some 4, (.mv (.t 13)), 3, none, 0⟩] (some [3, 4]))
        (.seq
          (.region false [⟨some 14, (.load 27 (.t 3)), 27, none, 0⟩, ⟨some 15, (.mv (.t 4)), 3, none, 0⟩, ⟨some 16, (.call (.f 27) [(.t 14), (.t 15)]), 4, none, 3⟩, ⟨some 5, (.mv (.t 16)), 4, none, 0⟩] (some [3, 4, 5]))
          (.seq
            (.seq
              (.region false (gops [⟨some 17, (.mv (.t 5)), 4, none, 0⟩, ⟨some 18, (.load 27 (.t 3)), 27, none, 0⟩, ⟨some 19, (.mv (.t 4)), 3, none, 0⟩, ⟨some 20, (.call (.f 28) [(.t 18), (.t 19)]), 4, none, 3⟩, ⟨some 21, (.bin .neq 4 (.t 17) (.t 20)), 4, none, 0⟩, ⟨some 22, (.mv (.t 21)), 4, none, 0⟩, ⟨some 23, (.load 27 (.t 3)), 27, some (22, false), 0⟩, ⟨some 24, (.mv (.t 4)), 3, some (22, false), 0⟩, ⟨some 25, (.call (.f 29) [(.t 23), (.t 24)]), 3, some (22, false), 3⟩, ⟨some 26, (.bin .lss 3 (.t 25) (.c (.int .i64 0))), 4, some (22, false), 0⟩, ⟨some 27, (.pick (.t 22) (.c (.bool true)) (.t 26)), 4, none, 0⟩]) (some [3, 4, 5, 27]))
              (.cond (.t 27)
                (.seq
                  (.region false [⟨some 28, (.mv (.t 5)), 4, none, 0⟩, ⟨some 29, (.load 27 (.t 3)), 27, none, 0⟩, ⟨some 30, (.mv (.t 4)), 3, none, 0⟩, ⟨some 31, (.call (.f 28) [(.t 29), (.t 30)]), 4, none, 3⟩, ⟨some 32, (.bin .eql 4 (.t 28) (.t 31)), 4, none, 0⟩, ⟨some 2, (.mv (.t 32)), 4, none, 0⟩] (some [2]))
                  .ret)
                .skip))
            (.seq
              (.region false [⟨some 33, (.mv (.t 5)), 4, none, 0⟩, ⟨some 34, (.load 27 (.t 3)), 27, none, 0⟩, ⟨some 35, (.mv (.t 4)), 3, none, 0⟩, ⟨some 36, (.call (.f 29) [(.t 34), (.t 35)]), 3, none, 3⟩, ⟨some 37, (.mv (.t 4)), 3, none, 0⟩, ⟨some 38, (.bin .eql 3 (.t 36) (.t 37)), 4, none, 0⟩, ⟨some 39, (.bin .eql 4 (.t 33) (.t 38)), 4, none, 0⟩, ⟨some 2, (.mv (.t 39)), 4, none, 0⟩] (some [2]))
              .ret))))))⟩
theorem fok_4 : FnOk Try.prog 4 fa_4 an_4 := ⟨Try.f4, _, Try.func4, rfl, by kernel_rfl, rfl, rfl, by decide, by kernel_rfl⟩
end Go.PS
end

section
-- PRINTED by mkdraw2.py: draws.
set_option maxRecDepth 100000
set_option linter.unusedVariables false
set_option linter.unusedSimpArgs false
namespace Go.PS
open Go.Proofs
set_option maxHeartbeats 4000000 in
theorem isf_dag4 {Q : St → Prop} {b : List Int} {p : Nat} {u : List Int} {t : List (List Int)} {y q : Int} (hq : (if (6 : Int) < u.length then (6 : Int) else u.length) = q) (l0 : fw_setOf.look [.ptr 0 0 0, I64 q] (RS b p) = some (I64 y, RS b (p + 2)))
    (hQ : ∀ tb g, getT tb 2 = .ptr 16 1 0 → getT tb 3 = I64 y → Q ⟨tb, [⟨40, 3, .cells [IL u, RL t]⟩, ⟨4080, 2, .cells (RS b (p + 2))⟩, ⟨16, 1, .cells [IL u, RL t]⟩], g⟩) : ∀ tb g, getT tb 2 = .ptr 16 1 0 → getT tb 4 = .ptr 4080 2 0 → getT tb 5 = .ptr 40 3 0 → exT (CI inlR) 0 (inlW (CI inlR) [] [fw_someAlg, fw_pick, fw_setOf, fw_filterOf] 1 0) ro_26_4 Q ex_26_4_0 ⟨tb, [⟨40, 3, .cells [IL u, RL t]⟩, ⟨4080, 2, .cells (RS b (p))⟩, ⟨16, 1, .cells [.nil, .nil]⟩], g⟩ := by
  have n511 : ∀ tb g, getT tb 2 = .ptr 16 1 0 → getT tb 4 = .ptr 4080 2 0 → getT tb 5 = .ptr 40 3 0 → getT tb 13 = AL u t → getT tb 14 = .ptr 4080 2 0 → getT tb 15 = .ptr 40 3 0 → getT tb 16 = IL u → getT tb 17 = I64 (u.length : Int) → getT tb 18 = I64 q → getT tb 19 = I64 y → getT tb 3 = I64 y → exT (CI inlR) 0 (inlW (CI inlR) [] [fw_someAlg, fw_pick, fw_setOf, fw_filterOf] 1 0) ro_26_4 Q ex_26_4_511 ⟨tb, [⟨40, 3, .cells [IL u, RL t]⟩, ⟨4080, 2, .cells (RS b (p + 2))⟩, ⟨16, 1, .cells [IL u, RL t]⟩], g⟩ := by
    intro tb g e2 e4 e5 e13 e14 e15 e16 e17 e18 e19 e3
    unfold ex_26_4_511
    exact hQ tb g e2 e3
  have n255 : ∀ tb g, getT tb 2 = .ptr 16 1 0 → getT tb 4 = .ptr 4080 2 0 → getT tb 5 = .ptr 40 3 0 → getT tb 13 = AL u t → getT tb 14 = .ptr 4080 2 0 → getT tb 15 = .ptr 40 3 0 → getT tb 16 = IL u → getT tb 17 = I64 (u.length : Int) → getT tb 18 = I64 q → getT tb 19 = I64 y → exT (CI inlR) 0 (inlW (CI inlR) [] [fw_someAlg, fw_pick, fw_setOf, fw_filterOf] 1 0) ro_26_4 Q ex_26_4_255 ⟨tb, [⟨40, 3, .cells [IL u, RL t]⟩, ⟨4080, 2, .cells (RS b (p + 2))⟩, ⟨16, 1, .cells [IL u, RL t]⟩], g⟩ := by
    intro tb g e2 e4 e5 e13 e14 e15 e16 e17 e18 e19
    unfold ex_26_4_255
    simp only [exT_alt, exT_one, exT_stop, and_true]
    rw [ro_26_4_8]
    simp [callDOWR, hq, l0, e2, e4, e5, e13, e14, e15, e16, e17, e18, e19]
    refine n511 _ _ ?_ ?_ ?_ ?_ ?_ ?_ ?_ ?_ ?_ ?_ ?_ <;> simp [getT, e2, e4, e5, e13, e14, e15, e16, e17, e18, e19]
  have n127 : ∀ tb g, getT tb 2 = .ptr 16 1 0 → getT tb 4 = .ptr 4080 2 0 → getT tb 5 = .ptr 40 3 0 → getT tb 13 = AL u t → getT tb 14 = .ptr 4080 2 0 → getT tb 15 = .ptr 40 3 0 → getT tb 16 = IL u → getT tb 17 = I64 (u.length : Int) → getT tb 18 = I64 q → getT tb 19 = I64 y → exT (CI inlR) 0 (inlW (CI inlR) [] [fw_someAlg, fw_pick, fw_setOf, fw_filterOf] 1 0) ro_26_4 Q ex_26_4_127 ⟨tb, [⟨40, 3, .cells [IL u, RL t]⟩, ⟨4080, 2, .cells (RS b (p + 2))⟩, ⟨16, 1, .cells [.nil, .nil]⟩], g⟩ := by
    intro tb g e2 e4 e5 e13 e14 e15 e16 e17 e18 e19
    unfold ex_26_4_127
    simp only [exT_alt, exT_one, exT_stop, and_true]
    rw [ro_26_4_7]
    simp [callDOWR, hq, l0, e2, e4, e5, e13, e14, e15, e16, e17, e18, e19]
    refine n255 _ _ ?_ ?_ ?_ ?_ ?_ ?_ ?_ ?_ ?_ ?_ <;> simp [getT, e2, e4, e5, e13, e14, e15, e16, e17, e18, e19]
  have n126 : ∀ tb g, getT tb 2 = .ptr 16 1 0 → getT tb 4 = .ptr 4080 2 0 → getT tb 5 = .ptr 40 3 0 → getT tb 14 = .ptr 4080 2 0 → getT tb 15 = .ptr 40 3 0 → getT tb 16 = IL u → getT tb 17 = I64 (u.length : Int) → getT tb 18 = I64 q → getT tb 19 = I64 y → exT (CI inlR) 0 (inlW (CI inlR) [] [fw_someAlg, fw_pick, fw_setOf, fw_filterOf] 1 0) ro_26_4 Q ex_26_4_126 ⟨tb, [⟨40, 3, .cells [IL u, RL t]⟩, ⟨4080, 2, .cells (RS b (p + 2))⟩, ⟨16, 1, .cells [.nil, .nil]⟩], g⟩ := by
    intro tb g e2 e4 e5 e14 e15 e16 e17 e18 e19
    unfold ex_26_4_126
    simp only [exT_alt, exT_one, exT_stop, and_true]
    rw [ro_26_4_0]
    simp [callDOWR, hq, l0, e2, e4, e5, e14, e15, e16, e17, e18, e19]
    refine n127 _ _ ?_ ?_ ?_ ?_ ?_ ?_ ?_ ?_ ?_ ?_ <;> simp [getT, e2, e4, e5, e14, e15, e16, e17, e18, e19]
  have n63 : ∀ tb g, getT tb 2 = .ptr 16 1 0 → getT tb 4 = .ptr 4080 2 0 → getT tb 5 = .ptr 40 3 0 → getT tb 13 = AL u t → getT tb 14 = .ptr 4080 2 0 → getT tb 15 = .ptr 40 3 0 → getT tb 16 = IL u → getT tb 17 = I64 (u.length : Int) → getT tb 18 = I64 q → exT (CI inlR) 0 (inlW (CI inlR) [] [fw_someAlg, fw_pick, fw_setOf, fw_filterOf] 1 0) ro_26_4 Q ex_26_4_63 ⟨tb, [⟨40, 3, .cells [IL u, RL t]⟩, ⟨4080, 2, .cells (RS b (p))⟩, ⟨16, 1, .cells [.nil, .nil]⟩], g⟩ := by
    intro tb g e2 e4 e5 e13 e14 e15 e16 e17 e18
    unfold ex_26_4_63
    simp only [exT_alt, exT_one, exT_stop, and_true]
    rw [ro_26_4_6]
    simp [callDOWR, hq, l0, e2, e4, e5, e13, e14, e15, e16, e17, e18]
    refine n127 _ _ ?_ ?_ ?_ ?_ ?_ ?_ ?_ ?_ ?_ ?_ <;> simp [getT, e2, e4, e5, e13, e14, e15, e16, e17, e18]
  have n62 : ∀ tb g, getT tb 2 = .ptr 16 1 0 → getT tb 4 = .ptr 4080 2 0 → getT tb 5 = .ptr 40 3 0 → getT tb 14 = .ptr 4080 2 0 → getT tb 15 = .ptr 40 3 0 → getT tb 16 = IL u → getT tb 17 = I64 (u.length : Int) → getT tb 18 = I64 q → exT (CI inlR) 0 (inlW (CI inlR) [] [fw_someAlg, fw_pick, fw_setOf, fw_filterOf] 1 0) ro_26_4 Q ex_26_4_62 ⟨tb, [⟨40, 3, .cells [IL u, RL t]⟩, ⟨4080, 2, .cells (RS b (p))⟩, ⟨16, 1, .cells [.nil, .nil]⟩], g⟩ := by
    intro tb g e2 e4 e5 e14 e15 e16 e17 e18
    unfold ex_26_4_62
    simp only [exT_alt, exT_one, exT_stop, and_true]
    refine ⟨?_, ?_⟩
    · rw [ro_26_4_0]
      simp [callDOWR, hq, l0, e2, e4, e5, e14, e15, e16, e17, e18]
      refine n63 _ _ ?_ ?_ ?_ ?_ ?_ ?_ ?_ ?_ ?_ <;> simp [getT, e2, e4, e5, e14, e15, e16, e17, e18]
    · rw [ro_26_4_6]
      simp [callDOWR, hq, l0, e2, e4, e5, e14, e15, e16, e17, e18]
      refine n126 _ _ ?_ ?_ ?_ ?_ ?_ ?_ ?_ ?_ ?_ <;> simp [getT, e2, e4, e5, e14, e15, e16, e17, e18]
  have n30 : ∀ tb g, getT tb 2 = .ptr 16 1 0 → getT tb 4 = .ptr 4080 2 0 → getT tb 5 = .ptr 40 3 0 → getT tb 14 = .ptr 4080 2 0 → getT tb 15 = .ptr 40 3 0 → getT tb 16 = IL u → getT tb 17 = I64 (u.length : Int) → exT (CI inlR) 0 (inlW (CI inlR) [] [fw_someAlg, fw_pick, fw_setOf, fw_filterOf] 1 0) ro_26_4 Q ex_26_4_30 ⟨tb, [⟨40, 3, .cells [IL u, RL t]⟩, ⟨4080, 2, .cells (RS b (p))⟩, ⟨16, 1, .cells [.nil, .nil]⟩], g⟩ := by
    intro tb g e2 e4 e5 e14 e15 e16 e17
    unfold ex_26_4_30
    simp only [exT_alt, exT_one, exT_stop, and_true]
    rw [ro_26_4_5]
    simp [callDOWR, hq, l0, e2, e4, e5, e14, e15, e16, e17]
    refine n62 _ _ ?_ ?_ ?_ ?_ ?_ ?_ ?_ ?_ <;> simp [getT, e2, e4, e5, e14, e15, e16, e17]
  have n31 : ∀ tb g, getT tb 2 = .ptr 16 1 0 → getT tb 4 = .ptr 4080 2 0 → getT tb 5 = .ptr 40 3 0 → getT tb 13 = AL u t → getT tb 14 = .ptr 4080 2 0 → getT tb 15 = .ptr 40 3 0 → getT tb 16 = IL u → getT tb 17 = I64 (u.length : Int) → exT (CI inlR) 0 (inlW (CI inlR) [] [fw_someAlg, fw_pick, fw_setOf, fw_filterOf] 1 0) ro_26_4 Q ex_26_4_31 ⟨tb, [⟨40, 3, .cells [IL u, RL t]⟩, ⟨4080, 2, .cells (RS b (p))⟩, ⟨16, 1, .cells [.nil, .nil]⟩], g⟩ := by
    intro tb g e2 e4 e5 e13 e14 e15 e16 e17
    unfold ex_26_4_31
    simp only [exT_alt, exT_one, exT_stop, and_true]
    rw [ro_26_4_5]
    simp [callDOWR, hq, l0, e2, e4, e5, e13, e14, e15, e16, e17]
    refine n63 _ _ ?_ ?_ ?_ ?_ ?_ ?_ ?_ ?_ ?_ <;> simp [getT, e2, e4, e5, e13, e14, e15, e16, e17]
  have n15 : ∀ tb g, getT tb 2 = .ptr 16 1 0 → getT tb 4 = .ptr 4080 2 0 → getT tb 5 = .ptr 40 3 0 → getT tb 13 = AL u t → getT tb 14 = .ptr 4080 2 0 → getT tb 15 = .ptr 40 3 0 → getT tb 16 = IL u → exT (CI inlR) 0 (inlW (CI inlR) [] [fw_someAlg, fw_pick, fw_setOf, fw_filterOf] 1 0) ro_26_4 Q ex_26_4_15 ⟨tb, [⟨40, 3, .cells [IL u, RL t]⟩, ⟨4080, 2, .cells (RS b (p))⟩, ⟨16, 1, .cells [.nil, .nil]⟩], g⟩ := by
    intro tb g e2 e4 e5 e13 e14 e15 e16
    unfold ex_26_4_15
    simp only [exT_alt, exT_one, exT_stop, and_true]
    rw [ro_26_4_4]
    simp [callDOWR, hq, l0, e2, e4, e5, e13, e14, e15, e16]
    refine n31 _ _ ?_ ?_ ?_ ?_ ?_ ?_ ?_ ?_ <;> simp [getT, e2, e4, e5, e13, e14, e15, e16]
  have n14 : ∀ tb g, getT tb 2 = .ptr 16 1 0 → getT tb 4 = .ptr 4080 2 0 → getT tb 5 = .ptr 40 3 0 → getT tb 14 = .ptr 4080 2 0 → getT tb 15 = .ptr 40 3 0 → getT tb 16 = IL u → exT (CI inlR) 0 (inlW (CI inlR) [] [fw_someAlg, fw_pick, fw_setOf, fw_filterOf] 1 0) ro_26_4 Q ex_26_4_14 ⟨tb, [⟨40, 3, .cells [IL u, RL t]⟩, ⟨4080, 2, .cells (RS b (p))⟩, ⟨16, 1, .cells [.nil, .nil]⟩], g⟩ := by
    intro tb g e2 e4 e5 e14 e15 e16
    unfold ex_26_4_14
    simp only [exT_alt, exT_one, exT_stop, and_true]
    refine ⟨?_, ?_⟩
    · rw [ro_26_4_0]
      simp [callDOWR, hq, l0, e2, e4, e5, e14, e15, e16]
      refine n15 _ _ ?_ ?_ ?_ ?_ ?_ ?_ ?_ <;> simp [getT, e2, e4, e5, e14, e15, e16]
    · rw [ro_26_4_4]
      simp [callDOWR, hq, l0, e2, e4, e5, e14, e15, e16]
      refine n30 _ _ ?_ ?_ ?_ ?_ ?_ ?_ ?_ <;> simp [getT, e2, e4, e5, e14, e15, e16]
  have n7 : ∀ tb g, getT tb 2 = .ptr 16 1 0 → getT tb 4 = .ptr 4080 2 0 → getT tb 5 = .ptr 40 3 0 → getT tb 13 = AL u t → getT tb 14 = .ptr 4080 2 0 → getT tb 15 = .ptr 40 3 0 → exT (CI inlR) 0 (inlW (CI inlR) [] [fw_someAlg, fw_pick, fw_setOf, fw_filterOf] 1 0) ro_26_4 Q ex_26_4_7 ⟨tb, [⟨40, 3, .cells [IL u, RL t]⟩, ⟨4080, 2, .cells (RS b (p))⟩, ⟨16, 1, .cells [.nil, .nil]⟩], g⟩ := by
    intro tb g e2 e4 e5 e13 e14 e15
    unfold ex_26_4_7
    simp only [exT_alt, exT_one, exT_stop, and_true]
    rw [ro_26_4_3]
    simp [callDOWR, hq, l0, e2, e4, e5, e13, e14, e15]
    refine n15 _ _ ?_ ?_ ?_ ?_ ?_ ?_ ?_ <;> simp [getT, e2, e4, e5, e13, e14, e15]
  have n6 : ∀ tb g, getT tb 2 = .ptr 16 1 0 → getT tb 4 = .ptr 4080 2 0 → getT tb 5 = .ptr 40 3 0 → getT tb 14 = .ptr 4080 2 0 → getT tb 15 = .ptr 40 3 0 → exT (CI inlR) 0 (inlW (CI inlR) [] [fw_someAlg, fw_pick, fw_setOf, fw_filterOf] 1 0) ro_26_4 Q ex_26_4_6 ⟨tb, [⟨40, 3, .cells [IL u, RL t]⟩, ⟨4080, 2, .cells (RS b (p))⟩, ⟨16, 1, .cells [.nil, .nil]⟩], g⟩ := by
    intro tb g e2 e4 e5 e14 e15
    unfold ex_26_4_6
    simp only [exT_alt, exT_one, exT_stop, and_true]
    refine ⟨?_, ?_⟩
    · rw [ro_26_4_0]
      simp [callDOWR, hq, l0, e2, e4, e5, e14, e15]
      refine n7 _ _ ?_ ?_ ?_ ?_ ?_ ?_ <;> simp [getT, e2, e4, e5, e14, e15]
    · rw [ro_26_4_3]
      simp [callDOWR, hq, l0, e2, e4, e5, e14, e15]
      refine n14 _ _ ?_ ?_ ?_ ?_ ?_ ?_ <;> simp [getT, e2, e4, e5, e14, e15]
  have n3 : ∀ tb g, getT tb 2 = .ptr 16 1 0 → getT tb 4 = .ptr 4080 2 0 → getT tb 5 = .ptr 40 3 0 → getT tb 13 = AL u t → getT tb 14 = .ptr 4080 2 0 → exT (CI inlR) 0 (inlW (CI inlR) [] [fw_someAlg, fw_pick, fw_setOf, fw_filterOf] 1 0) ro_26_4 Q ex_26_4_3 ⟨tb, [⟨40, 3, .cells [IL u, RL t]⟩, ⟨4080, 2, .cells (RS b (p))⟩, ⟨16, 1, .cells [.nil, .nil]⟩], g⟩ := by
    intro tb g e2 e4 e5 e13 e14
    unfold ex_26_4_3
    simp only [exT_alt, exT_one, exT_stop, and_true]
    rw [ro_26_4_2]
    simp [callDOWR, hq, l0, e2, e4, e5, e13, e14]
    refine n7 _ _ ?_ ?_ ?_ ?_ ?_ ?_ <;> simp [getT, e2, e4, e5, e13, e14]
  have n2 : ∀ tb g, getT tb 2 = .ptr 16 1 0 → getT tb 4 = .ptr 4080 2 0 → getT tb 5 = .ptr 40 3 0 → getT tb 14 = .ptr 4080 2 0 → exT (CI inlR) 0 (inlW (CI inlR) [] [fw_someAlg, fw_pick, fw_setOf, fw_filterOf] 1 0) ro_26_4 Q ex_26_4_2 ⟨tb, [⟨40, 3, .cells [IL u, RL t]⟩, ⟨4080, 2, .cells (RS b (p))⟩, ⟨16, 1, .cells [.nil, .nil]⟩], g⟩ := by
    intro tb g e2 e4 e5 e14
    unfold ex_26_4_2
    simp only [exT_alt, exT_one, exT_stop, and_true]
    refine ⟨?_, ?_⟩
    · rw [ro_26_4_0]
      simp [callDOWR, hq, l0, e2, e4, e5, e14]
      refine n3 _ _ ?_ ?_ ?_ ?_ ?_ <;> simp [getT, e2, e4, e5, e14]
    · rw [ro_26_4_2]
      simp [callDOWR, hq, l0, e2, e4, e5, e14]
      refine n6 _ _ ?_ ?_ ?_ ?_ ?_ <;> simp [getT, e2, e4, e5, e14]
  have n0 : ∀ tb g, getT tb 2 = .ptr 16 1 0 → getT tb 4 = .ptr 4080 2 0 → getT tb 5 = .ptr 40 3 0 → exT (CI inlR) 0 (inlW (CI inlR) [] [fw_someAlg, fw_pick, fw_setOf, fw_filterOf] 1 0) ro_26_4 Q ex_26_4_0 ⟨tb, [⟨40, 3, .cells [IL u, RL t]⟩, ⟨4080, 2, .cells (RS b (p))⟩, ⟨16, 1, .cells [.nil, .nil]⟩], g⟩ := by
    intro tb g e2 e4 e5
    unfold ex_26_4_0
    simp only [exT_alt, exT_one, exT_stop, and_true]
    rw [ro_26_4_1]
    simp [callDOWR, hq, l0, e2, e4, e5]
    refine n2 _ _ ?_ ?_ ?_ ?_ <;> simp [getT, e2, e4, e5]
  exact n0

set_option maxHeartbeats 4000000 in
theorem isf_dag5 {Q : St → Prop} {b : List Int} {p p2 : Nat} {u : List Int} {t : List (List Int)} {y : Int} (l0 : fw_filterOf.look [.ptr 0 0 0, AL u t] (RS b p) = some (I64 y, RS b p2))
    (hQ : ∀ tb g, getT tb 2 = .ptr 16 1 0 → getT tb 3 = I64 y → Q ⟨tb, [⟨40, 3, .cells [IL u, RL t]⟩, ⟨4080, 2, .cells (RS b (p2))⟩, ⟨16, 1, .cells [IL u, RL t]⟩], g⟩) : ∀ tb g, getT tb 2 = .ptr 16 1 0 → getT tb 4 = .ptr 4080 2 0 → getT tb 5 = .ptr 40 3 0 → exT (CI inlR) 0 (inlW (CI inlR) [] [fw_someAlg, fw_pick, fw_setOf, fw_filterOf] 1 0) ro_26_5 Q ex_26_5_0 ⟨tb, [⟨40, 3, .cells [IL u, RL t]⟩, ⟨4080, 2, .cells (RS b (p))⟩, ⟨16, 1, .cells [.nil, .nil]⟩], g⟩ := by
  have n63 : ∀ tb g, getT tb 2 = .ptr 16 1 0 → getT tb 4 = .ptr 4080 2 0 → getT tb 5 = .ptr 40 3 0 → getT tb 20 = AL u t → getT tb 21 = .ptr 4080 2 0 → getT tb 22 = AL u t → getT tb 23 = I64 y → getT tb 3 = I64 y → exT (CI inlR) 0 (inlW (CI inlR) [] [fw_someAlg, fw_pick, fw_setOf, fw_filterOf] 1 0) ro_26_5 Q ex_26_5_63 ⟨tb, [⟨40, 3, .cells [IL u, RL t]⟩, ⟨4080, 2, .cells (RS b (p2))⟩, ⟨16, 1, .cells [IL u, RL t]⟩], g⟩ := by
    intro tb g e2 e4 e5 e20 e21 e22 e23 e3
    unfold ex_26_5_63
    exact hQ tb g e2 e3
  have n31 : ∀ tb g, getT tb 2 = .ptr 16 1 0 → getT tb 4 = .ptr 4080 2 0 → getT tb 5 = .ptr 40 3 0 → getT tb 20 = AL u t → getT tb 21 = .ptr 4080 2 0 → getT tb 22 = AL u t → getT tb 23 = I64 y → exT (CI inlR) 0 (inlW (CI inlR) [] [fw_someAlg, fw_pick, fw_setOf, fw_filterOf] 1 0) ro_26_5 Q ex_26_5_31 ⟨tb, [⟨40, 3, .cells [IL u, RL t]⟩, ⟨4080, 2, .cells (RS b (p2))⟩, ⟨16, 1, .cells [IL u, RL t]⟩], g⟩ := by
    intro tb g e2 e4 e5 e20 e21 e22 e23
    unfold ex_26_5_31
    simp only [exT_alt, exT_one, exT_stop, and_true]
    rw [ro_26_5_5]
    simp [callDOWR, l0, e2, e4, e5, e20, e21, e22, e23]
    refine n63 _ _ ?_ ?_ ?_ ?_ ?_ ?_ ?_ ?_ <;> simp [getT, e2, e4, e5, e20, e21, e22, e23]
  have n15 : ∀ tb g, getT tb 2 = .ptr 16 1 0 → getT tb 4 = .ptr 4080 2 0 → getT tb 5 = .ptr 40 3 0 → getT tb 20 = AL u t → getT tb 21 = .ptr 4080 2 0 → getT tb 22 = AL u t → getT tb 23 = I64 y → exT (CI inlR) 0 (inlW (CI inlR) [] [fw_someAlg, fw_pick, fw_setOf, fw_filterOf] 1 0) ro_26_5 Q ex_26_5_15 ⟨tb, [⟨40, 3, .cells [IL u, RL t]⟩, ⟨4080, 2, .cells (RS b (p2))⟩, ⟨16, 1, .cells [.nil, .nil]⟩], g⟩ := by
    intro tb g e2 e4 e5 e20 e21 e22 e23
    unfold ex_26_5_15
    simp only [exT_alt, exT_one, exT_stop, and_true]
    rw [ro_26_5_4]
    simp [callDOWR, l0, e2, e4, e5, e20, e21, e22, e23]
    refine n31 _ _ ?_ ?_ ?_ ?_ ?_ ?_ ?_ <;> simp [getT, e2, e4, e5, e20, e21, e22, e23]
  have n14 : ∀ tb g, getT tb 2 = .ptr 16 1 0 → getT tb 4 = .ptr 4080 2 0 → getT tb 5 = .ptr 40 3 0 → getT tb 21 = .ptr 4080 2 0 → getT tb 22 = AL u t → getT tb 23 = I64 y → exT (CI inlR) 0 (inlW (CI inlR) [] [fw_someAlg, fw_pick, fw_setOf, fw_filterOf] 1 0) ro_26_5 Q ex_26_5_14 ⟨tb, [⟨40, 3, .cells [IL u, RL t]⟩, ⟨4080, 2, .cells (RS b (p2))⟩, ⟨16, 1, .cells [.nil, .nil]⟩], g⟩ := by
    intro tb g e2 e4 e5 e21 e22 e23
    unfold ex_26_5_14
    simp only [exT_alt, exT_one, exT_stop, and_true]
    rw [ro_26_5_0]
    simp [callDOWR, l0, e2, e4, e5, e21, e22, e23]
    refine n15 _ _ ?_ ?_ ?_ ?_ ?_ ?_ ?_ <;> simp [getT, e2, e4, e5, e21, e22, e23]
  have n7 : ∀ tb g, getT tb 2 = .ptr 16 1 0 → getT tb 4 = .ptr 4080 2 0 → getT tb 5 = .ptr 40 3 0 → getT tb 20 = AL u t → getT tb 21 = .ptr 4080 2 0 → getT tb 22 = AL u t → exT (CI inlR) 0 (inlW (CI inlR) [] [fw_someAlg, fw_pick, fw_setOf, fw_filterOf] 1 0) ro_26_5 Q ex_26_5_7 ⟨tb, [⟨40, 3, .cells [IL u, RL t]⟩, ⟨4080, 2, .cells (RS b (p))⟩, ⟨16, 1, .cells [.nil, .nil]⟩], g⟩ := by
    intro tb g e2 e4 e5 e20 e21 e22
    unfold ex_26_5_7
    simp only [exT_alt, exT_one, exT_stop, and_true]
    rw [ro_26_5_3]
    simp [callDOWR, l0, e2, e4, e5, e20, e21, e22]
    refine n15 _ _ ?_ ?_ ?_ ?_ ?_ ?_ ?_ <;> simp [getT, e2, e4, e5, e20, e21, e22]
  have n6 : ∀ tb g, getT tb 2 = .ptr 16 1 0 → getT tb 4 = .ptr 4080 2 0 → getT tb 5 = .ptr 40 3 0 → getT tb 21 = .ptr 4080 2 0 → getT tb 22 = AL u t → exT (CI inlR) 0 (inlW (CI inlR) [] [fw_someAlg, fw_pick, fw_setOf, fw_filterOf] 1 0) ro_26_5 Q ex_26_5_6 ⟨tb, [⟨40, 3, .cells [IL u, RL t]⟩, ⟨4080, 2, .cells (RS b (p))⟩, ⟨16, 1, .cells [.nil, .nil]⟩], g⟩ := by
    intro tb g e2 e4 e5 e21 e22
    unfold ex_26_5_6
    simp only [exT_alt, exT_one, exT_stop, and_true]
    refine ⟨?_, ?_⟩
    · rw [ro_26_5_0]
      simp [callDOWR, l0, e2, e4, e5, e21, e22]
      refine n7 _ _ ?_ ?_ ?_ ?_ ?_ ?_ <;> simp [getT, e2, e4, e5, e21, e22]
    · rw [ro_26_5_3]
      simp [callDOWR, l0, e2, e4, e5, e21, e22]
      refine n14 _ _ ?_ ?_ ?_ ?_ ?_ ?_ <;> simp [getT, e2, e4, e5, e21, e22]
  have n3 : ∀ tb g, getT tb 2 = .ptr 16 1 0 → getT tb 4 = .ptr 4080 2 0 → getT tb 5 = .ptr 40 3 0 → getT tb 20 = AL u t → getT tb 21 = .ptr 4080 2 0 → exT (CI inlR) 0 (inlW (CI inlR) [] [fw_someAlg, fw_pick, fw_setOf, fw_filterOf] 1 0) ro_26_5 Q ex_26_5_3 ⟨tb, [⟨40, 3, .cells [IL u, RL t]⟩, ⟨4080, 2, .cells (RS b (p))⟩, ⟨16, 1, .cells [.nil, .nil]⟩], g⟩ := by
    intro tb g e2 e4 e5 e20 e21
    unfold ex_26_5_3
    simp only [exT_alt, exT_one, exT_stop, and_true]
    rw [ro_26_5_2]
    simp [callDOWR, l0, e2, e4, e5, e20, e21]
    refine n7 _ _ ?_ ?_ ?_ ?_ ?_ ?_ <;> simp [getT, e2, e4, e5, e20, e21]
  have n2 : ∀ tb g, getT tb 2 = .ptr 16 1 0 → getT tb 4 = .ptr 4080 2 0 → getT tb 5 = .ptr 40 3 0 → getT tb 21 = .ptr 4080 2 0 → exT (CI inlR) 0 (inlW (CI inlR) [] [fw_someAlg, fw_pick, fw_setOf, fw_filterOf] 1 0) ro_26_5 Q ex_26_5_2 ⟨tb, [⟨40, 3, .cells [IL u, RL t]⟩, ⟨4080, 2, .cells (RS b (p))⟩, ⟨16, 1, .cells [.nil, .nil]⟩], g⟩ := by
    intro tb g e2 e4 e5 e21
    unfold ex_26_5_2
    simp only [exT_alt, exT_one, exT_stop, and_true]
    refine ⟨?_, ?_⟩
    · rw [ro_26_5_0]
      simp [callDOWR, l0, e2, e4, e5, e21]
      refine n3 _ _ ?_ ?_ ?_ ?_ ?_ <;> simp [getT, e2, e4, e5, e21]
    · rw [ro_26_5_2]
      simp [callDOWR, l0, e2, e4, e5, e21]
      refine n6 _ _ ?_ ?_ ?_ ?_ ?_ <;> simp [getT, e2, e4, e5, e21]
  have n0 : ∀ tb g, getT tb 2 = .ptr 16 1 0 → getT tb 4 = .ptr 4080 2 0 → getT tb 5 = .ptr 40 3 0 → exT (CI inlR) 0 (inlW (CI inlR) [] [fw_someAlg, fw_pick, fw_setOf, fw_filterOf] 1 0) ro_26_5 Q ex_26_5_0 ⟨tb, [⟨40, 3, .cells [IL u, RL t]⟩, ⟨4080, 2, .cells (RS b (p))⟩, ⟨16, 1, .cells [.nil, .nil]⟩], g⟩ := by
    intro tb g e2 e4 e5
    unfold ex_26_5_0
    simp only [exT_alt, exT_one, exT_stop, and_true]
    rw [ro_26_5_1]
    simp [callDOWR, l0, e2, e4, e5]
    refine n2 _ _ ?_ ?_ ?_ ?_ <;> simp [getT, e2, e4, e5]
  exact n0

noncomputable def dIF (b : List Int) (p : Nat) (u : List Int) (t : List (List Int)) : Int := if pkM b p 2 = 0 then soM b (p + 1) (mn6 u.length) else (foM b (p + 1) u t).1
theorem drIsF_pc (c : List Int) (hc : Byt c) (hl : Big c.length) : PC Try.prog 26 [BL c] none false (fun r _ => r = .tup [AL (saM (rdB c) 0).1.1 (saM (rdB c) 0).1.2, I64 (dIF (rdB c) (saM (rdB c) 0).2 (saM (rdB c) 0).1.1 (saM (rdB c) 0).1.2)]) := by
  have hl := hl.le
  have hb := rdB_ok hc
  have l1 := fw_someAlg_look (rdB c) 0 hb (by omega) (by omega)
  obtain ⟨g, q⟩ := saM_few hb (p := 0) (by omega)
  have hu := g.big
  have ht := g.bigR
  refine pcR [] [fw_someAlg, fw_pick, fw_setOf, fw_filterOf] fok_26 ?_
  generalize saM (rdB c) 0 = A at *
  obtain ⟨⟨u, t⟩, p1⟩ := A
  dsimp only at *
  have l0 := fw_pick_look (rdB c) p1 2 hb (by omega) (by omega)
  have l2 := fw_setOf_look (rdB c) (p1 + 1) (mn6 u.length : Nat) hb (by omega) (by omega) (by have := mn6_le (n := u.length); omega) (by omega)
  have l3 := fw_filterOf_look (rdB c) (p1 + 1) u t hb (by omega) hu ht (by omega)
  have hm := mn6_int (n := u.length)
  simp only [Int.toNat_natCast] at l2
  unfold dIF
  generalize mn6 u.length = m at *
  generalize soM (rdB c) (p1 + 1) m = y at *
  generalize foM (rdB c) (p1 + 1) u t = z at *
  obtain ⟨z, p2⟩ := z
  dsimp only at *
  simp [fa_26]
  refine newR hl ?_
  by_cases hz : pkM (rdB c) p1 2 = 0
  · simp [callOWR, l1, l0, hz]
    refine cutE (α := Unit) (fun _ => [(2, .ptr 16 1 0), (3, I64 y)]) (fun _ => [⟨16, 1, .cells [IL u, RL t]⟩]) ?_ (fun _ g0 => ?_)
    · refine isf_dag4 (p := p1 + 1) hm l2 (fun tb g q2 q3 => ?_) _ _ (by simp) (by simp) (by simp)
      simp [q2, q3]
    · simp
  · simp [callOWR, l1, l0, hz]
    refine cutE (α := Unit) (fun _ => [(2, .ptr 16 1 0), (3, I64 z)]) (fun _ => [⟨16, 1, .cells [IL u, RL t]⟩]) ?_ (fun _ g0 => ?_)
    · refine isf_dag5 (p := p1 + 1) l3 (fun tb g q2 q3 => ?_) _ _ (by simp) (by simp) (by simp)
      simp [q2, q3]
    · simp
noncomputable def fm_drIsF : Fam Try.prog := mkFam (X := List Int) 26 false (fun c => [BL c]) (fun c => (Byt c) ∧ (Big c.length)) (fun c => .tup [AL (saM (rdB c) 0).1.1 (saM (rdB c) 0).1.2, I64 (dIF (rdB c) (saM (rdB c) 0).2 (saM (rdB c) 0).1.1 (saM (rdB c) 0).1.2)]) (by
  rintro c ⟨hc, hl⟩
  exact drIsF_pc c hc hl)
@[simp] theorem fm_drIsF_id : fm_drIsF.id = 26 := rfl
@[simp] theorem fm_drIsF_fresh : fm_drIsF.fresh = false := rfl
@[simp] theorem fm_drIsF_look (c : List Int) (hc : Byt c) (hl : Big c.length) : fm_drIsF.look [BL c] = some (.tup [AL (saM (rdB c) 0).1.1 (saM (rdB c) 0).1.2, I64 (dIF (rdB c) (saM (rdB c) 0).2 (saM (rdB c) 0).1.1 (saM (rdB c) 0).1.2)]) :=
  lookF_of (X := List Int) (args := fun c => [BL c]) (pre := fun c => (Byt c) ∧ (Big c.length)) (val := fun c => .tup [AL (saM (rdB c) 0).1.1 (saM (rdB c) 0).1.2, I64 (dIF (rdB c) (saM (rdB c) 0).2 (saM (rdB c) 0).1.1 (saM (rdB c) 0).1.2)]) (by
  intro c c' h
  simp at h
  subst h
  rfl) c ⟨hc, hl⟩
attribute [irreducible] fm_drIsF
end Go.PS
end

section
-- The law of filters being their own.
set_option maxRecDepth 100000
set_option linter.unusedVariables false
set_option linter.unusedSimpArgs false
namespace Go.PS
open Go.Proofs

theorem fbM_law {u : List Int} {t : List (List Int)} {f : Int} (h : ¬ fbM u t f < 0) : ifM u t f = decide (fbM u t f = f) := by
  unfold fbM ifM at *
  split at h
  · rename_i hb
    have hb2 := hb
    simp only [Bool.and_eq_true, decide_eq_true_eq] at hb2
    obtain ⟨f, rfl, hf⟩ := inS_ex hb2.2
    rw [if_pos hb, hb, Bool.true_and, Int.toNat_natCast]
    have := gen_iff hb2.1 (f := f)
    rw [Bool.eq_iff_iff, decide_eq_true_eq, decide_eq_true_eq, ← this]
    omega
  · exact absurd (by decide) h
set_option maxHeartbeats 2000000 in
theorem FnIsFilter_pc (c : List Int) (hl : Hu c.length) (hc : Byt c) : PC Try.prog 4 [BL c] none true (fun r _ => r = .bool true) := by
  have hl' := hl.le
  refine pcT [fm_drIsF, fm_IsFilI, fm_IsFilS, fm_FiByI] fok_4 ?_
  rcases Nat.lt_or_ge 1048576 c.length with q | q
  · simp [fa_4, show ((1048576 : Int) < c.length) by omega]
  · have hbig : Big c.length := by unfold Big; omega
    have l1 := fm_drIsF_look c hc hbig
    obtain ⟨g, _⟩ := saM_few (rdB_ok hc) (p := 0) (by omega)
    have hu := g.big
    have ht := g.bigR
    generalize saM (rdB c) 0 = A at *
    obtain ⟨⟨u, t⟩, p1⟩ := A
    dsimp only at *
    generalize dIF (rdB c) p1 u t = f at *
    simp [fa_4, show ¬ ((1048576 : Int) < c.length) by omega, show ((c.length : Int) ≤ 1048576) by omega, l1, hu, ht]
    refine cutW (tabK_mono _) [(27, .bool (decide (fbM u t f < 0)))] (by simp [hu, ht]) ?_
    simp [hu, ht]
    intro h
    have := fbM_law (u := u) (t := t) (f := f) (by omega)
    rw [this]
end Go.PS
end
