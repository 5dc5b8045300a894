/- Part 2 of what the last text proves: Nuclei are found: the law holds at every input. -/
import Derived.Test.YteegdecbdobdpaaQn1
import Derived.WalkKit
import Derived.ProofKit
import Derived.Shelf.RegionOpenPlain
import Derived.Deep.LoopGhost
import Derived.Lib.Walk
import Derived.Lib.SliceRun
import Derived.Laws.CopyOwn
import Derived.Laws.MakeOwn
import Derived.LoopN
import Derived.Shelf.Spec.SlicesInsert
section
-- PRINTED by rep.py: slices.Repeat of a row of one number, up to six times.
set_option linter.unusedVariables false
set_option linter.unusedSimpArgs false
open Go Go.Proofs Go.RowKit Go.Lib
namespace Go.PS
theorem made1 (z : Value) (n : Nat) (hz : z.cells = #[z]) : madeCells z.cells n = (List.replicate n z).toArray := by
  apply Array.ext
  · simp [madeCells]
  · intro i h1 h2
    simp [madeCells, hz, Nat.mod_one]

theorem copyEq (W : World) {g o dLen dCap sLen sCap : Nat} {a : Addr} {L cs : List Value} (hg : W.heap[g]? = some (.cells L.toArray 3 (0, 0))) (hn : cs.length = Nat.min sLen dLen)
    (hsrc : ∀ j v, cs[j]? = some v → W.cell? (a.add j) = some v) (hfit : o + cs.length ≤ L.length) (h1 : ∀ v ∈ cs, v.oneCell' = true) :
    ∃ W', (Builtin.copy_ #[22, 22] 3 #[.slice (some ⟨g, o, none⟩) dLen dCap, .slice (some a) sLen sCap]).run Try.prog W = .ok (goInt cs.length) W' ∧
      W'.heap[g]? = some (.cells (L.take o ++ cs ++ L.drop (o + cs.length)).toArray 3 (0, 0)) ∧ Below g W W' := by
  have h := run_copy_row (P := Try.prog) W 22 22 3 3 g o dLen dCap a sLen sCap L.toArray 3 cs Try.underlying22 (by kernel_rfl) hg hn hsrc (by simpa using hfit) h1
  exact ⟨_, h, setRow_heap W g _ _ 3 _ hg, below_setRow (Below.refl _ _) (Nat.le_refl _) _⟩

theorem cell_at {W : World} {g k : Nat} {L : List Value} {u : Value} (hg : W.heap[g]? = some (.cells L.toArray 3 (0, 0))) (hu : L[k]? = some u) : W.cell? ⟨g, k, none⟩ = some u := by
  simp [World.cell?, hg, hu]

theorem src_one {W : World} {a : Addr} {u : Value} (h : W.cell? a = some u) : ∀ j v, [u][j]? = some v → W.cell? (a.add j) = some v := by
  intro j v hj
  have hj0 : j = 0 := by have := (List.getElem?_eq_some_iff.1 hj).1; simpa using this
  subst hj0
  have hu : v = u := by simpa using hj.symm
  subst hu
  simpa [Addr.add] using h

theorem src_row {W : World} {g : Nat} {cs rest : List Value} (hg : W.heap[g]? = some (.cells (cs ++ rest).toArray 3 (0, 0))) : ∀ j v, cs[j]? = some v → W.cell? ((⟨g, 0, none⟩ : Addr).add j) = some v := by
  intro j v hj
  rw [Go.WideShapes.add_plain, Nat.zero_add]
  exact cell_at hg (by rw [List.getElem?_append_left (List.getElem?_eq_some_iff.1 hj).1]; exact hj)
set_option maxRecDepth 100000

set_option maxHeartbeats 1000000 in
theorem mul1_0 (w : World) : Calls Try.prog 192 #[.int .u64 1, .int .u64 0] w fun e w' => e = .returned (.tuple #[.int .u64 0, .int .u64 0]) ∧ w = w' := by
  have e1 : bits BinOp.and IntKind.u64 1 4294967295 = 1 := by decide
  have e2 : bits BinOp.and IntKind.u64 0 4294967295 = 0 := by decide
  have e3 : bits BinOp.and IntKind.u64 0 4294967295 = 0 := by decide
  have e4 : IntKind.u64.wrap 0 = 0 := by decide
  have e5 : IntKind.u64.wrap 0 = 0 := by decide
  have e6 : (0 : Int) / 4294967296 = 0 := by decide
  have e7 : IntKind.u64.wrap 1 = 1 := by decide
  have e8 : (0 : Int) / 4294967296 = 0 := by decide
  go_enter Try.func192, Try.ntmps192
  go_wp2
  go_ret2
  exact ⟨rfl, rfl⟩

set_option maxHeartbeats 2000000 in
theorem rep_0 (v : Int) (b o cap : Nat) (w : World) (hc : w.cell? ⟨b, o, none⟩ = some (.int .i64 v)) (hbl : b < w.heap.size) :
    Calls Try.prog 152 #[.slice (some ⟨b, o, none⟩) 1 cap, .int .i64 0] w fun e w' => e = .returned (.slice (some ⟨w.heap.size, 0, none⟩) 0 0) ∧ w'.heap[w.heap.size]? = some (.cells (List.replicate 0 (Value.int .i64 v)).toArray 3 (0, 0)) ∧ Below w.heap.size w w' := by
  have e4 : IntKind.u64.wrap 0 = 0 := by decide
  obtain ⟨i, hi⟩ : ∃ i, Try.prog.info? 3 = some i := Option.isSome_iff_exists.1 (by kernel_rfl)
  have hz : i.zero = some (.int .i64 0) := by
    have h : (Try.prog.info? 3).bind (·.zero) = some (.int .i64 0) := by kernel_rfl
    rw [hi] at h; simpa using h
  have hsz : i.size = 1 := by
    have h : (Try.prog.info? 3).map (·.size) = some 1 := by kernel_rfl
    rw [hi] at h; simpa using h
  have hby : i.bytes = 8 := by
    have h : (Try.prog.info? 3).map (·.bytes) = some 8 := by kernel_rfl
    rw [hi] at h; simpa using h
  obtain ⟨W1, hmk, g1, b1⟩ : ∃ W1, (Instr.makeSlice 22 (.int .i64 0) (.int .i64 0)).run Try.prog w = .ok (.slice (some ⟨w.heap.size, 0, none⟩) 0 0) W1 ∧ W1.heap[w.heap.size]? = some (.cells (List.replicate 0 (Value.int .i64 0)).toArray 3 (0, 0)) ∧ Below w.heap.size w W1 := by
    refine ⟨w.alloc (.cells (List.replicate 0 (Value.int .i64 0)).toArray 3), ?_, ?_, (Below.refl _ _).alloc (Nat.le_refl _) _⟩
    · rw [run_make (P := Try.prog) w 22 3 i _ Try.underlying22 hi hz .i64 .i64 0 0 (by decide) (by decide) (by rw [hby]; decide) (by decide), hsz, made1 _ _ rfl]
      rfl
    · unfold World.alloc; exact Array.getElem?_push_size
  clear hi hz hsz hby i
  have hc1 : W1.cell? ⟨b, o, none⟩ = some (.int .i64 v) := by rw [← hc]; unfold World.cell?; rw [b1.block b hbl]
  generalize w.heap.size = g at *
  obtain ⟨W2, c1, g2, b2⟩ := copyEq W1 (o := 0) (dLen := 0) (dCap := 0) (sLen := 1) (sCap := cap) (a := ⟨b, o, none⟩) (cs := []) g1 rfl (fun j v h => by simp at h) (by simp) (by simp)
  have g2 : W2.heap[g]? = some (.cells ([] : List Value).toArray 3 (0, 0)) := g2
  simp only [List.length_nil, List.length_cons, Nat.zero_add, Nat.reduceAdd] at c1
  have G : Aside (W2.heap[g]? = some (.cells (List.replicate 0 (Value.int .i64 v)).toArray 3 (0, 0)) ∧ Below g w W2) := ⟨g2, b1.trans b2⟩
  clear g1 g2 b1 b2 hc hc1 hbl
  have mixed := Try.checked.mixed
  go_enter Try.func152, Try.ntmps152
  go_wp2_with (go_at_call 192; refine (mul1_0 _).mono ?_; rintro e w' ⟨rfl, rfl⟩)
  refine wp_loop_rounds 2 ?_
  simp only [rounds_succ]
  go_wp2
  go_ret
  exact ⟨rfl, G.out⟩

set_option maxHeartbeats 1000000 in
theorem mul1_1 (w : World) : Calls Try.prog 192 #[.int .u64 1, .int .u64 1] w fun e w' => e = .returned (.tuple #[.int .u64 0, .int .u64 1]) ∧ w = w' := by
  have e1 : bits BinOp.and IntKind.u64 1 4294967295 = 1 := by decide
  have e2 : bits BinOp.and IntKind.u64 1 4294967295 = 1 := by decide
  have e3 : bits BinOp.and IntKind.u64 0 4294967295 = 0 := by decide
  have e4 : IntKind.u64.wrap 1 = 1 := by decide
  have e5 : IntKind.u64.wrap 0 = 0 := by decide
  have e6 : (1 : Int) / 4294967296 = 0 := by decide
  have e7 : IntKind.u64.wrap 1 = 1 := by decide
  have e8 : (0 : Int) / 4294967296 = 0 := by decide
  go_enter Try.func192, Try.ntmps192
  go_wp2
  go_ret2
  exact ⟨rfl, rfl⟩

set_option maxHeartbeats 2000000 in
theorem rep_1 (v : Int) (b o cap : Nat) (w : World) (hc : w.cell? ⟨b, o, none⟩ = some (.int .i64 v)) (hbl : b < w.heap.size) :
    Calls Try.prog 152 #[.slice (some ⟨b, o, none⟩) 1 cap, .int .i64 1] w fun e w' => e = .returned (.slice (some ⟨w.heap.size, 0, none⟩) 1 1) ∧ w'.heap[w.heap.size]? = some (.cells (List.replicate 1 (Value.int .i64 v)).toArray 3 (0, 0)) ∧ Below w.heap.size w w' := by
  have e4 : IntKind.u64.wrap 1 = 1 := by decide
  obtain ⟨i, hi⟩ : ∃ i, Try.prog.info? 3 = some i := Option.isSome_iff_exists.1 (by kernel_rfl)
  have hz : i.zero = some (.int .i64 0) := by
    have h : (Try.prog.info? 3).bind (·.zero) = some (.int .i64 0) := by kernel_rfl
    rw [hi] at h; simpa using h
  have hsz : i.size = 1 := by
    have h : (Try.prog.info? 3).map (·.size) = some 1 := by kernel_rfl
    rw [hi] at h; simpa using h
  have hby : i.bytes = 8 := by
    have h : (Try.prog.info? 3).map (·.bytes) = some 8 := by kernel_rfl
    rw [hi] at h; simpa using h
  obtain ⟨W1, hmk, g1, b1⟩ : ∃ W1, (Instr.makeSlice 22 (.int .i64 1) (.int .i64 1)).run Try.prog w = .ok (.slice (some ⟨w.heap.size, 0, none⟩) 1 1) W1 ∧ W1.heap[w.heap.size]? = some (.cells (List.replicate 1 (Value.int .i64 0)).toArray 3 (0, 0)) ∧ Below w.heap.size w W1 := by
    refine ⟨w.alloc (.cells (List.replicate 1 (Value.int .i64 0)).toArray 3), ?_, ?_, (Below.refl _ _).alloc (Nat.le_refl _) _⟩
    · rw [run_make (P := Try.prog) w 22 3 i _ Try.underlying22 hi hz .i64 .i64 1 1 (by decide) (by decide) (by rw [hby]; decide) (by decide), hsz, made1 _ _ rfl]
      rfl
    · unfold World.alloc; exact Array.getElem?_push_size
  clear hi hz hsz hby i
  have hc1 : W1.cell? ⟨b, o, none⟩ = some (.int .i64 v) := by rw [← hc]; unfold World.cell?; rw [b1.block b hbl]
  generalize w.heap.size = g at *
  obtain ⟨W2, c1, g2, b2⟩ := copyEq W1 (o := 0) (dLen := 1) (dCap := 1) (sLen := 1) (sCap := cap) (cs := [.int .i64 v]) g1 rfl (src_one hc1) (by simp) (by simp [Value.oneCell'])
  have g2 : W2.heap[g]? = some (.cells ([.int .i64 v] : List Value).toArray 3 (0, 0)) := g2
  simp only [List.length_nil, List.length_cons, Nat.zero_add, Nat.reduceAdd] at c1
  have G : Aside (W2.heap[g]? = some (.cells (List.replicate 1 (Value.int .i64 v)).toArray 3 (0, 0)) ∧ Below g w W2) := ⟨g2, b1.trans b2⟩
  clear g1 g2 b1 b2 hc hc1 hbl
  have mixed := Try.checked.mixed
  go_enter Try.func152, Try.ntmps152
  go_wp2_with (go_at_call 192; refine (mul1_1 _).mono ?_; rintro e w' ⟨rfl, rfl⟩)
  refine wp_loop_rounds 2 ?_
  simp only [rounds_succ]
  go_wp2
  go_ret
  exact ⟨rfl, G.out⟩

set_option maxHeartbeats 1000000 in
theorem mul1_2 (w : World) : Calls Try.prog 192 #[.int .u64 1, .int .u64 2] w fun e w' => e = .returned (.tuple #[.int .u64 0, .int .u64 2]) ∧ w = w' := by
  have e1 : bits BinOp.and IntKind.u64 1 4294967295 = 1 := by decide
  have e2 : bits BinOp.and IntKind.u64 2 4294967295 = 2 := by decide
  have e3 : bits BinOp.and IntKind.u64 0 4294967295 = 0 := by decide
  have e4 : IntKind.u64.wrap 2 = 2 := by decide
  have e5 : IntKind.u64.wrap 0 = 0 := by decide
  have e6 : (2 : Int) / 4294967296 = 0 := by decide
  have e7 : IntKind.u64.wrap 1 = 1 := by decide
  have e8 : (0 : Int) / 4294967296 = 0 := by decide
  go_enter Try.func192, Try.ntmps192
  go_wp2
  go_ret2
  exact ⟨rfl, rfl⟩

set_option maxHeartbeats 2000000 in
theorem rep_2 (v : Int) (b o cap : Nat) (w : World) (hc : w.cell? ⟨b, o, none⟩ = some (.int .i64 v)) (hbl : b < w.heap.size) :
    Calls Try.prog 152 #[.slice (some ⟨b, o, none⟩) 1 cap, .int .i64 2] w fun e w' => e = .returned (.slice (some ⟨w.heap.size, 0, none⟩) 2 2) ∧ w'.heap[w.heap.size]? = some (.cells (List.replicate 2 (Value.int .i64 v)).toArray 3 (0, 0)) ∧ Below w.heap.size w w' := by
  have e4 : IntKind.u64.wrap 2 = 2 := by decide
  obtain ⟨i, hi⟩ : ∃ i, Try.prog.info? 3 = some i := Option.isSome_iff_exists.1 (by kernel_rfl)
  have hz : i.zero = some (.int .i64 0) := by
    have h : (Try.prog.info? 3).bind (·.zero) = some (.int .i64 0) := by kernel_rfl
    rw [hi] at h; simpa using h
  have hsz : i.size = 1 := by
    have h : (Try.prog.info? 3).map (·.size) = some 1 := by kernel_rfl
    rw [hi] at h; simpa using h
  have hby : i.bytes = 8 := by
    have h : (Try.prog.info? 3).map (·.bytes) = some 8 := by kernel_rfl
    rw [hi] at h; simpa using h
  obtain ⟨W1, hmk, g1, b1⟩ : ∃ W1, (Instr.makeSlice 22 (.int .i64 2) (.int .i64 2)).run Try.prog w = .ok (.slice (some ⟨w.heap.size, 0, none⟩) 2 2) W1 ∧ W1.heap[w.heap.size]? = some (.cells (List.replicate 2 (Value.int .i64 0)).toArray 3 (0, 0)) ∧ Below w.heap.size w W1 := by
    refine ⟨w.alloc (.cells (List.replicate 2 (Value.int .i64 0)).toArray 3), ?_, ?_, (Below.refl _ _).alloc (Nat.le_refl _) _⟩
    · rw [run_make (P := Try.prog) w 22 3 i _ Try.underlying22 hi hz .i64 .i64 2 2 (by decide) (by decide) (by rw [hby]; decide) (by decide), hsz, made1 _ _ rfl]
      rfl
    · unfold World.alloc; exact Array.getElem?_push_size
  clear hi hz hsz hby i
  have hc1 : W1.cell? ⟨b, o, none⟩ = some (.int .i64 v) := by rw [← hc]; unfold World.cell?; rw [b1.block b hbl]
  generalize w.heap.size = g at *
  obtain ⟨W2, c1, g2, b2⟩ := copyEq W1 (o := 0) (dLen := 2) (dCap := 2) (sLen := 1) (sCap := cap) (cs := [.int .i64 v]) g1 rfl (src_one hc1) (by simp) (by simp [Value.oneCell'])
  have g2 : W2.heap[g]? = some (.cells ([.int .i64 v, .int .i64 0] : List Value).toArray 3 (0, 0)) := g2
  obtain ⟨W3, c2, g3, b3⟩ := copyEq W2.drew (o := 1) (dLen := 1) (dCap := 1) (sLen := 1) (sCap := 2) (a := ⟨g, 0, none⟩) (cs := [.int .i64 v]) g2 rfl (src_row (cs := [.int .i64 v]) (rest := [.int .i64 0]) g2) (by simp) (by simp [Value.oneCell'])
  have g3 : W3.heap[g]? = some (.cells ([.int .i64 v, .int .i64 v] : List Value).toArray 3 (0, 0)) := g3
  simp only [List.length_nil, List.length_cons, Nat.zero_add, Nat.reduceAdd] at c1 c2
  have G : Aside (W3.heap[g]? = some (.cells (List.replicate 2 (Value.int .i64 v)).toArray 3 (0, 0)) ∧ Below g w W3) := ⟨g3, (b1.trans b2).drew.trans b3⟩
  clear g1 g2 g3 b1 b2 b3 hc hc1 hbl
  have mixed := Try.checked.mixed
  go_enter Try.func152, Try.ntmps152
  go_wp2_with (go_at_call 192; refine (mul1_2 _).mono ?_; rintro e w' ⟨rfl, rfl⟩)
  refine wp_loop_rounds 3 ?_
  simp only [rounds_succ]
  go_wp2
  go_region_law_o (refine step_copy_runI rfl _ _ 22 22 rfl _ _ (by simp [Act.eval, Act.put]) (by simp [Act.eval, Act.put]) c2 ?_)
  go_wp2
  simp only [rounds_succ]
  go_wp2
  go_ret
  exact ⟨rfl, G.out⟩

set_option maxHeartbeats 1000000 in
theorem mul1_3 (w : World) : Calls Try.prog 192 #[.int .u64 1, .int .u64 3] w fun e w' => e = .returned (.tuple #[.int .u64 0, .int .u64 3]) ∧ w = w' := by
  have e1 : bits BinOp.and IntKind.u64 1 4294967295 = 1 := by decide
  have e2 : bits BinOp.and IntKind.u64 3 4294967295 = 3 := by decide
  have e3 : bits BinOp.and IntKind.u64 0 4294967295 = 0 := by decide
  have e4 : IntKind.u64.wrap 3 = 3 := by decide
  have e5 : IntKind.u64.wrap 0 = 0 := by decide
  have e6 : (3 : Int) / 4294967296 = 0 := by decide
  have e7 : IntKind.u64.wrap 1 = 1 := by decide
  have e8 : (0 : Int) / 4294967296 = 0 := by decide
  go_enter Try.func192, Try.ntmps192
  go_wp2
  go_ret2
  exact ⟨rfl, rfl⟩

set_option maxHeartbeats 2000000 in
theorem rep_3 (v : Int) (b o cap : Nat) (w : World) (hc : w.cell? ⟨b, o, none⟩ = some (.int .i64 v)) (hbl : b < w.heap.size) :
    Calls Try.prog 152 #[.slice (some ⟨b, o, none⟩) 1 cap, .int .i64 3] w fun e w' => e = .returned (.slice (some ⟨w.heap.size, 0, none⟩) 3 3) ∧ w'.heap[w.heap.size]? = some (.cells (List.replicate 3 (Value.int .i64 v)).toArray 3 (0, 0)) ∧ Below w.heap.size w w' := by
  have e4 : IntKind.u64.wrap 3 = 3 := by decide
  obtain ⟨i, hi⟩ : ∃ i, Try.prog.info? 3 = some i := Option.isSome_iff_exists.1 (by kernel_rfl)
  have hz : i.zero = some (.int .i64 0) := by
    have h : (Try.prog.info? 3).bind (·.zero) = some (.int .i64 0) := by kernel_rfl
    rw [hi] at h; simpa using h
  have hsz : i.size = 1 := by
    have h : (Try.prog.info? 3).map (·.size) = some 1 := by kernel_rfl
    rw [hi] at h; simpa using h
  have hby : i.bytes = 8 := by
    have h : (Try.prog.info? 3).map (·.bytes) = some 8 := by kernel_rfl
    rw [hi] at h; simpa using h
  obtain ⟨W1, hmk, g1, b1⟩ : ∃ W1, (Instr.makeSlice 22 (.int .i64 3) (.int .i64 3)).run Try.prog w = .ok (.slice (some ⟨w.heap.size, 0, none⟩) 3 3) W1 ∧ W1.heap[w.heap.size]? = some (.cells (List.replicate 3 (Value.int .i64 0)).toArray 3 (0, 0)) ∧ Below w.heap.size w W1 := by
    refine ⟨w.alloc (.cells (List.replicate 3 (Value.int .i64 0)).toArray 3), ?_, ?_, (Below.refl _ _).alloc (Nat.le_refl _) _⟩
    · rw [run_make (P := Try.prog) w 22 3 i _ Try.underlying22 hi hz .i64 .i64 3 3 (by decide) (by decide) (by rw [hby]; decide) (by decide), hsz, made1 _ _ rfl]
      rfl
    · unfold World.alloc; exact Array.getElem?_push_size
  clear hi hz hsz hby i
  have hc1 : W1.cell? ⟨b, o, none⟩ = some (.int .i64 v) := by rw [← hc]; unfold World.cell?; rw [b1.block b hbl]
  generalize w.heap.size = g at *
  obtain ⟨W2, c1, g2, b2⟩ := copyEq W1 (o := 0) (dLen := 3) (dCap := 3) (sLen := 1) (sCap := cap) (cs := [.int .i64 v]) g1 rfl (src_one hc1) (by simp) (by simp [Value.oneCell'])
  have g2 : W2.heap[g]? = some (.cells ([.int .i64 v, .int .i64 0, .int .i64 0] : List Value).toArray 3 (0, 0)) := g2
  obtain ⟨W3, c2, g3, b3⟩ := copyEq W2.drew (o := 1) (dLen := 2) (dCap := 2) (sLen := 1) (sCap := 3) (a := ⟨g, 0, none⟩) (cs := [.int .i64 v]) g2 rfl (src_row (cs := [.int .i64 v]) (rest := [.int .i64 0, .int .i64 0]) g2) (by simp) (by simp [Value.oneCell'])
  have g3 : W3.heap[g]? = some (.cells ([.int .i64 v, .int .i64 v, .int .i64 0] : List Value).toArray 3 (0, 0)) := g3
  obtain ⟨W4, c3, g4, b4⟩ := copyEq W3.drew (o := 2) (dLen := 1) (dCap := 1) (sLen := 2) (sCap := 3) (a := ⟨g, 0, none⟩) (cs := [.int .i64 v]) g3 rfl (src_row (cs := [.int .i64 v]) (rest := [.int .i64 v, .int .i64 0]) g3) (by simp) (by simp [Value.oneCell'])
  have g4 : W4.heap[g]? = some (.cells ([.int .i64 v, .int .i64 v, .int .i64 v] : List Value).toArray 3 (0, 0)) := g4
  simp only [List.length_nil, List.length_cons, Nat.zero_add, Nat.reduceAdd] at c1 c2 c3
  have G : Aside (W4.heap[g]? = some (.cells (List.replicate 3 (Value.int .i64 v)).toArray 3 (0, 0)) ∧ Below g w W4) := ⟨g4, ((b1.trans b2).drew.trans b3).drew.trans b4⟩
  clear g1 g2 g3 g4 b1 b2 b3 b4 hc hc1 hbl
  have mixed := Try.checked.mixed
  go_enter Try.func152, Try.ntmps152
  go_wp2_with (go_at_call 192; refine (mul1_3 _).mono ?_; rintro e w' ⟨rfl, rfl⟩)
  refine wp_loop_rounds 4 ?_
  simp only [rounds_succ]
  go_wp2
  go_region_law_o (refine step_copy_runI rfl _ _ 22 22 rfl _ _ (by simp [Act.eval, Act.put]) (by simp [Act.eval, Act.put]) c2 ?_)
  go_wp2
  simp only [rounds_succ]
  go_wp2
  go_region_law_o (refine step_copy_runI rfl _ _ 22 22 rfl _ _ (by simp [Act.eval, Act.put]) (by simp [Act.eval, Act.put]) c3 ?_)
  go_wp2
  simp only [rounds_succ]
  go_wp2
  go_ret
  exact ⟨rfl, G.out⟩

set_option maxHeartbeats 1000000 in
theorem mul1_4 (w : World) : Calls Try.prog 192 #[.int .u64 1, .int .u64 4] w fun e w' => e = .returned (.tuple #[.int .u64 0, .int .u64 4]) ∧ w = w' := by
  have e1 : bits BinOp.and IntKind.u64 1 4294967295 = 1 := by decide
  have e2 : bits BinOp.and IntKind.u64 4 4294967295 = 4 := by decide
  have e3 : bits BinOp.and IntKind.u64 0 4294967295 = 0 := by decide
  have e4 : IntKind.u64.wrap 4 = 4 := by decide
  have e5 : IntKind.u64.wrap 0 = 0 := by decide
  have e6 : (4 : Int) / 4294967296 = 0 := by decide
  have e7 : IntKind.u64.wrap 1 = 1 := by decide
  have e8 : (0 : Int) / 4294967296 = 0 := by decide
  go_enter Try.func192, Try.ntmps192
  go_wp2
  go_ret2
  exact ⟨rfl, rfl⟩

set_option maxHeartbeats 2000000 in
theorem rep_4 (v : Int) (b o cap : Nat) (w : World) (hc : w.cell? ⟨b, o, none⟩ = some (.int .i64 v)) (hbl : b < w.heap.size) :
    Calls Try.prog 152 #[.slice (some ⟨b, o, none⟩) 1 cap, .int .i64 4] w fun e w' => e = .returned (.slice (some ⟨w.heap.size, 0, none⟩) 4 4) ∧ w'.heap[w.heap.size]? = some (.cells (List.replicate 4 (Value.int .i64 v)).toArray 3 (0, 0)) ∧ Below w.heap.size w w' := by
  have e4 : IntKind.u64.wrap 4 = 4 := by decide
  obtain ⟨i, hi⟩ : ∃ i, Try.prog.info? 3 = some i := Option.isSome_iff_exists.1 (by kernel_rfl)
  have hz : i.zero = some (.int .i64 0) := by
    have h : (Try.prog.info? 3).bind (·.zero) = some (.int .i64 0) := by kernel_rfl
    rw [hi] at h; simpa using h
  have hsz : i.size = 1 := by
    have h : (Try.prog.info? 3).map (·.size) = some 1 := by kernel_rfl
    rw [hi] at h; simpa using h
  have hby : i.bytes = 8 := by
    have h : (Try.prog.info? 3).map (·.bytes) = some 8 := by kernel_rfl
    rw [hi] at h; simpa using h
  obtain ⟨W1, hmk, g1, b1⟩ : ∃ W1, (Instr.makeSlice 22 (.int .i64 4) (.int .i64 4)).run Try.prog w = .ok (.slice (some ⟨w.heap.size, 0, none⟩) 4 4) W1 ∧ W1.heap[w.heap.size]? = some (.cells (List.replicate 4 (Value.int .i64 0)).toArray 3 (0, 0)) ∧ Below w.heap.size w W1 := by
    refine ⟨w.alloc (.cells (List.replicate 4 (Value.int .i64 0)).toArray 3), ?_, ?_, (Below.refl _ _).alloc (Nat.le_refl _) _⟩
    · rw [run_make (P := Try.prog) w 22 3 i _ Try.underlying22 hi hz .i64 .i64 4 4 (by decide) (by decide) (by rw [hby]; decide) (by decide), hsz, made1 _ _ rfl]
      rfl
    · unfold World.alloc; exact Array.getElem?_push_size
  clear hi hz hsz hby i
  have hc1 : W1.cell? ⟨b, o, none⟩ = some (.int .i64 v) := by rw [← hc]; unfold World.cell?; rw [b1.block b hbl]
  generalize w.heap.size = g at *
  obtain ⟨W2, c1, g2, b2⟩ := copyEq W1 (o := 0) (dLen := 4) (dCap := 4) (sLen := 1) (sCap := cap) (cs := [.int .i64 v]) g1 rfl (src_one hc1) (by simp) (by simp [Value.oneCell'])
  have g2 : W2.heap[g]? = some (.cells ([.int .i64 v, .int .i64 0, .int .i64 0, .int .i64 0] : List Value).toArray 3 (0, 0)) := g2
  obtain ⟨W3, c2, g3, b3⟩ := copyEq W2.drew (o := 1) (dLen := 3) (dCap := 3) (sLen := 1) (sCap := 4) (a := ⟨g, 0, none⟩) (cs := [.int .i64 v]) g2 rfl (src_row (cs := [.int .i64 v]) (rest := [.int .i64 0, .int .i64 0, .int .i64 0]) g2) (by simp) (by simp [Value.oneCell'])
  have g3 : W3.heap[g]? = some (.cells ([.int .i64 v, .int .i64 v, .int .i64 0, .int .i64 0] : List Value).toArray 3 (0, 0)) := g3
  obtain ⟨W4, c3, g4, b4⟩ := copyEq W3.drew (o := 2) (dLen := 2) (dCap := 2) (sLen := 2) (sCap := 4) (a := ⟨g, 0, none⟩) (cs := [.int .i64 v, .int .i64 v]) g3 rfl (src_row (cs := [.int .i64 v, .int .i64 v]) (rest := [.int .i64 0, .int .i64 0]) g3) (by simp) (by simp [Value.oneCell'])
  have g4 : W4.heap[g]? = some (.cells ([.int .i64 v, .int .i64 v, .int .i64 v, .int .i64 v] : List Value).toArray 3 (0, 0)) := g4
  simp only [List.length_nil, List.length_cons, Nat.zero_add, Nat.reduceAdd] at c1 c2 c3
  have G : Aside (W4.heap[g]? = some (.cells (List.replicate 4 (Value.int .i64 v)).toArray 3 (0, 0)) ∧ Below g w W4) := ⟨g4, ((b1.trans b2).drew.trans b3).drew.trans b4⟩
  clear g1 g2 g3 g4 b1 b2 b3 b4 hc hc1 hbl
  have mixed := Try.checked.mixed
  go_enter Try.func152, Try.ntmps152
  go_wp2_with (go_at_call 192; refine (mul1_4 _).mono ?_; rintro e w' ⟨rfl, rfl⟩)
  refine wp_loop_rounds 4 ?_
  simp only [rounds_succ]
  go_wp2
  go_region_law_o (refine step_copy_runI rfl _ _ 22 22 rfl _ _ (by simp [Act.eval, Act.put]) (by simp [Act.eval, Act.put]) c2 ?_)
  go_wp2
  simp only [rounds_succ]
  go_wp2
  go_region_law_o (refine step_copy_runI rfl _ _ 22 22 rfl _ _ (by simp [Act.eval, Act.put]) (by simp [Act.eval, Act.put]) c3 ?_)
  go_wp2
  simp only [rounds_succ]
  go_wp2
  go_ret
  exact ⟨rfl, G.out⟩

set_option maxHeartbeats 1000000 in
theorem mul1_5 (w : World) : Calls Try.prog 192 #[.int .u64 1, .int .u64 5] w fun e w' => e = .returned (.tuple #[.int .u64 0, .int .u64 5]) ∧ w = w' := by
  have e1 : bits BinOp.and IntKind.u64 1 4294967295 = 1 := by decide
  have e2 : bits BinOp.and IntKind.u64 5 4294967295 = 5 := by decide
  have e3 : bits BinOp.and IntKind.u64 0 4294967295 = 0 := by decide
  have e4 : IntKind.u64.wrap 5 = 5 := by decide
  have e5 : IntKind.u64.wrap 0 = 0 := by decide
  have e6 : (5 : Int) / 4294967296 = 0 := by decide
  have e7 : IntKind.u64.wrap 1 = 1 := by decide
  have e8 : (0 : Int) / 4294967296 = 0 := by decide
  go_enter Try.func192, Try.ntmps192
  go_wp2
  go_ret2
  exact ⟨rfl, rfl⟩

set_option maxHeartbeats 2000000 in
theorem rep_5 (v : Int) (b o cap : Nat) (w : World) (hc : w.cell? ⟨b, o, none⟩ = some (.int .i64 v)) (hbl : b < w.heap.size) :
    Calls Try.prog 152 #[.slice (some ⟨b, o, none⟩) 1 cap, .int .i64 5] w fun e w' => e = .returned (.slice (some ⟨w.heap.size, 0, none⟩) 5 5) ∧ w'.heap[w.heap.size]? = some (.cells (List.replicate 5 (Value.int .i64 v)).toArray 3 (0, 0)) ∧ Below w.heap.size w w' := by
  have e4 : IntKind.u64.wrap 5 = 5 := by decide
  obtain ⟨i, hi⟩ : ∃ i, Try.prog.info? 3 = some i := Option.isSome_iff_exists.1 (by kernel_rfl)
  have hz : i.zero = some (.int .i64 0) := by
    have h : (Try.prog.info? 3).bind (·.zero) = some (.int .i64 0) := by kernel_rfl
    rw [hi] at h; simpa using h
  have hsz : i.size = 1 := by
    have h : (Try.prog.info? 3).map (·.size) = some 1 := by kernel_rfl
    rw [hi] at h; simpa using h
  have hby : i.bytes = 8 := by
    have h : (Try.prog.info? 3).map (·.bytes) = some 8 := by kernel_rfl
    rw [hi] at h; simpa using h
  obtain ⟨W1, hmk, g1, b1⟩ : ∃ W1, (Instr.makeSlice 22 (.int .i64 5) (.int .i64 5)).run Try.prog w = .ok (.slice (some ⟨w.heap.size, 0, none⟩) 5 5) W1 ∧ W1.heap[w.heap.size]? = some (.cells (List.replicate 5 (Value.int .i64 0)).toArray 3 (0, 0)) ∧ Below w.heap.size w W1 := by
    refine ⟨w.alloc (.cells (List.replicate 5 (Value.int .i64 0)).toArray 3), ?_, ?_, (Below.refl _ _).alloc (Nat.le_refl _) _⟩
    · rw [run_make (P := Try.prog) w 22 3 i _ Try.underlying22 hi hz .i64 .i64 5 5 (by decide) (by decide) (by rw [hby]; decide) (by decide), hsz, made1 _ _ rfl]
      rfl
    · unfold World.alloc; exact Array.getElem?_push_size
  clear hi hz hsz hby i
  have hc1 : W1.cell? ⟨b, o, none⟩ = some (.int .i64 v) := by rw [← hc]; unfold World.cell?; rw [b1.block b hbl]
  generalize w.heap.size = g at *
  obtain ⟨W2, c1, g2, b2⟩ := copyEq W1 (o := 0) (dLen := 5) (dCap := 5) (sLen := 1) (sCap := cap) (cs := [.int .i64 v]) g1 rfl (src_one hc1) (by simp) (by simp [Value.oneCell'])
  have g2 : W2.heap[g]? = some (.cells ([.int .i64 v, .int .i64 0, .int .i64 0, .int .i64 0, .int .i64 0] : List Value).toArray 3 (0, 0)) := g2
  obtain ⟨W3, c2, g3, b3⟩ := copyEq W2.drew (o := 1) (dLen := 4) (dCap := 4) (sLen := 1) (sCap := 5) (a := ⟨g, 0, none⟩) (cs := [.int .i64 v]) g2 rfl (src_row (cs := [.int .i64 v]) (rest := [.int .i64 0, .int .i64 0, .int .i64 0, .int .i64 0]) g2) (by simp) (by simp [Value.oneCell'])
  have g3 : W3.heap[g]? = some (.cells ([.int .i64 v, .int .i64 v, .int .i64 0, .int .i64 0, .int .i64 0] : List Value).toArray 3 (0, 0)) := g3
  obtain ⟨W4, c3, g4, b4⟩ := copyEq W3.drew (o := 2) (dLen := 3) (dCap := 3) (sLen := 2) (sCap := 5) (a := ⟨g, 0, none⟩) (cs := [.int .i64 v, .int .i64 v]) g3 rfl (src_row (cs := [.int .i64 v, .int .i64 v]) (rest := [.int .i64 0, .int .i64 0, .int .i64 0]) g3) (by simp) (by simp [Value.oneCell'])
  have g4 : W4.heap[g]? = some (.cells ([.int .i64 v, .int .i64 v, .int .i64 v, .int .i64 v, .int .i64 0] : List Value).toArray 3 (0, 0)) := g4
  obtain ⟨W5, c4, g5, b5⟩ := copyEq W4.drew (o := 4) (dLen := 1) (dCap := 1) (sLen := 4) (sCap := 5) (a := ⟨g, 0, none⟩) (cs := [.int .i64 v]) g4 rfl (src_row (cs := [.int .i64 v]) (rest := [.int .i64 v, .int .i64 v, .int .i64 v, .int .i64 0]) g4) (by simp) (by simp [Value.oneCell'])
  have g5 : W5.heap[g]? = some (.cells ([.int .i64 v, .int .i64 v, .int .i64 v, .int .i64 v, .int .i64 v] : List Value).toArray 3 (0, 0)) := g5
  simp only [List.length_nil, List.length_cons, Nat.zero_add, Nat.reduceAdd] at c1 c2 c3 c4
  have G : Aside (W5.heap[g]? = some (.cells (List.replicate 5 (Value.int .i64 v)).toArray 3 (0, 0)) ∧ Below g w W5) := ⟨g5, (((b1.trans b2).drew.trans b3).drew.trans b4).drew.trans b5⟩
  clear g1 g2 g3 g4 g5 b1 b2 b3 b4 b5 hc hc1 hbl
  have mixed := Try.checked.mixed
  go_enter Try.func152, Try.ntmps152
  go_wp2_with (go_at_call 192; refine (mul1_5 _).mono ?_; rintro e w' ⟨rfl, rfl⟩)
  refine wp_loop_rounds 5 ?_
  simp only [rounds_succ]
  go_wp2
  go_region_law_o (refine step_copy_runI rfl _ _ 22 22 rfl _ _ (by simp [Act.eval, Act.put]) (by simp [Act.eval, Act.put]) c2 ?_)
  go_wp2
  simp only [rounds_succ]
  go_wp2
  go_region_law_o (refine step_copy_runI rfl _ _ 22 22 rfl _ _ (by simp [Act.eval, Act.put]) (by simp [Act.eval, Act.put]) c3 ?_)
  go_wp2
  simp only [rounds_succ]
  go_wp2
  go_region_law_o (refine step_copy_runI rfl _ _ 22 22 rfl _ _ (by simp [Act.eval, Act.put]) (by simp [Act.eval, Act.put]) c4 ?_)
  go_wp2
  simp only [rounds_succ]
  go_wp2
  go_ret
  exact ⟨rfl, G.out⟩

set_option maxHeartbeats 1000000 in
theorem mul1_6 (w : World) : Calls Try.prog 192 #[.int .u64 1, .int .u64 6] w fun e w' => e = .returned (.tuple #[.int .u64 0, .int .u64 6]) ∧ w = w' := by
  have e1 : bits BinOp.and IntKind.u64 1 4294967295 = 1 := by decide
  have e2 : bits BinOp.and IntKind.u64 6 4294967295 = 6 := by decide
  have e3 : bits BinOp.and IntKind.u64 0 4294967295 = 0 := by decide
  have e4 : IntKind.u64.wrap 6 = 6 := by decide
  have e5 : IntKind.u64.wrap 0 = 0 := by decide
  have e6 : (6 : Int) / 4294967296 = 0 := by decide
  have e7 : IntKind.u64.wrap 1 = 1 := by decide
  have e8 : (0 : Int) / 4294967296 = 0 := by decide
  go_enter Try.func192, Try.ntmps192
  go_wp2
  go_ret2
  exact ⟨rfl, rfl⟩

set_option maxHeartbeats 2000000 in
theorem rep_6 (v : Int) (b o cap : Nat) (w : World) (hc : w.cell? ⟨b, o, none⟩ = some (.int .i64 v)) (hbl : b < w.heap.size) :
    Calls Try.prog 152 #[.slice (some ⟨b, o, none⟩) 1 cap, .int .i64 6] w fun e w' => e = .returned (.slice (some ⟨w.heap.size, 0, none⟩) 6 6) ∧ w'.heap[w.heap.size]? = some (.cells (List.replicate 6 (Value.int .i64 v)).toArray 3 (0, 0)) ∧ Below w.heap.size w w' := by
  have e4 : IntKind.u64.wrap 6 = 6 := by decide
  obtain ⟨i, hi⟩ : ∃ i, Try.prog.info? 3 = some i := Option.isSome_iff_exists.1 (by kernel_rfl)
  have hz : i.zero = some (.int .i64 0) := by
    have h : (Try.prog.info? 3).bind (·.zero) = some (.int .i64 0) := by kernel_rfl
    rw [hi] at h; simpa using h
  have hsz : i.size = 1 := by
    have h : (Try.prog.info? 3).map (·.size) = some 1 := by kernel_rfl
    rw [hi] at h; simpa using h
  have hby : i.bytes = 8 := by
    have h : (Try.prog.info? 3).map (·.bytes) = some 8 := by kernel_rfl
    rw [hi] at h; simpa using h
  obtain ⟨W1, hmk, g1, b1⟩ : ∃ W1, (Instr.makeSlice 22 (.int .i64 6) (.int .i64 6)).run Try.prog w = .ok (.slice (some ⟨w.heap.size, 0, none⟩) 6 6) W1 ∧ W1.heap[w.heap.size]? = some (.cells (List.replicate 6 (Value.int .i64 0)).toArray 3 (0, 0)) ∧ Below w.heap.size w W1 := by
    refine ⟨w.alloc (.cells (List.replicate 6 (Value.int .i64 0)).toArray 3), ?_, ?_, (Below.refl _ _).alloc (Nat.le_refl _) _⟩
    · rw [run_make (P := Try.prog) w 22 3 i _ Try.underlying22 hi hz .i64 .i64 6 6 (by decide) (by decide) (by rw [hby]; decide) (by decide), hsz, made1 _ _ rfl]
      rfl
    · unfold World.alloc; exact Array.getElem?_push_size
  clear hi hz hsz hby i
  have hc1 : W1.cell? ⟨b, o, none⟩ = some (.int .i64 v) := by rw [← hc]; unfold World.cell?; rw [b1.block b hbl]
  generalize w.heap.size = g at *
  obtain ⟨W2, c1, g2, b2⟩ := copyEq W1 (o := 0) (dLen := 6) (dCap := 6) (sLen := 1) (sCap := cap) (cs := [.int .i64 v]) g1 rfl (src_one hc1) (by simp) (by simp [Value.oneCell'])
  have g2 : W2.heap[g]? = some (.cells ([.int .i64 v, .int .i64 0, .int .i64 0, .int .i64 0, .int .i64 0, .int .i64 0] : List Value).toArray 3 (0, 0)) := g2
  obtain ⟨W3, c2, g3, b3⟩ := copyEq W2.drew (o := 1) (dLen := 5) (dCap := 5) (sLen := 1) (sCap := 6) (a := ⟨g, 0, none⟩) (cs := [.int .i64 v]) g2 rfl (src_row (cs := [.int .i64 v]) (rest := [.int .i64 0, .int .i64 0, .int .i64 0, .int .i64 0, .int .i64 0]) g2) (by simp) (by simp [Value.oneCell'])
  have g3 : W3.heap[g]? = some (.cells ([.int .i64 v, .int .i64 v, .int .i64 0, .int .i64 0, .int .i64 0, .int .i64 0] : List Value).toArray 3 (0, 0)) := g3
  obtain ⟨W4, c3, g4, b4⟩ := copyEq W3.drew (o := 2) (dLen := 4) (dCap := 4) (sLen := 2) (sCap := 6) (a := ⟨g, 0, none⟩) (cs := [.int .i64 v, .int .i64 v]) g3 rfl (src_row (cs := [.int .i64 v, .int .i64 v]) (rest := [.int .i64 0, .int .i64 0, .int .i64 0, .int .i64 0]) g3) (by simp) (by simp [Value.oneCell'])
  have g4 : W4.heap[g]? = some (.cells ([.int .i64 v, .int .i64 v, .int .i64 v, .int .i64 v, .int .i64 0, .int .i64 0] : List Value).toArray 3 (0, 0)) := g4
  obtain ⟨W5, c4, g5, b5⟩ := copyEq W4.drew (o := 4) (dLen := 2) (dCap := 2) (sLen := 4) (sCap := 6) (a := ⟨g, 0, none⟩) (cs := [.int .i64 v, .int .i64 v]) g4 rfl (src_row (cs := [.int .i64 v, .int .i64 v]) (rest := [.int .i64 v, .int .i64 v, .int .i64 0, .int .i64 0]) g4) (by simp) (by simp [Value.oneCell'])
  have g5 : W5.heap[g]? = some (.cells ([.int .i64 v, .int .i64 v, .int .i64 v, .int .i64 v, .int .i64 v, .int .i64 v] : List Value).toArray 3 (0, 0)) := g5
  simp only [List.length_nil, List.length_cons, Nat.zero_add, Nat.reduceAdd] at c1 c2 c3 c4
  have G : Aside (W5.heap[g]? = some (.cells (List.replicate 6 (Value.int .i64 v)).toArray 3 (0, 0)) ∧ Below g w W5) := ⟨g5, (((b1.trans b2).drew.trans b3).drew.trans b4).drew.trans b5⟩
  clear g1 g2 g3 g4 g5 b1 b2 b3 b4 b5 hc hc1 hbl
  have mixed := Try.checked.mixed
  go_enter Try.func152, Try.ntmps152
  go_wp2_with (go_at_call 192; refine (mul1_6 _).mono ?_; rintro e w' ⟨rfl, rfl⟩)
  refine wp_loop_rounds 5 ?_
  simp only [rounds_succ]
  go_wp2
  go_region_law_o (refine step_copy_runI rfl _ _ 22 22 rfl _ _ (by simp [Act.eval, Act.put]) (by simp [Act.eval, Act.put]) c2 ?_)
  go_wp2
  simp only [rounds_succ]
  go_wp2
  go_region_law_o (refine step_copy_runI rfl _ _ 22 22 rfl _ _ (by simp [Act.eval, Act.put]) (by simp [Act.eval, Act.put]) c3 ?_)
  go_wp2
  simp only [rounds_succ]
  go_wp2
  go_region_law_o (refine step_copy_runI rfl _ _ 22 22 rfl _ _ (by simp [Act.eval, Act.put]) (by simp [Act.eval, Act.put]) c4 ?_)
  go_wp2
  simp only [rounds_succ]
  go_wp2
  go_ret
  exact ⟨rfl, G.out⟩


theorem row_rep {w : World} {g c : Nat} {v : Int} (hg : w.heap[g]? = some (.cells (List.replicate c (Value.int .i64 v)).toArray 3 (0, 0))) : Row w g 0 1 (List.replicate c (.int .i64 v)) := by
  intro i x hx
  have hi : i < c := by have := (List.getElem?_eq_some_iff.1 hx).1; simpa using this
  rw [List.getElem?_replicate, if_pos hi] at hx
  injection hx with hx
  subst hx
  refine ⟨rfl, fun j u hu => ?_⟩
  have hj : j = 0 := by
    have := (Array.getElem?_eq_some_iff.1 hu).1
    simp [Value.cells] at this
    omega
  subst hj
  have : u = .int .i64 v := by simpa [Value.cells] using hu.symm
  subst this
  refine ⟨rfl, ?_⟩
  rw [Nat.zero_add, Nat.mul_one, Nat.add_zero]
  exact cell_at hg (by rw [List.getElem?_replicate, if_pos hi])

theorem repeatI_pc (v c : Int) (h0 : 0 ≤ c) (h6 : c ≤ 6) : PC Try.prog 152 [IL [v], I64 c] none true (fun r _ => r = IO1 (List.replicate c.toNat v)) := by
  refine ⟨⟨_, Try.func152, by kernel_rfl, by kernel_rfl⟩, fun w vs F B hF hl hr hio => ?_⟩
  obtain ⟨v1, v2, rfl⟩ : ∃ v1 v2, vs = [v1, v2] := by
    match vs, hl with
    | [a, b], _ => exact ⟨a, b, rfl⟩
  have r1 := hr 0 _ v1 rfl rfl
  have r2 := hr 1 _ v2 rfl rfl
  have r1 : Rep w F (IL [v]) v1 := r1.elim id (fun h => by cases h.1)
  have r2 : Rep w F (I64 c) v2 := r2.elim id (fun h => by cases h.1)
  cases r2
  obtain ⟨b, o, cap, rfl, hc, hbl⟩ : ∃ b o cap, v1 = .slice (some ⟨b, o, none⟩) 1 cap ∧ w.cell? ⟨b, o, none⟩ = some (.int .i64 v) ∧ b < w.heap.size := by
    generalize hd : IL [v] = d at r1
    cases r1 with
    | list sz xs us b o cap q1 q2 q3 q4 q5 q6 q7 =>
      injection hd with hd1 hd2
      subst hd1; subst hd2
      obtain ⟨u, rfl⟩ : ∃ u, us = [u] := by
        match us, q1 with
        | [u], _ => exact ⟨u, rfl⟩
      have hu := q4 0 (I64 v) u rfl rfl
      cases hu
      have := (q5 0 _ rfl).2 0 (.int .i64 v) rfl
      exact ⟨b, o, cap, rfl, by simpa using this.2, q6⟩
    | listE sz a cap => injection hd with _ hd2; cases hd2
    | _ => cases hd
  have key : Calls Try.prog 152 #[.slice (some ⟨b, o, none⟩) 1 cap, .int .i64 c] w fun e w' => e = .returned (.slice (some ⟨w.heap.size, 0, none⟩) c.toNat c.toNat) ∧ w'.heap[w.heap.size]? = some (.cells (List.replicate c.toNat (Value.int .i64 v)).toArray 3 (0, 0)) ∧ Below w.heap.size w w' := by
    have : c = 0 ∨ c = 1 ∨ c = 2 ∨ c = 3 ∨ c = 4 ∨ c = 5 ∨ c = 6 := by omega
    rcases this with rfl | rfl | rfl | rfl | rfl | rfl | rfl
    · exact rep_0 v b o cap w hc hbl
    · exact rep_1 v b o cap w hc hbl
    · exact rep_2 v b o cap w hc hbl
    · exact rep_3 v b o cap w hc hbl
    · exact rep_4 v b o cap w hc hbl
    · exact rep_5 v b o cap w hc hbl
    · exact rep_6 v b o cap w hc hbl
  refine key.mono ?_
  rintro e w' ⟨rfl, hg, hb⟩
  have hn6 : c.toNat ≤ 6 := by omega
  generalize c.toNat = n at *
  have hor := ORep.olist (w := w') (F := fun k => k < w.heap.size) (lo := w.heap.size) 1 (ints (List.replicate n v)) (List.replicate n (.int .i64 v)) (List.replicate n []) w.heap.size n (List.replicate n (Value.int .i64 v)).toArray 3 (by simp) (by simp) (fun i d u os hd hu ho => by
    have hi : i < n := by have := (List.getElem?_eq_some_iff.1 hu).1; simpa using this
    rw [List.getElem?_replicate, if_pos hi] at hu ho
    unfold ints at hd
    rw [List.getElem?_map, List.getElem?_replicate, if_pos hi] at hd
    injection hu with hu; injection ho with ho; injection hd with hd
    subst hu; subst ho; subst hd
    exact .base _ _ (.int _ _)) hg (by simp) (by simp) (by have : maxLen = 9223372036854775807 := rfl; omega) (row_rep hg) (Nat.le_refl _)
  rw [show (ints (List.replicate n v)).length = n by simp] at hor
  refine ⟨_, IO1 (List.replicate n v), [], _, rfl, rfl, fun _ => by simp, ⟨hb.os, hb.tape, hb.output, hb.size, fun k hk _ => hb.block k hk⟩, by simpa using hor, by simp, trivial⟩
noncomputable def fm_repeatI : Fam Try.prog := mkFam (X := Int × Int) 152 true (fun (v, c) => [IL [v], I64 c]) (fun (v, c) => (0 ≤ c) ∧ (c ≤ 6)) (fun (v, c) => IO1 (List.replicate c.toNat v)) (by
  rintro ⟨v, c⟩ ⟨h0, h6⟩
  exact repeatI_pc v c h0 h6)
@[simp] theorem fm_repeatI_id : fm_repeatI.id = 152 := rfl
@[simp] theorem fm_repeatI_fresh : fm_repeatI.fresh = true := rfl
@[simp] theorem fm_repeatI_look (v c : Int) (h0 : 0 ≤ c) (h6 : c ≤ 6) : fm_repeatI.look [IL [v], I64 c] = some (IO1 (List.replicate c.toNat v)) :=
  lookF_of (X := Int × Int) (args := fun (v, c) => [IL [v], I64 c]) (pre := fun (v, c) => (0 ≤ c) ∧ (c ≤ 6)) (val := fun (v, c) => IO1 (List.replicate c.toNat v)) (by
  rintro ⟨v, c⟩ ⟨v', c'⟩ h
  simp at h
  try simp only [and_assoc] at h
  obtain ⟨rfl, rfl⟩ := h
  rfl) (v, c) ⟨h0, h6⟩
attribute [irreducible] fm_repeatI
end Go.PS
end

section
-- Functions run in place.
set_option maxRecDepth 100000
set_option linter.unusedVariables false
set_option linter.unusedSimpArgs false
namespace Go.PS
open Go.Proofs
/-- The program with some functions run in place. -/
noncomputable def CI (f : Nat → Option FnA) : Ctx := ⟨Try.prog, tyOf Try.prog, f⟩
@[simp] theorem CI_P {f : Nat → Option FnA} : (CI f).P = Try.prog := rfl
@[simp] theorem CI_tt {f : Nat → Option FnA} (T : Nat) : (CI f).tt T = tyOf Try.prog T := rfl
@[simp] theorem CI_inl {f : Nat → Option FnA} : (CI f).inl = f := rfl
theorem pcI (g : Nat → Option FnA) (hg : ∀ id fa, g id = some fa → ∃ A, FnOk Try.prog id fa A) (T : List (Fam Try.prog)) (n : Nat) {f : Nat} {fa : FnA} {A : Ann} (hf : FnOk Try.prog f fa A) {ds : List D} {fresh : Bool} {R : D → List D → Prop}
    (h : run (CI g) 0 (inlT (CI g) T n 0) fa.ac (retQ (CI g).tt fresh fa.res R false) ⟨args0 0 ds, [], 1⟩) : PC Try.prog f ds none fresh R :=
  pc_of_run (C := CI g) (kb := 0) (io := none) hty0 Try.checked.mixed (inlT_ok (C := CI g) hty0 Try.checked.mixed hg T n 0) hf h

end Go.PS
end

section
-- The least power of the implementation: its loops over all lists, run in place.
set_option maxRecDepth 100000
set_option linter.unusedVariables false
set_option linter.unusedSimpArgs false
namespace Go.PS
open Go.Proofs

/-- The list after resets, and what the resets look at. -/
def rs (x y z : Int) : Nat → List Int
  | 0 => [x, y, z]
  | 1 => [x, y, 0]
  | 2 => [x, 0, 0]
  | _ => [0, 0, 0]
def dg (x y z : Int) : Nat → Int
  | 0 => z
  | 1 => y
  | _ => x

theorem rs0 {x y z : Int} : rs x y z 0 = [x, y, z] := rfl
theorem rs1 {x y z : Int} : rs x y z 1 = [x, y, 0] := rfl
theorem rs2 {x y z : Int} : rs x y z 2 = [x, 0, 0] := rfl
theorem rs3 {x y z : Int} : rs x y z 3 = [0, 0, 0] := rfl
theorem w2 : IntKind.i64.wrap 2 = 2 := rfl
theorem w1 : IntKind.i64.wrap 1 = 1 := rfl
theorem w0 : IntKind.i64.wrap 0 = 0 := rfl
theorem wm : IntKind.i64.wrap (-1) = -1 := rfl
theorem idx_lt {n x y z i : Nat} (hx : x < n) (hy : y < n) (hz : z < n) (e : i = (x * n + y) * n + z) : i < n * n * n := by
  have h1 : x * n + y < n * n := by
    calc x * n + y < x * n + n := by omega
      _ = (x + 1) * n := by rw [Nat.add_mul, Nat.one_mul]
      _ ≤ n * n := Nat.mul_le_mul_right _ (by omega)
  subst e
  generalize x * n + y = a at *
  calc a * n + z < a * n + n := by omega
    _ = (a + 1) * n := by rw [Nat.add_mul, Nat.one_mul]
    _ ≤ n * n * n := Nat.mul_le_mul_right _ (by omega)
theorem idx_y {n x y z i : Nat} (e : i = (x * n + y) * n + z) (hz : z + 1 = n) : i + 1 = (x * n + (y + 1)) * n + 0 := by
  rw [← Nat.add_assoc, Nat.add_mul (x * n + y) 1 n, Nat.one_mul]; omega
theorem idx_x {n x y z i : Nat} (e : i = (x * n + y) * n + z) (hy : y + 1 = n) (hz : z + 1 = n) : i + 1 = ((x + 1) * n + 0) * n + 0 := by
  rw [idx_y e hz, hy, Nat.add_mul x 1 n, Nat.one_mul]; rfl
theorem idx_last {n x y z i : Nat} (e : i = (x * n + y) * n + z) (hx : x + 1 = n) (hy : y + 1 = n) (hz : z + 1 = n) : i + 1 = n * n * n := by
  rw [idx_x e hy hz, hx]; rfl
theorem all_rng {A : List (List Int)} {p : List Int → Bool} : A.all p = (List.range A.length).all fun j => p (gr A j) := by
  rw [Bool.eq_iff_iff, all_gr, List.all_eq_true]
  simp
theorem gr_nxt {n j x : Nat} {o : List (List Int)} (hj : j < o.length) (hx : x < n) : gr (nxt n o) (j * n + x) = gr o j ++ [(x : Int)] := by
  have e : nxt n o = nxt n (o.take j) ++ ((List.range n).map fun (x : Nat) => gr o j ++ [(x : Int)]) ++ nxt n (o.drop (j + 1)) := by
    rw [← nxt_take hj]
    conv => lhs; rw [← List.take_append_drop (j + 1) o]
    unfold nxt
    rw [List.flatMap_append]
  have el : (nxt n (o.take j)).length = j * n := by rw [nxt_length, List.length_take, Nat.min_eq_left (by omega)]
  rw [e]
  unfold gr
  rw [List.append_assoc, List.getElem?_append_right (by omega), el, Nat.add_sub_cancel_left, List.getElem?_append_left (by simpa using hx)]
  simp [hx]
theorem gr_asg3 {n x y z : Nat} (hx : x < n) (hy : y < n) (hz : z < n) : gr (asgK n 3) ((x * n + y) * n + z) = [(x : Int), (y : Int), (z : Int)] := by
  have h1 : x < (asgK n 1).length := by rw [asgK_length, Nat.pow_one]; omega
  have h2 : x * n + y < (asgK n 2).length := by
    rw [asgK_length, Nat.pow_two]
    calc x * n + y < x * n + n := by omega
      _ = (x + 1) * n := by rw [Nat.add_mul, Nat.one_mul]
      _ ≤ n * n := Nat.mul_le_mul_right _ (by omega)
  have e1 : gr (asgK n 1) x = [(x : Int)] := by
    have := gr_nxt (j := 0) (o := asgK n 0) (x := x) (by simp [asgK]) hx
    simpa [asgK, gr] using this
  have e2 : gr (asgK n 2) (x * n + y) = [(x : Int), (y : Int)] := by
    rw [show asgK n 2 = nxt n (asgK n 1) from rfl, gr_nxt h1 hy, e1]; rfl
  rw [show asgK n 3 = nxt n (asgK n 2) from rfl, gr_nxt h2 hz, e2]; rfl


end Go.PS
end

section
-- All lists of so many numbers, one after the other: eachList, run in place for any function.
set_option maxRecDepth 100000
set_option linter.unusedVariables false
set_option linter.unusedSimpArgs false
namespace Go.PS
open Go.Proofs

/-- The digits of a number. -/
def dig (n : Nat) : Nat → Nat → List Int
  | 0, _ => []
  | m + 1, i => dig n m (i / n) ++ [((i % n : Nat) : Int)]
theorem dig_length (n : Nat) : ∀ m i, (dig n m i).length = m
  | 0, _ => rfl
  | m + 1, i => by simp [dig, dig_length n m]
theorem gr_asgK {n : Nat} (hn : 1 ≤ n) : ∀ m i, i < n ^ m → gr (asgK n m) i = dig n m i
  | 0, i, h => by
    obtain rfl : i = 0 := by simpa using h
    rfl
  | m + 1, i, h => by
    rw [Nat.pow_succ] at h
    have h1 : i / n < n ^ m := (Nat.div_lt_iff_lt_mul (by omega)).2 h
    have h2 : i % n < n := Nat.mod_lt _ (by omega)
    have e : i = i / n * n + i % n := by rw [Nat.mul_comm]; exact (Nat.div_add_mod i n).symm
    rw [asgK, dig, ← gr_asgK hn m (i / n) h1]
    conv => lhs; rw [e]
    exact gr_nxt (by rw [asgK_length]; exact h1) h2
theorem dig_zero (n : Nat) : ∀ m, dig n m 0 = List.replicate m 0
  | 0 => rfl
  | m + 1 => by rw [dig, Nat.zero_div, Nat.zero_mod, dig_zero n m, List.replicate_succ']; rfl
theorem dig_mul {n : Nat} (hn : 1 ≤ n) : ∀ c m q, c ≤ m → dig n m (q * n ^ c) = dig n (m - c) q ++ List.replicate c 0
  | 0, m, q, _ => by simp
  | c + 1, 0, q, h => by omega
  | c + 1, m + 1, q, h => by
    have e : q * n ^ (c + 1) = q * n ^ c * n := by rw [Nat.pow_succ, Nat.mul_assoc]
    rw [dig, e, Nat.mul_div_cancel _ (by omega), Nat.mul_mod_left, dig_mul hn c m q (by omega), List.append_assoc, show m + 1 - (c + 1) = m - c by omega, List.replicate_succ']
    rfl

/-- The list after resets. -/
def rsD (n m c i : Nat) : List Int := dig n (m - c) (i / n ^ c) ++ List.replicate c 0
theorem rsD_length {n m c i : Nat} (hc : c ≤ m) : (rsD n m c i).length = m := by simp [rsD, dig_length]; omega
theorem rsD_zero {n m i : Nat} : rsD n m 0 i = dig n m i := by simp [rsD]
theorem rsD_split {n m c i : Nat} (hc : c < m) : rsD n m c i = dig n (m - (c + 1)) (i / n ^ (c + 1)) ++ ((i / n ^ c % n : Nat) : Int) :: List.replicate c 0 := by
  have e : m - c = (m - (c + 1)) + 1 := by omega
  rw [rsD, e, dig, Nat.div_div_eq_div_mul, ← Nat.pow_succ, List.append_assoc]
  rfl
theorem rsD_gi {n m c i : Nat} (hc : c < m) : gi (rsD n m c i) (m - (c + 1)) = ((i / n ^ c % n : Nat) : Int) := by
  rw [rsD_split hc, gi, List.getElem?_append_right (by rw [dig_length]; exact Nat.le_refl _), dig_length, Nat.sub_self]
  rfl
theorem rsD_set {n m c i : Nat} (hc : c < m) (v : Int) : (rsD n m c i).set (m - (c + 1)) v = dig n (m - (c + 1)) (i / n ^ (c + 1)) ++ v :: List.replicate c 0 := by
  rw [rsD_split hc, List.set_append_right _ _ (by rw [dig_length]; exact Nat.le_refl _), dig_length, Nat.sub_self]
  rfl
theorem rsD_succ {n m c i : Nat} (hc : c < m) : (rsD n m c i).set (m - (c + 1)) 0 = rsD n m (c + 1) i := by
  rw [rsD_set hc, rsD, List.replicate_succ]
/-- All digits that were reset were the greatest. -/
def allT (n i c : Nat) : Prop := i + 1 = (i / n ^ c + 1) * n ^ c
theorem allT_zero {n i : Nat} : allT n i 0 := by simp [allT]
theorem allT_succ {n i c : Nat} (hn : 1 ≤ n) (h : allT n i c) (hd : i / n ^ c % n + 1 = n) : allT n i (c + 1) := by
  unfold allT at *
  have e : i / n ^ (c + 1) = i / n ^ c / n := by rw [Nat.div_div_eq_div_mul, ← Nat.pow_succ]
  have h1 : i / n ^ c + 1 = (i / n ^ c / n + 1) * n := by
    have := Nat.div_add_mod (i / n ^ c) n
    rw [Nat.add_mul, Nat.one_mul, Nat.mul_comm]
    omega
  rw [e, Nat.pow_succ, Nat.mul_comm (n ^ c) n, ← Nat.mul_assoc, ← h1]
  exact h
theorem allT_end {n i m : Nat} (h : allT n i m) (hi : i < n ^ m) : i + 1 = n ^ m := by
  unfold allT at h
  rw [Nat.div_eq_of_lt hi] at h
  omega
theorem rsD_next {n i c m : Nat} (hn : 1 ≤ n) (hc : c < m) (h : allT n i c) (hd : i / n ^ c % n + 1 < n) : (rsD n m c i).set (m - (c + 1)) (((i / n ^ c % n : Nat) : Int) + 1) = dig n m (i + 1) := by
  rw [rsD_set hc]
  rw [show i + 1 = (i / n ^ c + 1) * n ^ c from h, dig_mul hn c m _ (by omega), show m - c = (m - (c + 1)) + 1 by omega, dig]
  have e1 : (i / n ^ c + 1) % n = i / n ^ c % n + 1 := by rw [Nat.add_mod, Nat.mod_eq_of_lt (show 1 < n by omega), Nat.mod_eq_of_lt hd]
  have e2 : (i / n ^ c + 1) / n = i / n ^ (c + 1) := by
    have h1 := Nat.div_add_mod (i / n ^ c) n
    have h2 := Nat.div_add_mod (i / n ^ c + 1) n
    rw [Nat.pow_succ, ← Nat.div_div_eq_div_mul]
    rw [e1] at h2
    have : n * ((i / n ^ c + 1) / n) = n * (i / n ^ c / n) := by omega
    exact Nat.eq_of_mul_eq_mul_left (by omega) this
  rw [e1, e2, List.append_assoc]
  rfl
theorem next_lt {n i c m : Nat} (hn : 1 ≤ n) (hc : c < m) (hi : i < n ^ m) (h : allT n i c) (hd : i / n ^ c % n + 1 < n) : i + 1 < n ^ m := by
  have e : n ^ m = n ^ (m - c) * n ^ c := by rw [← Nat.pow_add]; congr 1; omega
  have hp : 0 < n ^ c := Nat.pow_pos (by omega)
  rw [show i + 1 = (i / n ^ c + 1) * n ^ c from h, e]
  refine (Nat.mul_lt_mul_right hp).2 ?_
  have h1 : i / n ^ c < n ^ (m - c) := (Nat.div_lt_iff_lt_mul hp).2 (by rw [← e]; exact hi)
  rcases Nat.lt_or_ge (i / n ^ c + 1) (n ^ (m - c)) with q | q
  · exact q
  · exfalso
    have e2 : i / n ^ c + 1 = n ^ (m - (c + 1)) * n := by rw [← Nat.pow_succ, show (m - (c + 1)).succ = m - c by omega]; omega
    have e1 : (i / n ^ c + 1) % n = i / n ^ c % n + 1 := by rw [Nat.add_mod, Nat.mod_eq_of_lt (show 1 < n by omega), Nat.mod_eq_of_lt hd]
    rw [e2, Nat.mul_mod_left] at e1
    omega
theorem digit_lt {n i c : Nat} (hn : 1 ≤ n) : i / n ^ c % n < n := Nat.mod_lt _ (by omega)

/-- What eachList's loops keep. -/
def KL : List Nat := [12160, 8064, 4064, 8, 16, 24, 32, 40, 48, 56, 64, 72, 80, 88, 96, 104, 112, 120, 128]

set_option maxHeartbeats 1000000 in
theorem eachList_run {f : Nat → Option FnA} {T : List (Fam Try.prog)} {dep kb : Nat} {K : D → List Ent → Nat → Prop} {α : Type} {n m : Nat} (hn : 1 ≤ n) (h6 : n ≤ 6) (hm6 : m ≤ 6) {fid : Nat} {caps : List D} {h0 : List Ent} {g0 : Nat}
    (H : α → List Int → List Ent) (P : Nat → α → Prop) (x0 : α)
    (hH0 : keepH KL (⟨kb + 64, g0, .arr 1 (ints (List.replicate m 0))⟩ :: hdel h0 (kb + 64)) = H x0 (List.replicate m 0))
    (hset1 : ∀ x l l', hset (H x l) (kb + 64) g0 (.arr 1 (ints l')) = H x l') (hfind : ∀ x l, find (H x l) (kb + 64) g0 = some (.arr 1 (ints l))) (hkeep : ∀ x l, keepH KL (H x l) = H x l) (hP0 : P 0 x0)
    (step : ∀ i x t g (Q : St → Prop), i < n ^ m → P i x → (∀ x' d h' g', P (i + 1) x' → find h' (kb + 64) g0 = some (.arr 1 (ints (dig n m i))) → keepH KL h' = H x' (dig n m i) → Q ⟨put t (some 11) d, h', g'⟩) →
      callO (CI f) kb (inlT (CI f) T dep kb) (some 11) 16 (.fn fid caps) [.arr (kb + 64) g0] ⟨t, H x (dig n m i), g⟩ [] Q)
    (fin : ∀ x g, P (n ^ m) x → K (.tup []) (H x (List.replicate m 0)) g) :
    run (CI f) kb (inlT (CI f) T dep kb) fa_151.ac (inlQ (CI f).tt fa_151.res K) ⟨args0 0 [IL (List.replicate m ((n : Int) - 1)), .fn fid caps], h0, g0⟩ := by
  have ebig : big = 1048576 * 1048576 := rfl
  have eKL : [12160, 8064, 4064, 8, 16, 24, 32, 40, 48, 56, 64, 72, 80, 88, 96, 104, 112, 120, 128] = KL := rfl
  have hpow : 0 < n ^ m := Nat.pow_pos (by omega)
  simp [fa_151, -keepH, eKL]
  refine ⟨by omega, ?_⟩
  refine loopX (inlT_mono _ _ _ _) (n ^ m) (fun _ _ => []) (fun i x => H x (dig n m i)) (fun i x => i < n ^ m ∧ P i x) x0 (by simp) (by simp only [hH0, dig_zero]) ⟨hpow, hP0⟩ (fun i x g hi hS => ?_)
  have hi0 := hi
  obtain ⟨hi, hP⟩ := hS
  have hi0 : i < n ^ m := hi
  simp [lb_151_1, -keepH, eKL]
  refine step i x _ g _ hi hP (fun x' d h' g' hP' hf' hk' => ?_)
  simp [hf', dig_length, wrap64 (n := (m : Int) - 1) (by omega) (by omega), -keepH, eKL]
  refine loopA (inlT_mono _ _ _ _) m (fun c => [(5, I64 ((m : Int) - 1 - c))]) (fun c => H x' (rsD n m c i)) (fun c => i / n ^ c % n + 1 = n) (by simp) (by simp only [hk', rsD_zero]) (fun c g3 hc hQ => ?_)
  have hall : allT n i c := by
    clear hc
    induction c with
    | zero => exact allT_zero
    | succ c ih => exact allT_succ hn (ih (fun j hj => hQ j (by omega))) (hQ c (by omega))
  have hdl := digit_lt (n := n) (i := i) (c := c) hn
  have etn : ((m : Int) - 1 - c).toNat = m - (c + 1) := by omega
  simp [lb_151_3, -keepH, eKL]
  rcases Nat.lt_or_ge c m with hcm | hcm
  · have hge : (0 : Int) ≤ (m : Int) - 1 - c := by omega
    have hge2 : (c : Int) ≤ (m : Int) - 1 := by omega
    have hlt : (m : Int) - 1 - c < m := by omega
    have hgm : gi (List.replicate m ((n : Int) - 1)) (m - (c + 1)) = (n : Int) - 1 := by simp [gi, List.getElem?_replicate, show m - (c + 1) < m by omega]
    have hgi := rsD_gi (n := n) (i := i) hcm
    have hnx : i / n ^ c % n + 1 < n → (rsD n m c i).set (m - (c + 1)) (((i / n ^ c % n : Nat) : Int) + 1) = dig n m (i + 1) := fun h => rsD_next hn hcm hall h
    have hlt2 : i / n ^ c % n + 1 < n → i + 1 < n ^ m := fun h => next_lt hn hcm hi hall h
    have hQc : i / n ^ c % n + 1 = n → ((fun c => i / n ^ c % n + 1 = n) c) := fun h => h
    generalize hdv : i / n ^ c % n = dv at *
    refine cutWc (inlT_mono _ _ _ _) [(27, .bool (decide (dv + 1 = n)))] (by
      simp [hfind, rsD_length hc, hge, hge2, hlt, etn, hgm, hgi, show m - (c + 1) < m by omega, -keepH, eKL]
      omega) ?_
    rcases Classical.em (dv + 1 = n) with cz | cz
    · simp only [eq_true cz, decide_true]
      generalize hK : vQ _ _ _ _ _ _ _ _ _ = K0
      simp [hfind, hset1, rsD_length hc, hge, hge2, hlt, etn, rsD_succ hcm, show m - (c + 1) < m by omega, wrap64 (n := (m : Int) - 1 - c - 1) (by omega) (by omega), -keepH, eKL]
      subst hK
      rw [vQ_normal]
      refine ⟨hcm, ⟨by simp; omega, by simp only [hkeep]⟩, hQc cz⟩
    · simp only [eq_false cz, decide_false]
      have hnx := hnx (by omega)
      have hlt2 := hlt2 (by omega)
      generalize hK : wQ _ _ _ _ _ _ _ _ _ = K0
      simp [hfind, hset1, rsD_length hc, hge, hge2, hlt, etn, hgi, show m - (c + 1) < m by omega, show ¬ ((m : Int) - 1 - c < 0) by omega, show ¬ ((m : Int) - 1 < c) by omega, wrap64 (n := (dv : Int) + 1) (by omega) (by omega), -keepH, eKL]
      subst hK
      rw [wQ_normal]
      refine ⟨hi0, x', ⟨by simp, ?_⟩, hlt2, hP'⟩
      simp only [hkeep, hnx]
  · obtain rfl : c = m := by omega
    have hend := allT_end hall hi
    have hneg : ¬ ((0 : Int) ≤ (c : Int) - 1 - c) := by omega
    have hneg2 : ¬ ((c : Int) ≤ (c : Int) - 1) := by omega
    refine cutWc (inlT_mono _ _ _ _) [(27, .bool false)] (by simp [hneg, hneg2, -keepH, eKL]) ?_
    generalize hK : wQ _ _ _ _ _ _ _ _ _ = K0
    simp [show ((c : Int) - 1 - c < 0) by omega, show ((c : Int) - 1 < c) by omega, -keepH, eKL]
    subst hK
    rw [wQ_ret]
    have e : rsD n c c i = List.replicate c 0 := by simp [rsD, dig]
    simp [e]
    refine fin x' g3 ?_
    rw [← hend]; exact hP'
end Go.PS
end

section
-- PRINTED by gen.py: clean texts of functions, and their tie to the program.
set_option maxRecDepth 100000
namespace Go.PS
open Go.Proofs
/-- spec.RefuteTerm -/
def an_84 : Ann := ⟨[(1, 1, 3), (1, 5, 3), (3, 3, 3), (7, 6, 3)], [(0, [1, 2]), (1, [1, 2, 15]), (2, [4, 5]), (3, [1, 2, 6]), (4, [1, 2, 6, 7]), (5, [1, 2, 6, 7, 23]), (7, [1, 2, 6, 7, 37]), (8, [4, 5]), (6, [1, 2, 6, 7]), (9, [4, 5])], [(5, [1, 2, 6, 7], [])], []⟩
def lb_84_5 : AC :=
  (.seq
    (.seq
      (.region false [⟨some 20, (.mv (.t 7)), 3, none, 0⟩, ⟨some 21, (.mv (.t 6)), 23, none, 0⟩, ⟨some 22, (.len 23 (.t 21)), 3, none, 0⟩, ⟨some 23, (.bin .lss 3 (.t 20) (.t 22)), 4, none, 0⟩] (some [1, 2, 6, 7, 23]))
      (.cond (.t 23)
        .skip
        (.exit 0)))
    (.seq
      (.block 1
        (.seq
          (.region true [⟨some 26, (.load 28 (.t 2)), 28, none, 0⟩, ⟨some 27, (.mv (.t 1)), 22, none, 0⟩, ⟨some 28, (.mv (.t 6)), 23, none, 0⟩, ⟨some 29, (.mv (.t 7)), 3, none, 0⟩, ⟨some 30, (.iaddr 23 (.t 28) (.t 29)), 0, none, 0⟩, ⟨some 31, (.load 22 (.t 30)), 22, none, 0⟩, ⟨some 32, (.call (.f 150) [(.t 26), (.t 27), (.c (.int .i64 0)), (.t 31)]), 3, none, 3⟩, ⟨some 33, (.faddr 28 (.t 2) 0), 0, none, 0⟩, ⟨some 34, (.load 22 (.t 33)), 22, none, 0⟩, ⟨some 35, (.len 22 (.t 34)), 3, none, 0⟩, ⟨some 36, (.bin .sub 3 (.t 35) (.c (.int .i64 1))), 3, none, 0⟩, ⟨some 37, (.bin .neq 3 (.t 32) (.t 36)), 4, none, 0⟩] (some [1, 2, 6, 7, 37]))
          (.cond (.t 37)
            (.seq
              (.region false [⟨some 38, (.mv (.t 6)), 23, none, 0⟩, ⟨some 39, (.mv (.t 7)), 3, none, 0⟩, ⟨some 40, (.iaddr 23 (.t 38) (.t 39)), 0, none, 0⟩, ⟨some 41, (.load 22 (.t 40)), 22, none, 0⟩, ⟨some 4, (.mv (.t 41)), 22, none, 0⟩, ⟨some 5, (.mv (.c (.bool true))), 4, none, 0⟩] (some [4, 5]))
              .ret)
            .skip)))
      (.region false [⟨some 24, (.mv (.t 7)), 3, none, 0⟩, ⟨some 25, (.bin .add 3 (.t 24) (.c (.int .i64 1))), 3, none, 0⟩, ⟨some 7, (.mv (.t 25)), 3, none, 0⟩] (some [1, 2, 6, 7]))))
def fa_84 : FnA := ⟨42, [.t 4, .t 5],
  (.seq
    (.region false [⟨some 2, (.box 28 (.t 0)), 0, none, 0⟩, ⟨some 4, (.mv (.c .nil)), 22, none, 0⟩, ⟨some 5, (.mv (.c (.bool false))), 4, none, 0⟩] (some [1, 2]))
    (.seq
      (.seq
        (.region false (gops [⟨some 8, (.load 28 (.t 2)), 28, none, 0⟩, ⟨some 9, (.call (.f 88) [(.t 8)]), 4, none, 3⟩, ⟨some 10, (.un .not (.t 9)), 4, none, 0⟩, ⟨some 11, (.mv (.t 10)), 4, none, 0⟩, ⟨some 12, (.mv (.t 1)), 22, some (11, false), 0⟩, ⟨some 13, (.call (.f 148) [(.t 12)]), 4, some (11, false), 3⟩, ⟨some 14, (.un .not (.t 13)), 4, some (11, false), 0⟩, ⟨some 15, (.pick (.t 11) (.c (.bool true)) (.t 14)), 4, none, 0⟩]) (some [1, 2, 15]))
        (.cond (.t 15)
          (.seq
            (.region false [⟨some 4, (.mv (.c .nil)), 22, none, 0⟩, ⟨some 5, (.mv (.c (.bool false))), 4, none, 0⟩] (some [4, 5]))
            .ret)
          .skip))
      (.seq
        (.region false [⟨some 16, (.faddr 28 (.t 2) 0), 0, none, 0⟩, ⟨some 17, (.load 22 (.t 16)), 22, none, 0⟩, ⟨some 18, (.len 22 (.t 17)), 3, none, 0⟩, ⟨some 19, (.call (.f 159) [(.t 18)]), 23, none, 3⟩, ⟨some 6, (.mv (.t 19)), 23, none, 0⟩] (some [1, 2, 6]))
        (.seq
          (.seq
            (.region false [⟨some 7, (.mv (.c (.int .i64 0))), 3, none, 0⟩] (some [1, 2, 6, 7]))
            (.block 0
              (.loop [1, 2, 6, 7] [] lb_84_5)))
          (.seq
            (.region false [⟨some 4, (.mv (.c .nil)), 22, none, 0⟩, ⟨some 5, (.mv (.c (.bool false))), 4, none, 0⟩] (some [4, 5]))
            .ret)))))⟩
theorem fok_84 : FnOk Try.prog 84 fa_84 an_84 := ⟨Try.f84, _, Try.func84, rfl, by kernel_rfl, rfl, rfl, by decide, by kernel_rfl⟩
/-- slices.Clone(()int,int) -/
def an_140 : Ann := ⟨[(3, 0, 1)], [(0, [0]), (1, [0, 4]), (2, [2]), (3, [2])], [], []⟩
def fa_140 : FnA := ⟨8, [.t 2],
  (.seq
    (.region false [⟨some 2, (.mv (.c .nil)), 22, none, 0⟩] (some [0]))
    (.seq
      (.seq
        (.region false [⟨some 3, (.mv (.t 0)), 22, none, 0⟩, ⟨some 4, (.bin .eql 22 (.t 3) (.c .nil)), 4, none, 0⟩] (some [0, 4]))
        (.cond (.t 4)
          (.seq
            (.region false [⟨some 2, (.mv (.c .nil)), 22, none, 0⟩] (some [2]))
            .ret)
          .skip))
      (.seq
        (.region false [⟨some 5, (.bslice 22 0 []), 22, none, 1⟩, ⟨some 6, (.mv (.t 0)), 22, none, 0⟩, ⟨some 7, (.app 22 22 (.t 5) (.t 6)), 22, none, 0⟩, ⟨some 2, (.mv (.t 7)), 22, none, 0⟩] (some [2]))
        .ret)))⟩
theorem fok_140 : FnOk Try.prog 140 fa_140 an_140 := ⟨Try.f140, _, Try.func140, rfl, by kernel_rfl, rfl, rfl, by decide, by kernel_rfl⟩
/-- impl.RefuteTerm$1 -/
def an_158 : Ann := ⟨[(0, 6, 3), (1, 1, 1)], [(0, [0, 1, 4, 18]), (1, [])], [], []⟩
def fa_158 : FnA := ⟨21, [],
  (.seq
    (.region true (gops [⟨some 6, (.load 4 (.t 1)), 4, none, 0⟩, ⟨some 7, (.un .not (.t 6)), 4, none, 0⟩, ⟨some 8, (.mv (.t 7)), 4, none, 0⟩, ⟨some 9, (.load 28 (.t 2)), 28, some (8, true), 0⟩, ⟨some 10, (.load 22 (.t 3)), 22, some (8, true), 0⟩, ⟨some 11, (.mv (.t 0)), 22, some (8, true), 0⟩, ⟨some 12, (.call (.f 147) [(.t 9), (.t 10), (.t 11)]), 3, some (8, true), 3⟩, ⟨some 13, (.faddr 28 (.t 2) 0), 0, some (8, true), 0⟩, ⟨some 14, (.load 22 (.t 13)), 22, some (8, true), 0⟩, ⟨some 15, (.len 22 (.t 14)), 3, some (8, true), 0⟩, ⟨some 16, (.bin .sub 3 (.t 15) (.c (.int .i64 1))), 3, some (8, true), 0⟩, ⟨some 17, (.bin .neq 3 (.t 12) (.t 16)), 4, some (8, true), 0⟩, ⟨some 18, (.pick (.t 8) (.t 17) (.c (.bool false))), 4, none, 0⟩]) (some [0, 1, 4, 18]))
    (.cond (.t 18)
      (.region false [⟨some 19, (.mv (.t 0)), 22, none, 0⟩, ⟨some 20, (.call (.f 140) [(.t 19)]), 22, none, 1⟩, ⟨none, (.store 22 (.t 4) (.t 20)), 0, none, 0⟩, ⟨none, (.store 4 (.t 1) (.c (.bool true))), 0, none, 0⟩] (some []))
      .skip))⟩
theorem fok_158 : FnOk Try.prog 158 fa_158 an_158 := ⟨Try.f158, _, Try.func158, rfl, by kernel_rfl, rfl, rfl, by decide, by kernel_rfl⟩
/-- impl.RefuteTerm -/
def an_83 : Ann := ⟨[(1, 1, 3), (1, 5, 3), (4, 2, 16)], [(0, [2, 3]), (1, [2, 3, 15]), (2, [4, 5]), (3, [2, 3, 6, 7]), (4, [6, 7]), (5, [6, 21]), (6, [4, 5]), (7, [4, 5])], [], []⟩
def fa_83 : FnA := ⟨23, [.t 4, .t 5],
  (.seq
    (.region false [⟨some 2, (.box 28 (.t 0)), 0, none, 0⟩, ⟨some 3, (.box 22 (.t 1)), 0, none, 0⟩, ⟨some 4, (.mv (.c .nil)), 22, none, 0⟩, ⟨some 5, (.mv (.c (.bool false))), 4, none, 0⟩] (some [2, 3]))
    (.seq
      (.seq
        (.region false (gops [⟨some 8, (.load 28 (.t 2)), 28, none, 0⟩, ⟨some 9, (.call (.f 36) [(.t 8)]), 4, none, 3⟩, ⟨some 10, (.un .not (.t 9)), 4, none, 0⟩, ⟨some 11, (.mv (.t 10)), 4, none, 0⟩, ⟨some 12, (.load 22 (.t 3)), 22, some (11, false), 0⟩, ⟨some 13, (.call (.f 146) [(.t 12)]), 4, some (11, false), 3⟩, ⟨some 14, (.un .not (.t 13)), 4, some (11, false), 0⟩, ⟨some 15, (.pick (.t 11) (.c (.bool true)) (.t 14)), 4, none, 0⟩]) (some [2, 3, 15]))
        (.cond (.t 15)
          (.seq
            (.region false [⟨some 4, (.mv (.c .nil)), 22, none, 0⟩, ⟨some 5, (.mv (.c (.bool false))), 4, none, 0⟩] (some [4, 5]))
            .ret)
          .skip))
      (.seq
        (.region false [⟨some 16, (.bslice 22 0 []), 22, none, 0⟩, ⟨some 6, (.alloc 22), 0, none, 0⟩, ⟨some 7, (.alloc 4), 0, none, 0⟩, ⟨none, (.store 22 (.t 6) (.t 16)), 0, none, 0⟩, ⟨none, (.store 4 (.t 7) (.c (.bool false))), 0, none, 0⟩] (some [2, 3, 6, 7]))
        (.seq
          (.region false [⟨some 17, (.load 28 (.t 2)), 28, none, 0⟩, ⟨some 18, (.mkfn 158 [(.t 7), (.t 2), (.t 3), (.t 6)]), 112, none, 0⟩, ⟨some 19, (.call (.f 157) [(.t 17), (.t 18)]), 0, none, 16⟩] (some [6, 7]))
          (.seq
            (.seq
              (.region false [⟨some 20, (.load 4 (.t 7)), 4, none, 0⟩, ⟨some 21, (.un .not (.t 20)), 4, none, 0⟩] (some [6, 21]))
              (.cond (.t 21)
                (.seq
                  (.region false [⟨some 4, (.mv (.c .nil)), 22, none, 0⟩, ⟨some 5, (.mv (.c (.bool false))), 4, none, 0⟩] (some [4, 5]))
                  .ret)
                .skip))
            (.seq
              (.region false [⟨some 22, (.load 22 (.t 6)), 22, none, 0⟩, ⟨some 4, (.mv (.t 22)), 22, none, 0⟩, ⟨some 5, (.mv (.c (.bool true))), 4, none, 0⟩] (some [4, 5]))
              .ret))))))⟩
theorem fok_83 : FnOk Try.prog 83 fa_83 an_83 := ⟨Try.f83, _, Try.func83, rfl, by kernel_rfl, rfl, rfl, by decide, by kernel_rfl⟩
/-- impl.IsTrue -/
def an_85 : Ann := ⟨[(1, 2, 3), (2, 1, 3), (2, 4, 3)], [(0, [1, 2]), (1, [1, 2, 6]), (2, [4])], [], []⟩
def fa_85 : FnA := ⟨23, [.t 4],
  (.seq
    (.region false [⟨some 2, (.box 28 (.t 0)), 0, none, 0⟩, ⟨some 4, (.mv (.c (.bool false))), 4, none, 0⟩] (some [1, 2]))
    (.seq
      (.region false [⟨some 8, (.load 28 (.t 2)), 28, none, 0⟩, ⟨some 9, (.mv (.t 1)), 22, none, 0⟩, ⟨some 10, (.call (.f 83) [(.t 8), (.t 9)]), 61, none, 3⟩, ⟨some 7, (.mv (.t 10)), 61, none, 0⟩, ⟨some 11, (.ext (.t 7) 0), 22, none, 0⟩, ⟨some 12, (.ext (.t 7) 1), 4, none, 0⟩, ⟨some 5, (.mv (.t 11)), 22, none, 0⟩, ⟨some 6, (.mv (.t 12)), 4, none, 0⟩] (some [1, 2, 6]))
      (.seq
        (.region false (gops [⟨some 13, (.load 28 (.t 2)), 28, none, 0⟩, ⟨some 14, (.call (.f 36) [(.t 13)]), 4, none, 3⟩, ⟨some 15, (.mv (.t 14)), 4, none, 0⟩, ⟨some 16, (.mv (.t 1)), 22, some (15, true), 0⟩, ⟨some 17, (.call (.f 146) [(.t 16)]), 4, some (15, true), 3⟩, ⟨some 18, (.pick (.t 15) (.t 17) (.c (.bool false))), 4, none, 0⟩, ⟨some 19, (.mv (.t 18)), 4, none, 0⟩, ⟨some 20, (.mv (.t 6)), 4, some (19, true), 0⟩, ⟨some 21, (.un .not (.t 20)), 4, some (19, true), 0⟩, ⟨some 22, (.pick (.t 19) (.t 21) (.c (.bool false))), 4, none, 0⟩, ⟨some 4, (.mv (.t 22)), 4, none, 0⟩]) (some [4]))
        .ret)))⟩
theorem fok_85 : FnOk Try.prog 85 fa_85 an_85 := ⟨Try.f85, _, Try.func85, rfl, by kernel_rfl, rfl, rfl, by decide, by kernel_rfl⟩
end Go.PS
end

section
-- PRINTED by gen.py: clean texts of functions, and their tie to the program.
set_option maxRecDepth 100000
namespace Go.PS
open Go.Proofs
/-- laws.markIntS -/
def an_26 : Ann := ⟨[], [(0, [0, 1]), (1, [0, 1, 5]), (2, [0, 1, 5, 9]), (4, [0, 1, 5]), (5, [0, 1, 5]), (3, [0, 1, 5]), (6, [4])], [(2, [0, 1, 5], [999999999])], []⟩
def lb_26_2 : AC :=
  (.seq
    (.seq
      (.region false [⟨some 6, (.mv (.t 5)), 3, none, 0⟩, ⟨some 7, (.mv (.t 0)), 22, none, 0⟩, ⟨some 8, (.len 22 (.t 7)), 3, none, 0⟩, ⟨some 9, (.bin .lss 3 (.t 6) (.t 8)), 4, none, 0⟩] (some [0, 1, 5, 9]))
      (.cond (.t 9)
        .skip
        (.exit 0)))
    (.seq
      (.block 1
        (.seq
          (.region false [⟨some 12, (.mv (.t 0)), 22, none, 0⟩, ⟨some 13, (.mv (.t 5)), 3, none, 0⟩, ⟨some 14, (.mv (.t 1)), 3, none, 0⟩, ⟨some 15, (.iaddr 22 (.t 12) (.t 13)), 0, none, 0⟩, ⟨none, (.store 3 (.t 15) (.t 14)), 0, none, 0⟩] (some [0, 1, 5]))
          (.region false [⟨some 16, (.mv (.t 1)), 3, none, 0⟩, ⟨some 17, (.bin .add 3 (.t 16) (.c (.int .i64 1))), 3, none, 0⟩, ⟨some 1, (.mv (.t 17)), 3, none, 0⟩] (some [0, 1, 5]))))
      (.region false [⟨some 10, (.mv (.t 5)), 3, none, 0⟩, ⟨some 11, (.bin .add 3 (.t 10) (.c (.int .i64 1))), 3, none, 0⟩, ⟨some 5, (.mv (.t 11)), 3, none, 0⟩] (some [0, 1, 5]))))
def fa_26 : FnA := ⟨19, [.t 4],
  (.seq
    (.region false [⟨some 4, (.mv (.c (.int .i64 0))), 3, none, 0⟩] (some [0, 1]))
    (.seq
      (.seq
        (.region false [⟨some 5, (.mv (.c (.int .i64 0))), 3, none, 0⟩] (some [0, 1, 5]))
        (.block 0
          (.loop [0, 1, 5] [999999999] lb_26_2)))
      (.seq
        (.region false [⟨some 18, (.mv (.t 1)), 3, none, 0⟩, ⟨some 4, (.mv (.t 18)), 3, none, 0⟩] (some [4]))
        .ret)))⟩
theorem fok_26 : FnOk Try.prog 26 fa_26 an_26 := ⟨Try.f26, _, Try.func26, rfl, by kernel_rfl, rfl, rfl, by decide, by kernel_rfl⟩
/-- laws.markIntSS -/
def an_98 : Ann := ⟨[(4, 3, 1), (4, 5, 16)], [(0, [0, 1]), (1, [0, 1, 5]), (2, [0, 1, 5, 9]), (4, [0, 1, 5]), (3, [0, 1, 5]), (5, [4])], [(2, [0, 1, 5], [999999999])], []⟩
def lb_98_2 : AC :=
  (.seq
    (.seq
      (.region false [⟨some 6, (.mv (.t 5)), 3, none, 0⟩, ⟨some 7, (.mv (.t 0)), 23, none, 0⟩, ⟨some 8, (.len 23 (.t 7)), 3, none, 0⟩, ⟨some 9, (.bin .lss 3 (.t 6) (.t 8)), 4, none, 0⟩] (some [0, 1, 5, 9]))
      (.cond (.t 9)
        .skip
        (.exit 0)))
    (.seq
      (.block 1
        (.region false [⟨some 12, (.mv (.t 0)), 23, none, 0⟩, ⟨some 13, (.mv (.t 5)), 3, none, 0⟩, ⟨some 14, (.iaddr 23 (.t 12) (.t 13)), 0, none, 0⟩, ⟨some 15, (.load 22 (.t 14)), 22, none, 1⟩, ⟨some 16, (.mv (.t 1)), 3, none, 0⟩, ⟨some 17, (.call (.f 26) [(.t 15), (.t 16)]), 3, none, 16⟩, ⟨some 1, (.mv (.t 17)), 3, none, 0⟩] (some [0, 1, 5])))
      (.region false [⟨some 10, (.mv (.t 5)), 3, none, 0⟩, ⟨some 11, (.bin .add 3 (.t 10) (.c (.int .i64 1))), 3, none, 0⟩, ⟨some 5, (.mv (.t 11)), 3, none, 0⟩] (some [0, 1, 5]))))
def fa_98 : FnA := ⟨19, [.t 4],
  (.seq
    (.region false [⟨some 4, (.mv (.c (.int .i64 0))), 3, none, 0⟩] (some [0, 1]))
    (.seq
      (.seq
        (.region false [⟨some 5, (.mv (.c (.int .i64 0))), 3, none, 0⟩] (some [0, 1, 5]))
        (.block 0
          (.loop [0, 1, 5] [999999999] lb_98_2)))
      (.seq
        (.region false [⟨some 18, (.mv (.t 1)), 3, none, 0⟩, ⟨some 4, (.mv (.t 18)), 3, none, 0⟩] (some [4]))
        .ret)))⟩
theorem fok_98 : FnOk Try.prog 98 fa_98 an_98 := ⟨Try.f98, _, Try.func98, rfl, by kernel_rfl, rfl, rfl, by decide, by kernel_rfl⟩
/-- laws.markAlgebra -/
def an_25 : Ann := ⟨[(0, 0, 1), (1, 3, 16), (2, 3, 16)], [(0, [1, 2]), (1, [1, 2]), (2, [1]), (3, [4])], [], []⟩
def fa_25 : FnA := ⟨14, [.t 4],
  (.seq
    (.region false [⟨some 2, (.box 28 (.t 0)), 0, none, 1⟩, ⟨some 4, (.mv (.c (.int .i64 0))), 3, none, 0⟩] (some [1, 2]))
    (.seq
      (.region false [⟨some 5, (.faddr 28 (.t 2) 0), 0, none, 0⟩, ⟨some 6, (.load 22 (.t 5)), 22, none, 0⟩, ⟨some 7, (.mv (.t 1)), 3, none, 0⟩, ⟨some 8, (.call (.f 26) [(.t 6), (.t 7)]), 3, none, 16⟩, ⟨some 1, (.mv (.t 8)), 3, none, 0⟩] (some [1, 2]))
      (.seq
        (.region false [⟨some 9, (.faddr 28 (.t 2) 1), 0, none, 0⟩, ⟨some 10, (.load 23 (.t 9)), 23, none, 0⟩, ⟨some 11, (.mv (.t 1)), 3, none, 0⟩, ⟨some 12, (.call (.f 98) [(.t 10), (.t 11)]), 3, none, 16⟩, ⟨some 1, (.mv (.t 12)), 3, none, 0⟩] (some [1]))
        (.seq
          (.region false [⟨some 13, (.mv (.t 1)), 3, none, 0⟩, ⟨some 4, (.mv (.t 13)), 3, none, 0⟩] (some [4]))
          .ret))))⟩
theorem fok_25 : FnOk Try.prog 25 fa_25 an_25 := ⟨Try.f25, _, Try.func25, rfl, by kernel_rfl, rfl, rfl, by decide, by kernel_rfl⟩
/-- laws.heldIntS -/
def an_27 : Ann := ⟨[], [(0, [0, 1]), (1, [0, 1, 5]), (2, [0, 1, 5, 9]), (4, [0, 1, 5, 17]), (5, [4]), (6, [0, 1, 5]), (3, [0, 1, 5]), (7, [4])], [(2, [0, 1, 5], [])], []⟩
def lb_27_2 : AC :=
  (.seq
    (.seq
      (.region false [⟨some 6, (.mv (.t 5)), 3, none, 0⟩, ⟨some 7, (.mv (.t 0)), 22, none, 0⟩, ⟨some 8, (.len 22 (.t 7)), 3, none, 0⟩, ⟨some 9, (.bin .lss 3 (.t 6) (.t 8)), 4, none, 0⟩] (some [0, 1, 5, 9]))
      (.cond (.t 9)
        .skip
        (.exit 0)))
    (.seq
      (.block 1
        (.seq
          (.seq
            (.region false [⟨some 12, (.mv (.t 0)), 22, none, 0⟩, ⟨some 13, (.mv (.t 5)), 3, none, 0⟩, ⟨some 14, (.iaddr 22 (.t 12) (.t 13)), 0, none, 0⟩, ⟨some 15, (.load 3 (.t 14)), 3, none, 0⟩, ⟨some 16, (.mv (.t 1)), 3, none, 0⟩, ⟨some 17, (.bin .neq 3 (.t 15) (.t 16)), 4, none, 0⟩] (some [0, 1, 5, 17]))
            (.cond (.t 17)
              (.seq
                (.region false [⟨some 4, (.mv (.c (.int .i64 (-1)))), 3, none, 0⟩] (some [4]))
                .ret)
              .skip))
          (.region false [⟨some 18, (.mv (.t 1)), 3, none, 0⟩, ⟨some 19, (.bin .add 3 (.t 18) (.c (.int .i64 1))), 3, none, 0⟩, ⟨some 1, (.mv (.t 19)), 3, none, 0⟩] (some [0, 1, 5]))))
      (.region false [⟨some 10, (.mv (.t 5)), 3, none, 0⟩, ⟨some 11, (.bin .add 3 (.t 10) (.c (.int .i64 1))), 3, none, 0⟩, ⟨some 5, (.mv (.t 11)), 3, none, 0⟩] (some [0, 1, 5]))))
def fa_27 : FnA := ⟨21, [.t 4],
  (.seq
    (.region false [⟨some 4, (.mv (.c (.int .i64 0))), 3, none, 0⟩] (some [0, 1]))
    (.seq
      (.seq
        (.region false [⟨some 5, (.mv (.c (.int .i64 0))), 3, none, 0⟩] (some [0, 1, 5]))
        (.block 0
          (.loop [0, 1, 5] [] lb_27_2)))
      (.seq
        (.region false [⟨some 20, (.mv (.t 1)), 3, none, 0⟩, ⟨some 4, (.mv (.t 20)), 3, none, 0⟩] (some [4]))
        .ret)))⟩
theorem fok_27 : FnOk Try.prog 27 fa_27 an_27 := ⟨Try.f27, _, Try.func27, rfl, by kernel_rfl, rfl, rfl, by decide, by kernel_rfl⟩
end Go.PS
end

section
-- PRINTED by gen.py: clean texts of functions, and their tie to the program.
set_option maxRecDepth 100000
namespace Go.PS
open Go.Proofs
/-- laws.heldIntSS -/
def an_103 : Ann := ⟨[(4, 5, 3)], [(0, [0, 1]), (1, [0, 1, 5]), (2, [0, 1, 5, 9]), (4, [0, 1, 5]), (5, [0, 1, 5, 19]), (6, [4]), (3, [0, 1, 5]), (7, [4])], [(2, [0, 1, 5], [])], []⟩
def lb_103_2 : AC :=
  (.seq
    (.seq
      (.region false [⟨some 6, (.mv (.t 5)), 3, none, 0⟩, ⟨some 7, (.mv (.t 0)), 23, none, 0⟩, ⟨some 8, (.len 23 (.t 7)), 3, none, 0⟩, ⟨some 9, (.bin .lss 3 (.t 6) (.t 8)), 4, none, 0⟩] (some [0, 1, 5, 9]))
      (.cond (.t 9)
        .skip
        (.exit 0)))
    (.seq
      (.block 1
        (.seq
          (.region false [⟨some 12, (.mv (.t 0)), 23, none, 0⟩, ⟨some 13, (.mv (.t 5)), 3, none, 0⟩, ⟨some 14, (.iaddr 23 (.t 12) (.t 13)), 0, none, 0⟩, ⟨some 15, (.load 22 (.t 14)), 22, none, 0⟩, ⟨some 16, (.mv (.t 1)), 3, none, 0⟩, ⟨some 17, (.call (.f 27) [(.t 15), (.t 16)]), 3, none, 3⟩, ⟨some 1, (.mv (.t 17)), 3, none, 0⟩] (some [0, 1, 5]))
          (.seq
            (.region false [⟨some 18, (.mv (.t 1)), 3, none, 0⟩, ⟨some 19, (.bin .lss 3 (.t 18) (.c (.int .i64 0))), 4, none, 0⟩] (some [0, 1, 5, 19]))
            (.cond (.t 19)
              (.seq
                (.region false [⟨some 4, (.mv (.c (.int .i64 (-1)))), 3, none, 0⟩] (some [4]))
                .ret)
              .skip))))
      (.region false [⟨some 10, (.mv (.t 5)), 3, none, 0⟩, ⟨some 11, (.bin .add 3 (.t 10) (.c (.int .i64 1))), 3, none, 0⟩, ⟨some 5, (.mv (.t 11)), 3, none, 0⟩] (some [0, 1, 5]))))
def fa_103 : FnA := ⟨21, [.t 4],
  (.seq
    (.region false [⟨some 4, (.mv (.c (.int .i64 0))), 3, none, 0⟩] (some [0, 1]))
    (.seq
      (.seq
        (.region false [⟨some 5, (.mv (.c (.int .i64 0))), 3, none, 0⟩] (some [0, 1, 5]))
        (.block 0
          (.loop [0, 1, 5] [] lb_103_2)))
      (.seq
        (.region false [⟨some 20, (.mv (.t 1)), 3, none, 0⟩, ⟨some 4, (.mv (.t 20)), 3, none, 0⟩] (some [4]))
        .ret)))⟩
theorem fok_103 : FnOk Try.prog 103 fa_103 an_103 := ⟨Try.f103, _, Try.func103, rfl, by kernel_rfl, rfl, rfl, by decide, by kernel_rfl⟩
/-- spec.isNucleus -/
def an_113 : Ann := ⟨[(7, 6, 3), (12, 7, 3), (17, 4, 3), (17, 16, 3), (17, 47, 3)], [(0, [1, 2]), (1, [1, 2, 5]), (2, [1, 2, 5, 15]), (3, [4]), (4, [1, 2, 5, 6]), (5, [1, 2, 5, 6, 18]), (7, [1, 2, 5, 6, 28]), (8, [4]), (6, [1, 2, 5, 6]), (9, [1, 2, 5, 7]), (10, [1, 2, 5, 7, 31]), (12, [1, 2, 5, 7, 56]), (13, [4]), (14, [1, 2, 5, 7, 8]), (15, [1, 2, 5, 7, 8, 59]), (17, [1, 2, 5, 7, 8, 111]), (18, [4]), (16, [1, 2, 5, 7, 8]), (11, [1, 2, 5, 7]), (19, [4])], [(5, [1, 2, 5, 6], []), (10, [1, 2, 5, 7], []), (15, [1, 2, 5, 7, 8], [])], []⟩
def lb_113_5 : AC :=
  (.seq
    (.seq
      (.region false [⟨some 16, (.mv (.t 6)), 3, none, 0⟩, ⟨some 17, (.mv (.t 5)), 3, none, 0⟩, ⟨some 18, (.bin .lss 3 (.t 16) (.t 17)), 4, none, 0⟩] (some [1, 2, 5, 6, 18]))
      (.cond (.t 18)
        .skip
        (.exit 0)))
    (.seq
      (.block 1
        (.seq
          (.region false [⟨some 21, (.mv (.t 1)), 22, none, 0⟩, ⟨some 22, (.mv (.t 6)), 3, none, 0⟩, ⟨some 23, (.iaddr 22 (.t 21) (.t 22)), 0, none, 0⟩, ⟨some 24, (.load 3 (.t 23)), 3, none, 0⟩, ⟨some 25, (.mv (.t 5)), 3, none, 0⟩, ⟨some 26, (.bin .sub 3 (.t 25) (.c (.int .i64 1))), 3, none, 0⟩, ⟨some 27, (.call (.f 99) [(.t 24), (.c (.int .i64 0)), (.t 26)]), 4, none, 3⟩, ⟨some 28, (.un .not (.t 27)), 4, none, 0⟩] (some [1, 2, 5, 6, 28]))
          (.cond (.t 28)
            (.seq
              (.region false [⟨some 4, (.mv (.c (.bool false))), 4, none, 0⟩] (some [4]))
              .ret)
            .skip)))
      (.region false [⟨some 19, (.mv (.t 6)), 3, none, 0⟩, ⟨some 20, (.bin .add 3 (.t 19) (.c (.int .i64 1))), 3, none, 0⟩, ⟨some 6, (.mv (.t 20)), 3, none, 0⟩] (some [1, 2, 5, 6]))))
def lb_113_15 : AC :=
  (.seq
    (.seq
      (.region false [⟨some 57, (.mv (.t 8)), 3, none, 0⟩, ⟨some 58, (.mv (.t 5)), 3, none, 0⟩, ⟨some 59, (.bin .lss 3 (.t 57) (.t 58)), 4, none, 0⟩] (some [1, 2, 5, 7, 8, 59]))
      (.cond (.t 59)
        .skip
        (.exit 4)))
    (.seq
      (.block 5
        (.seq
          (.region true (gops (seg [1, 2, 5, 7, 8, 67, 69, 70, 71] [⟨some 62, (.faddr 28 (.t 2) 0), 0, none, 0⟩, ⟨some 63, (.load 22 (.t 62)), 22, none, 0⟩, ⟨some 64, (.mv (.t 7)), 3, none, 0⟩, ⟨some 65, (.mv (.t 8)), 3, none, 0⟩, ⟨some 66, (.call (.f 177) [(.t 63), (.t 64), (.t 65)]), 4, none, 3⟩, ⟨some 67, (.mv (.t 66)), 4, none, 0⟩, ⟨some 68, (.faddr 28 (.t 2) 0), 0, some (67, true), 0⟩, ⟨some 69, (.load 22 (.t 68)), 22, some (67, true), 0⟩, ⟨some 70, (.mv (.t 1)), 22, some (67, true), 0⟩, ⟨some 71, (.mv (.t 7)), 3, some (67, true), 0⟩]
          (seg [1, 2, 5, 7, 8, 81] [⟨some 72, (.iaddr 22 (.t 70) (.t 71)), 0, some (67, true), 0⟩, ⟨some 73, (.load 3 (.t 72)), 3, some (67, true), 0⟩, ⟨some 74, (.mv (.t 1)), 22, some (67, true), 0⟩, ⟨some 75, (.mv (.t 8)), 3, some (67, true), 0⟩, ⟨some 76, (.iaddr 22 (.t 74) (.t 75)), 0, some (67, true), 0⟩, ⟨some 77, (.load 3 (.t 76)), 3, some (67, true), 0⟩, ⟨some 78, (.call (.f 177) [(.t 69), (.t 73), (.t 77)]), 4, some (67, true), 3⟩, ⟨some 79, (.un .not (.t 78)), 4, some (67, true), 0⟩, ⟨some 80, (.pick (.t 67) (.t 79) (.c (.bool false))), 4, none, 0⟩, ⟨some 81, (.mv (.t 80)), 4, none, 0⟩]
          (seg [1, 2, 5, 7, 8, 81, 83, 91] [⟨some 82, (.faddr 28 (.t 2) 0), 0, some (81, false), 0⟩, ⟨some 83, (.load 22 (.t 82)), 22, some (81, false), 0⟩, ⟨some 84, (.faddr 28 (.t 2) 1), 0, some (81, false), 0⟩, ⟨some 85, (.load 23 (.t 84)), 23, some (81, false), 0⟩, ⟨some 86, (.mv (.t 1)), 22, some (81, false), 0⟩, ⟨some 87, (.mv (.t 7)), 3, some (81, false), 0⟩, ⟨some 88, (.iaddr 22 (.t 86) (.t 87)), 0, some (81, false), 0⟩, ⟨some 89, (.load 3 (.t 88)), 3, some (81, false), 0⟩, ⟨some 90, (.iaddr 23 (.t 85) (.t 89)), 0, some (81, false), 0⟩, ⟨some 91, (.load 22 (.t 90)), 22, some (81, false), 0⟩]
          (seg [1, 2, 5, 7, 8, 81, 83, 97, 98, 100, 101] [⟨some 92, (.mv (.t 1)), 22, some (81, false), 0⟩, ⟨some 93, (.mv (.t 8)), 3, some (81, false), 0⟩, ⟨some 94, (.iaddr 22 (.t 92) (.t 93)), 0, some (81, false), 0⟩, ⟨some 95, (.load 3 (.t 94)), 3, some (81, false), 0⟩, ⟨some 96, (.iaddr 22 (.t 91) (.t 95)), 0, some (81, false), 0⟩, ⟨some 97, (.load 3 (.t 96)), 3, some (81, false), 0⟩, ⟨some 98, (.mv (.t 1)), 22, some (81, false), 0⟩, ⟨some 99, (.faddr 28 (.t 2) 1), 0, some (81, false), 0⟩, ⟨some 100, (.load 23 (.t 99)), 23, some (81, false), 0⟩, ⟨some 101, (.mv (.t 7)), 3, some (81, false), 0⟩]
          [⟨some 102, (.iaddr 23 (.t 100) (.t 101)), 0, some (81, false), 0⟩, ⟨some 103, (.load 22 (.t 102)), 22, some (81, false), 0⟩, ⟨some 104, (.mv (.t 8)), 3, some (81, false), 0⟩, ⟨some 105, (.iaddr 22 (.t 103) (.t 104)), 0, some (81, false), 0⟩, ⟨some 106, (.load 3 (.t 105)), 3, some (81, false), 0⟩, ⟨some 107, (.iaddr 22 (.t 98) (.t 106)), 0, some (81, false), 0⟩, ⟨some 108, (.load 3 (.t 107)), 3, some (81, false), 0⟩, ⟨some 109, (.call (.f 177) [(.t 83), (.t 97), (.t 108)]), 4, some (81, false), 3⟩, ⟨some 110, (.un .not (.t 109)), 4, some (81, false), 0⟩, ⟨some 111, (.pick (.t 81) (.c (.bool true)) (.t 110)), 4, none, 0⟩] [1, 2, 5, 7, 8, 111] (by decide)) [1, 2, 5, 7, 8, 111] (by decide)) [1, 2, 5, 7, 8, 111] (by decide)) [1, 2, 5, 7, 8, 111] (by decide))) (some [1, 2, 5, 7, 8, 111]))
          (.cond (.t 111)
            (.seq
              (.region false [⟨some 4, (.mv (.c (.bool false))), 4, none, 0⟩] (some [4]))
              .ret)
            .skip)))
      (.region false [⟨some 60, (.mv (.t 8)), 3, none, 0⟩, ⟨some 61, (.bin .add 3 (.t 60) (.c (.int .i64 1))), 3, none, 0⟩, ⟨some 8, (.mv (.t 61)), 3, none, 0⟩] (some [1, 2, 5, 7, 8]))))
def lb_113_10 : AC :=
  (.seq
    (.seq
      (.region false [⟨some 29, (.mv (.t 7)), 3, none, 0⟩, ⟨some 30, (.mv (.t 5)), 3, none, 0⟩, ⟨some 31, (.bin .lss 3 (.t 29) (.t 30)), 4, none, 0⟩] (some [1, 2, 5, 7, 31]))
      (.cond (.t 31)
        .skip
        (.exit 2)))
    (.seq
      (.block 3
        (.seq
          (.seq
            (.region true (gops (seg [1, 2, 5, 7, 43] [⟨some 34, (.faddr 28 (.t 2) 0), 0, none, 0⟩, ⟨some 35, (.load 22 (.t 34)), 22, none, 0⟩, ⟨some 36, (.mv (.t 7)), 3, none, 0⟩, ⟨some 37, (.mv (.t 1)), 22, none, 0⟩, ⟨some 38, (.mv (.t 7)), 3, none, 0⟩, ⟨some 39, (.iaddr 22 (.t 37) (.t 38)), 0, none, 0⟩, ⟨some 40, (.load 3 (.t 39)), 3, none, 0⟩, ⟨some 41, (.call (.f 177) [(.t 35), (.t 36), (.t 40)]), 4, none, 3⟩, ⟨some 42, (.un .not (.t 41)), 4, none, 0⟩, ⟨some 43, (.mv (.t 42)), 4, none, 0⟩]
            [⟨some 44, (.mv (.t 1)), 22, some (43, false), 0⟩, ⟨some 45, (.mv (.t 1)), 22, some (43, false), 0⟩, ⟨some 46, (.mv (.t 7)), 3, some (43, false), 0⟩, ⟨some 47, (.iaddr 22 (.t 45) (.t 46)), 0, some (43, false), 0⟩, ⟨some 48, (.load 3 (.t 47)), 3, some (43, false), 0⟩, ⟨some 49, (.iaddr 22 (.t 44) (.t 48)), 0, some (43, false), 0⟩, ⟨some 50, (.load 3 (.t 49)), 3, some (43, false), 0⟩, ⟨some 51, (.mv (.t 1)), 22, some (43, false), 0⟩, ⟨some 52, (.mv (.t 7)), 3, some (43, false), 0⟩, ⟨some 53, (.iaddr 22 (.t 51) (.t 52)), 0, some (43, false), 0⟩, ⟨some 54, (.load 3 (.t 53)), 3, some (43, false), 0⟩, ⟨some 55, (.bin .neq 3 (.t 50) (.t 54)), 4, some (43, false), 0⟩, ⟨some 56, (.pick (.t 43) (.c (.bool true)) (.t 55)), 4, none, 0⟩] [1, 2, 5, 7, 56] (by decide))) (some [1, 2, 5, 7, 56]))
            (.cond (.t 56)
              (.seq
                (.region false [⟨some 4, (.mv (.c (.bool false))), 4, none, 0⟩] (some [4]))
                .ret)
              .skip))
          (.seq
            (.region false [⟨some 8, (.mv (.c (.int .i64 0))), 3, none, 0⟩] (some [1, 2, 5, 7, 8]))
            (.block 4
              (.loop [1, 2, 5, 7, 8] [] lb_113_15)))))
      (.region false [⟨some 32, (.mv (.t 7)), 3, none, 0⟩, ⟨some 33, (.bin .add 3 (.t 32) (.c (.int .i64 1))), 3, none, 0⟩, ⟨some 7, (.mv (.t 33)), 3, none, 0⟩] (some [1, 2, 5, 7]))))
def fa_113 : FnA := ⟨112, [.t 4],
  (.seq
    (.region false [⟨some 2, (.box 28 (.t 0)), 0, none, 0⟩, ⟨some 4, (.mv (.c (.bool false))), 4, none, 0⟩] (some [1, 2]))
    (.seq
      (.region false [⟨some 9, (.faddr 28 (.t 2) 0), 0, none, 0⟩, ⟨some 10, (.load 22 (.t 9)), 22, none, 0⟩, ⟨some 11, (.len 22 (.t 10)), 3, none, 0⟩, ⟨some 5, (.mv (.t 11)), 3, none, 0⟩] (some [1, 2, 5]))
      (.seq
        (.seq
          (.region false [⟨some 12, (.mv (.t 1)), 22, none, 0⟩, ⟨some 13, (.len 22 (.t 12)), 3, none, 0⟩, ⟨some 14, (.mv (.t 5)), 3, none, 0⟩, ⟨some 15, (.bin .neq 3 (.t 13) (.t 14)), 4, none, 0⟩] (some [1, 2, 5, 15]))
          (.cond (.t 15)
            (.seq
              (.region false [⟨some 4, (.mv (.c (.bool false))), 4, none, 0⟩] (some [4]))
              .ret)
            .skip))
        (.seq
          (.seq
            (.region false [⟨some 6, (.mv (.c (.int .i64 0))), 3, none, 0⟩] (some [1, 2, 5, 6]))
            (.block 0
              (.loop [1, 2, 5, 6] [] lb_113_5)))
          (.seq
            (.seq
              (.region false [⟨some 7, (.mv (.c (.int .i64 0))), 3, none, 0⟩] (some [1, 2, 5, 7]))
              (.block 2
                (.loop [1, 2, 5, 7] [] lb_113_10)))
            (.seq
              (.region false [⟨some 4, (.mv (.c (.bool true))), 4, none, 0⟩] (some [4]))
              .ret))))))⟩
theorem fok_113 : FnOk Try.prog 113 fa_113 an_113 := ⟨Try.f113, _, Try.func113, rfl, by kernel_rfl, rfl, rfl, by decide, by kernel_rfl⟩
/-- spec.nucleiFrom -/
def an_155 : Ann := ⟨[(3, 2, 3), (4, 0, 1), (4, 2, 2), (6, 0, 1), (10, 4, 3), (14, 4, 3), (14, 14, 3), (16, 2, 1), (16, 7, 2), (16, 8, 3), (17, 1, 2)], [(0, [1, 2]), (1, [1, 2, 5]), (2, [1, 2, 5, 16]), (3, [1, 19]), (4, [4]), (5, [4]), (6, [1, 2, 5, 6]), (7, [1, 2, 5, 6, 7]), (8, [1, 2, 5, 6, 7, 30]), (10, [1, 2, 5, 6, 7, 8]), (11, [1, 2, 5, 6, 7, 8, 9]), (12, [1, 2, 5, 6, 7, 8, 9, 43]), (14, [1, 2, 5, 6, 7, 8, 9]), (13, [1, 2, 5, 6, 7, 8, 9]), (15, [1, 2, 5, 6, 7, 62]), (16, [1, 2, 5, 6, 7]), (9, [1, 2, 5, 6, 7]), (17, [4])], [(8, [1, 2, 5, 6, 7], [200, 576]), (12, [1, 2, 5, 6, 7, 8, 9], [200, 576])], [(16, (.one 0 (.one 3 (.one 5 (.one 6 (.imm 1 (.alt 2 (.alt 4 (.alt 7 (.alt 8 (.alt 9 (.one 10 .fin) .stop) .stop) .stop) .stop) .stop)))))), [200, 576])]⟩
def lb_155_12 : AC :=
  (.seq
    (.seq
      (.region false (gops [⟨some 38, (.mv (.t 9)), 3, none, 0⟩, ⟨some 39, (.mv (.t 5)), 3, none, 0⟩, ⟨some 40, (.bin .lss 3 (.t 38) (.t 39)), 4, none, 0⟩, ⟨some 41, (.mv (.t 40)), 4, none, 0⟩, ⟨some 42, (.mv (.t 8)), 4, some (41, true), 0⟩, ⟨some 43, (.pick (.t 41) (.t 42) (.c (.bool false))), 4, none, 0⟩]) (some [1, 2, 5, 6, 7, 8, 9, 43]))
      (.cond (.t 43)
        .skip
        (.exit 2)))
    (.seq
      (.block 3
        (.region true (gops [⟨some 46, (.faddr 28 (.t 2) 0), 0, none, 0⟩, ⟨some 47, (.load 22 (.t 46)), 22, none, 0⟩, ⟨some 48, (.mv (.t 9)), 3, none, 0⟩, ⟨some 49, (.mv (.t 5)), 3, none, 0⟩, ⟨some 50, (.call (.f 177) [(.t 47), (.t 48), (.t 49)]), 4, none, 3⟩, ⟨some 51, (.un .not (.t 50)), 4, none, 0⟩, ⟨some 52, (.mv (.t 51)), 4, none, 0⟩, ⟨some 53, (.faddr 28 (.t 2) 0), 0, some (52, false), 0⟩, ⟨some 54, (.load 22 (.t 53)), 22, some (52, false), 0⟩, ⟨some 55, (.mv (.t 1)), 22, some (52, false), 0⟩, ⟨some 56, (.mv (.t 9)), 3, some (52, false), 0⟩, ⟨some 57, (.iaddr 22 (.t 55) (.t 56)), 0, some (52, false), 0⟩, ⟨some 58, (.load 3 (.t 57)), 3, some (52, false), 0⟩, ⟨some 59, (.mv (.t 7)), 3, some (52, false), 0⟩, ⟨some 60, (.call (.f 177) [(.t 54), (.t 58), (.t 59)]), 4, some (52, false), 3⟩, ⟨some 61, (.pick (.t 52) (.c (.bool true)) (.t 60)), 4, none, 0⟩, ⟨some 8, (.mv (.t 61)), 4, none, 0⟩]) (some [1, 2, 5, 6, 7, 8, 9])))
      (.region false [⟨some 44, (.mv (.t 9)), 3, none, 0⟩, ⟨some 45, (.bin .add 3 (.t 44) (.c (.int .i64 1))), 3, none, 0⟩, ⟨some 9, (.mv (.t 45)), 3, none, 0⟩] (some [1, 2, 5, 6, 7, 8, 9]))))
def lb_155_8 : AC :=
  (.seq
    (.seq
      (.region false [⟨some 26, (.mv (.t 7)), 3, none, 0⟩, ⟨some 27, (.faddr 28 (.t 2) 0), 0, none, 0⟩, ⟨some 28, (.load 22 (.t 27)), 22, none, 0⟩, ⟨some 29, (.len 22 (.t 28)), 3, none, 0⟩, ⟨some 30, (.bin .lss 3 (.t 26) (.t 29)), 4, none, 0⟩] (some [1, 2, 5, 6, 7, 30]))
      (.cond (.t 30)
        .skip
        (.exit 0)))
    (.seq
      (.block 1
        (.seq
          (.region false [⟨some 33, (.faddr 28 (.t 2) 0), 0, none, 0⟩, ⟨some 34, (.load 22 (.t 33)), 22, none, 0⟩, ⟨some 35, (.mv (.t 5)), 3, none, 0⟩, ⟨some 36, (.mv (.t 7)), 3, none, 0⟩, ⟨some 37, (.call (.f 177) [(.t 34), (.t 35), (.t 36)]), 4, none, 3⟩, ⟨some 8, (.mv (.t 37)), 4, none, 0⟩] (some [1, 2, 5, 6, 7, 8]))
          (.seq
            (.seq
              (.region false [⟨some 9, (.mv (.c (.int .i64 0))), 3, none, 0⟩] (some [1, 2, 5, 6, 7, 8, 9]))
              (.block 2
                (.loop [1, 2, 5, 6, 7, 8, 9] [200, 576] lb_155_12)))
            (.seq
              (.region false [⟨some 62, (.mv (.t 8)), 4, none, 0⟩] (some [1, 2, 5, 6, 7, 62]))
              (.cond (.t 62)
                (.expl [⟨some 63, (.mv (.t 6)), 23, none, 0⟩, ⟨some 64, (.load 28 (.t 2)), 28, none, 0⟩, ⟨some 65, (.bslice 22 0 []), 22, none, 1⟩, ⟨some 66, (.mv (.t 1)), 22, none, 0⟩, ⟨some 67, (.app 22 22 (.t 65) (.t 66)), 22, none, 0⟩, ⟨some 68, (.mv (.t 7)), 3, none, 0⟩, ⟨some 69, (.bslice 22 1 [(0, (.t 68))]), 22, none, 0⟩, ⟨some 70, (.app 22 22 (.t 67) (.t 69)), 22, none, 2⟩, ⟨some 71, (.call (.f 155) [(.t 64), (.t 70)]), 23, none, 3⟩, ⟨some 72, (.app 23 23 (.t 63) (.t 71)), 23, none, 0⟩, ⟨some 6, (.mv (.t 72)), 23, none, 0⟩] (.one 0 (.one 3 (.one 5 (.one 6 (.imm 1 (.alt 2 (.alt 4 (.alt 7 (.alt 8 (.alt 9 (.one 10 .fin) .stop) .stop) .stop) .stop) .stop)))))) [1, 2, 5, 6, 7] [200, 576])
                .skip)))))
      (.region false [⟨some 31, (.mv (.t 7)), 3, none, 0⟩, ⟨some 32, (.bin .add 3 (.t 31) (.c (.int .i64 1))), 3, none, 0⟩, ⟨some 7, (.mv (.t 32)), 3, none, 0⟩] (some [1, 2, 5, 6, 7]))))
def fa_155 : FnA := ⟨74, [.t 4],
  (.seq
    (.region false [⟨some 2, (.box 28 (.t 0)), 0, none, 0⟩, ⟨some 4, (.mv (.c .nil)), 23, none, 0⟩] (some [1, 2]))
    (.seq
      (.region false [⟨some 10, (.mv (.t 1)), 22, none, 0⟩, ⟨some 11, (.len 22 (.t 10)), 3, none, 0⟩, ⟨some 5, (.mv (.t 11)), 3, none, 0⟩] (some [1, 2, 5]))
      (.seq
        (.seq
          (.region false [⟨some 12, (.mv (.t 5)), 3, none, 0⟩, ⟨some 13, (.faddr 28 (.t 2) 0), 0, none, 0⟩, ⟨some 14, (.load 22 (.t 13)), 22, none, 0⟩, ⟨some 15, (.len 22 (.t 14)), 3, none, 0⟩, ⟨some 16, (.bin .eql 3 (.t 12) (.t 15)), 4, none, 0⟩] (some [1, 2, 5, 16]))
          (.cond (.t 16)
            (.seq
              (.seq
                (.region false [⟨some 17, (.load 28 (.t 2)), 28, none, 0⟩, ⟨some 18, (.mv (.t 1)), 22, none, 0⟩, ⟨some 19, (.call (.f 113) [(.t 17), (.t 18)]), 4, none, 3⟩] (some [1, 19]))
                (.cond (.t 19)
                  (.seq
                    (.region false [⟨some 20, (.bslice 22 0 []), 22, none, 1⟩, ⟨some 21, (.mv (.t 1)), 22, none, 0⟩, ⟨some 22, (.app 22 22 (.t 20) (.t 21)), 22, none, 2⟩, ⟨some 23, (.bslice 23 1 [(0, (.t 22))]), 23, none, 0⟩, ⟨some 4, (.mv (.t 23)), 23, none, 0⟩] (some [4]))
                    .ret)
                  .skip))
              (.seq
                (.region false [⟨some 24, (.bslice 23 0 []), 23, none, 0⟩, ⟨some 4, (.mv (.t 24)), 23, none, 0⟩] (some [4]))
                .ret))
            .skip))
        (.seq
          (.region false [⟨some 25, (.bslice 23 0 []), 23, none, 1⟩, ⟨some 6, (.mv (.t 25)), 23, none, 0⟩] (some [1, 2, 5, 6]))
          (.seq
            (.seq
              (.region false [⟨some 7, (.mv (.c (.int .i64 0))), 3, none, 0⟩] (some [1, 2, 5, 6, 7]))
              (.block 0
                (.loop [1, 2, 5, 6, 7] [200, 576] lb_155_8)))
            (.seq
              (.region false [⟨some 73, (.mv (.t 6)), 23, none, 0⟩, ⟨some 4, (.mv (.t 73)), 23, none, 2⟩] (some [4]))
              .ret))))))⟩
theorem fok_155 : FnOk Try.prog 155 fa_155 an_155 := ⟨Try.f155, _, Try.func155, rfl, by kernel_rfl, rfl, rfl, by decide, by kernel_rfl⟩
/-- spec.NucleiOf -/
def an_77 : Ann := ⟨[(1, 1, 3), (3, 2, 3)], [(0, [1]), (1, [1, 5]), (2, [2]), (3, [2])], [], []⟩
def fa_77 : FnA := ⟨9, [.t 2],
  (.seq
    (.region false [⟨some 1, (.box 28 (.t 0)), 0, none, 0⟩, ⟨some 2, (.mv (.c .nil)), 23, none, 0⟩] (some [1]))
    (.seq
      (.seq
        (.region false [⟨some 3, (.load 28 (.t 1)), 28, none, 0⟩, ⟨some 4, (.call (.f 88) [(.t 3)]), 4, none, 3⟩, ⟨some 5, (.un .not (.t 4)), 4, none, 0⟩] (some [1, 5]))
        (.cond (.t 5)
          (.seq
            (.region false [⟨some 2, (.mv (.c .nil)), 23, none, 0⟩] (some [2]))
            .ret)
          .skip))
      (.seq
        (.region false [⟨some 6, (.load 28 (.t 1)), 28, none, 0⟩, ⟨some 7, (.bslice 22 0 []), 22, none, 0⟩, ⟨some 8, (.call (.f 155) [(.t 6), (.t 7)]), 23, none, 3⟩, ⟨some 2, (.mv (.t 8)), 23, none, 0⟩] (some [2]))
        .ret)))⟩
theorem fok_77 : FnOk Try.prog 77 fa_77 an_77 := ⟨Try.f77, _, Try.func77, rfl, by kernel_rfl, rfl, rfl, by decide, by kernel_rfl⟩
/-- impl.isNucleus$1 -/
def an_193 : Ann := ⟨[(1, 4, 3)], [(0, [0, 1]), (1, [3])], [], []⟩
def fa_193 : FnA := ⟨10, [.t 3],
  (.seq
    (.region false [⟨some 3, (.mv (.c (.bool false))), 4, none, 0⟩] (some [0, 1]))
    (.seq
      (.region false [⟨some 4, (.mv (.t 0)), 3, none, 0⟩, ⟨some 5, (.load 22 (.t 1)), 22, none, 0⟩, ⟨some 6, (.len 22 (.t 5)), 3, none, 0⟩, ⟨some 7, (.bin .sub 3 (.t 6) (.c (.int .i64 1))), 3, none, 0⟩, ⟨some 8, (.call (.f 101) [(.t 4), (.c (.int .i64 0)), (.t 7)]), 4, none, 3⟩, ⟨some 9, (.un .not (.t 8)), 4, none, 0⟩, ⟨some 3, (.mv (.t 9)), 4, none, 0⟩] (some [3]))
      .ret))⟩
theorem fok_193 : FnOk Try.prog 193 fa_193 an_193 := ⟨Try.f193, _, Try.func193, rfl, by kernel_rfl, rfl, rfl, by decide, by kernel_rfl⟩
/-- impl.isNucleus -/
def an_154 : Ann := ⟨[(1, 9, 3), (6, 7, 3), (11, 4, 3), (11, 16, 3), (11, 47, 3)], [(0, [2, 3]), (1, [2, 3, 17]), (2, [4]), (3, [2, 3, 19, 20]), (4, [2, 3, 19, 20, 21]), (5, [2, 3, 5, 19, 20]), (6, [2, 3, 5, 19, 20, 45]), (7, [4]), (8, [2, 3, 5, 19, 20, 47, 48]), (9, [2, 3, 5, 19, 20, 47, 48, 49]), (10, [2, 3, 5, 6, 19, 20, 47, 48]), (11, [2, 3, 5, 19, 20, 47, 48, 100]), (12, [4]), (13, [2, 3, 5, 19, 20, 47, 48]), (14, [2, 3, 19, 20]), (15, [4])], [(4, [2, 3, 19, 20], []), (9, [2, 3, 5, 19, 20, 47, 48], [])], []⟩
def lb_154_9 : AC :=
  (.seq
    (.region false [⟨some 49, (.bin .lss 3 (.t 48) (.t 47)), 0, none, 0⟩] (some [2, 3, 5, 19, 20, 47, 48, 49]))
    (.seq
      (.cond (.t 49)
        .skip
        (.exit 2))
      (.seq
        (.block 3
          (.seq
            (.region false [⟨some 50, (.mv (.t 48)), 3, none, 0⟩, ⟨some 6, (.mv (.t 50)), 3, none, 0⟩] (some [2, 3, 5, 6, 19, 20, 47, 48]))
            (.seq
              (.region true (gops (seg [2, 3, 5, 6, 19, 20, 47, 48, 56, 58, 59, 60] [⟨some 51, (.faddr 28 (.t 2) 0), 0, none, 0⟩, ⟨some 52, (.load 22 (.t 51)), 22, none, 0⟩, ⟨some 53, (.mv (.t 5)), 3, none, 0⟩, ⟨some 54, (.mv (.t 6)), 3, none, 0⟩, ⟨some 55, (.call (.f 111) [(.t 52), (.t 53), (.t 54)]), 4, none, 3⟩, ⟨some 56, (.mv (.t 55)), 4, none, 0⟩, ⟨some 57, (.faddr 28 (.t 2) 0), 0, some (56, true), 0⟩, ⟨some 58, (.load 22 (.t 57)), 22, some (56, true), 0⟩, ⟨some 59, (.load 22 (.t 3)), 22, some (56, true), 0⟩, ⟨some 60, (.mv (.t 5)), 3, some (56, true), 0⟩]
              (seg [2, 3, 5, 6, 19, 20, 47, 48, 70] [⟨some 61, (.iaddr 22 (.t 59) (.t 60)), 0, some (56, true), 0⟩, ⟨some 62, (.load 3 (.t 61)), 3, some (56, true), 0⟩, ⟨some 63, (.load 22 (.t 3)), 22, some (56, true), 0⟩, ⟨some 64, (.mv (.t 6)), 3, some (56, true), 0⟩, ⟨some 65, (.iaddr 22 (.t 63) (.t 64)), 0, some (56, true), 0⟩, ⟨some 66, (.load 3 (.t 65)), 3, some (56, true), 0⟩, ⟨some 67, (.call (.f 111) [(.t 58), (.t 62), (.t 66)]), 4, some (56, true), 3⟩, ⟨some 68, (.un .not (.t 67)), 4, some (56, true), 0⟩, ⟨some 69, (.pick (.t 56) (.t 68) (.c (.bool false))), 4, none, 0⟩, ⟨some 70, (.mv (.t 69)), 4, none, 0⟩]
              (seg [2, 3, 5, 6, 19, 20, 47, 48, 70, 72, 80] [⟨some 71, (.faddr 28 (.t 2) 0), 0, some (70, false), 0⟩, ⟨some 72, (.load 22 (.t 71)), 22, some (70, false), 0⟩, ⟨some 73, (.faddr 28 (.t 2) 1), 0, some (70, false), 0⟩, ⟨some 74, (.load 23 (.t 73)), 23, some (70, false), 0⟩, ⟨some 75, (.load 22 (.t 3)), 22, some (70, false), 0⟩, ⟨some 76, (.mv (.t 5)), 3, some (70, false), 0⟩, ⟨some 77, (.iaddr 22 (.t 75) (.t 76)), 0, some (70, false), 0⟩, ⟨some 78, (.load 3 (.t 77)), 3, some (70, false), 0⟩, ⟨some 79, (.iaddr 23 (.t 74) (.t 78)), 0, some (70, false), 0⟩, ⟨some 80, (.load 22 (.t 79)), 22, some (70, false), 0⟩]
              (seg [2, 3, 5, 6, 19, 20, 47, 48, 70, 72, 86, 87, 89, 90] [⟨some 81, (.load 22 (.t 3)), 22, some (70, false), 0⟩, ⟨some 82, (.mv (.t 6)), 3, some (70, false), 0⟩, ⟨some 83, (.iaddr 22 (.t 81) (.t 82)), 0, some (70, false), 0⟩, ⟨some 84, (.load 3 (.t 83)), 3, some (70, false), 0⟩, ⟨some 85, (.iaddr 22 (.t 80) (.t 84)), 0, some (70, false), 0⟩, ⟨some 86, (.load 3 (.t 85)), 3, some (70, false), 0⟩, ⟨some 87, (.load 22 (.t 3)), 22, some (70, false), 0⟩, ⟨some 88, (.faddr 28 (.t 2) 1), 0, some (70, false), 0⟩, ⟨some 89, (.load 23 (.t 88)), 23, some (70, false), 0⟩, ⟨some 90, (.mv (.t 5)), 3, some (70, false), 0⟩]
              [⟨some 91, (.iaddr 23 (.t 89) (.t 90)), 0, some (70, false), 0⟩, ⟨some 92, (.load 22 (.t 91)), 22, some (70, false), 0⟩, ⟨some 93, (.mv (.t 6)), 3, some (70, false), 0⟩, ⟨some 94, (.iaddr 22 (.t 92) (.t 93)), 0, some (70, false), 0⟩, ⟨some 95, (.load 3 (.t 94)), 3, some (70, false), 0⟩, ⟨some 96, (.iaddr 22 (.t 87) (.t 95)), 0, some (70, false), 0⟩, ⟨some 97, (.load 3 (.t 96)), 3, some (70, false), 0⟩, ⟨some 98, (.call (.f 111) [(.t 72), (.t 86), (.t 97)]), 4, some (70, false), 3⟩, ⟨some 99, (.un .not (.t 98)), 4, some (70, false), 0⟩, ⟨some 100, (.pick (.t 70) (.c (.bool true)) (.t 99)), 4, none, 0⟩] [2, 3, 5, 19, 20, 47, 48, 100] (by decide)) [2, 3, 5, 19, 20, 47, 48, 100] (by decide)) [2, 3, 5, 19, 20, 47, 48, 100] (by decide)) [2, 3, 5, 19, 20, 47, 48, 100] (by decide))) (some [2, 3, 5, 19, 20, 47, 48, 100]))
              (.cond (.t 100)
                (.seq
                  (.region false [⟨some 4, (.mv (.c (.bool false))), 4, none, 0⟩] (some [4]))
                  .ret)
                .skip))))
        (.region false [⟨some 101, (.bin .add 3 (.t 48) (.c (.int .i64 1))), 3, none, 0⟩, ⟨some 48, (.mv (.t 101)), 3, none, 0⟩] (some [2, 3, 5, 19, 20, 47, 48])))))
def lb_154_4 : AC :=
  (.seq
    (.region false [⟨some 21, (.bin .lss 3 (.t 20) (.t 19)), 0, none, 0⟩] (some [2, 3, 19, 20, 21]))
    (.seq
      (.cond (.t 21)
        .skip
        (.exit 0))
      (.seq
        (.block 1
          (.seq
            (.region false [⟨some 22, (.mv (.t 20)), 3, none, 0⟩, ⟨some 5, (.mv (.t 22)), 3, none, 0⟩] (some [2, 3, 5, 19, 20]))
            (.seq
              (.seq
                (.region true (gops (seg [2, 3, 5, 19, 20, 32] [⟨some 23, (.faddr 28 (.t 2) 0), 0, none, 0⟩, ⟨some 24, (.load 22 (.t 23)), 22, none, 0⟩, ⟨some 25, (.mv (.t 5)), 3, none, 0⟩, ⟨some 26, (.load 22 (.t 3)), 22, none, 0⟩, ⟨some 27, (.mv (.t 5)), 3, none, 0⟩, ⟨some 28, (.iaddr 22 (.t 26) (.t 27)), 0, none, 0⟩, ⟨some 29, (.load 3 (.t 28)), 3, none, 0⟩, ⟨some 30, (.call (.f 111) [(.t 24), (.t 25), (.t 29)]), 4, none, 3⟩, ⟨some 31, (.un .not (.t 30)), 4, none, 0⟩, ⟨some 32, (.mv (.t 31)), 4, none, 0⟩]
                [⟨some 33, (.load 22 (.t 3)), 22, some (32, false), 0⟩, ⟨some 34, (.load 22 (.t 3)), 22, some (32, false), 0⟩, ⟨some 35, (.mv (.t 5)), 3, some (32, false), 0⟩, ⟨some 36, (.iaddr 22 (.t 34) (.t 35)), 0, some (32, false), 0⟩, ⟨some 37, (.load 3 (.t 36)), 3, some (32, false), 0⟩, ⟨some 38, (.iaddr 22 (.t 33) (.t 37)), 0, some (32, false), 0⟩, ⟨some 39, (.load 3 (.t 38)), 3, some (32, false), 0⟩, ⟨some 40, (.load 22 (.t 3)), 22, some (32, false), 0⟩, ⟨some 41, (.mv (.t 5)), 3, some (32, false), 0⟩, ⟨some 42, (.iaddr 22 (.t 40) (.t 41)), 0, some (32, false), 0⟩, ⟨some 43, (.load 3 (.t 42)), 3, some (32, false), 0⟩, ⟨some 44, (.bin .neq 3 (.t 39) (.t 43)), 4, some (32, false), 0⟩, ⟨some 45, (.pick (.t 32) (.c (.bool true)) (.t 44)), 4, none, 0⟩] [2, 3, 5, 19, 20, 45] (by decide))) (some [2, 3, 5, 19, 20, 45]))
                (.cond (.t 45)
                  (.seq
                    (.region false [⟨some 4, (.mv (.c (.bool false))), 4, none, 0⟩] (some [4]))
                    .ret)
                  .skip))
              (.seq
                (.region false [⟨some 46, (.load 22 (.t 3)), 22, none, 0⟩, ⟨some 47, (.len 22 (.t 46)), 3, none, 0⟩, ⟨some 48, (.mv (.c (.int .i64 0))), 3, none, 0⟩] (some [2, 3, 5, 19, 20, 47, 48]))
                (.block 2
                  (.loop [2, 3, 5, 19, 20, 47, 48] [] lb_154_9))))))
        (.region false [⟨some 102, (.bin .add 3 (.t 20) (.c (.int .i64 1))), 3, none, 0⟩, ⟨some 20, (.mv (.t 102)), 3, none, 0⟩] (some [2, 3, 19, 20])))))
def fa_154 : FnA := ⟨103, [.t 4],
  (.seq
    (.region false [⟨some 2, (.box 28 (.t 0)), 0, none, 0⟩, ⟨some 3, (.box 22 (.t 1)), 0, none, 0⟩, ⟨some 4, (.mv (.c (.bool false))), 4, none, 0⟩] (some [2, 3]))
    (.seq
      (.seq
        (.region false (gops [⟨some 7, (.load 22 (.t 3)), 22, none, 0⟩, ⟨some 8, (.len 22 (.t 7)), 3, none, 0⟩, ⟨some 9, (.faddr 28 (.t 2) 0), 0, none, 0⟩, ⟨some 10, (.load 22 (.t 9)), 22, none, 0⟩, ⟨some 11, (.len 22 (.t 10)), 3, none, 0⟩, ⟨some 12, (.bin .neq 3 (.t 8) (.t 11)), 4, none, 0⟩, ⟨some 13, (.mv (.t 12)), 4, none, 0⟩, ⟨some 14, (.load 22 (.t 3)), 22, some (13, false), 0⟩, ⟨some 15, (.mkfn 193 [(.t 3)]), 39, some (13, false), 0⟩, ⟨some 16, (.call (.f 108) [(.t 14), (.t 15)]), 4, some (13, false), 3⟩, ⟨some 17, (.pick (.t 13) (.c (.bool true)) (.t 16)), 4, none, 0⟩]) (some [2, 3, 17]))
        (.cond (.t 17)
          (.seq
            (.region false [⟨some 4, (.mv (.c (.bool false))), 4, none, 0⟩] (some [4]))
            .ret)
          .skip))
      (.seq
        (.seq
          (.region false [⟨some 18, (.load 22 (.t 3)), 22, none, 0⟩, ⟨some 19, (.len 22 (.t 18)), 3, none, 0⟩, ⟨some 20, (.mv (.c (.int .i64 0))), 3, none, 0⟩] (some [2, 3, 19, 20]))
          (.block 0
            (.loop [2, 3, 19, 20] [] lb_154_4)))
        (.seq
          (.region false [⟨some 4, (.mv (.c (.bool true))), 4, none, 0⟩] (some [4]))
          .ret))))⟩
theorem fok_154 : FnOk Try.prog 154 fa_154 an_154 := ⟨Try.f154, _, Try.func154, rfl, by kernel_rfl, rfl, rfl, by decide, by kernel_rfl⟩
/-- impl.NucleiOf$1 -/
def an_153 : Ann := ⟨[(0, 2, 3), (1, 2, 1), (1, 3, 2)], [(0, [0, 2, 6]), (1, [])], [], [(1, (.one 1 (.alt 0 (.alt 2 (.one 3 (.alt 4 (.alt 5 .fin .stop) .stop)) .stop) (.alt 2 (.one 3 (.alt 0 (.alt 4 (.alt 5 .fin .stop) .stop) .stop)) .stop))), [4064, 24, 56])]⟩
def fa_153 : FnA := ⟨12, [],
  (.seq
    (.region false [⟨some 4, (.load 28 (.t 1)), 28, none, 0⟩, ⟨some 5, (.mv (.t 0)), 22, none, 0⟩, ⟨some 6, (.call (.f 154) [(.t 4), (.t 5)]), 4, none, 3⟩] (some [0, 2, 6]))
    (.cond (.t 6)
      (.expl [⟨some 7, (.load 23 (.t 2)), 23, none, 0⟩, ⟨some 8, (.mv (.t 0)), 22, none, 0⟩, ⟨some 9, (.call (.f 140) [(.t 8)]), 22, none, 1⟩, ⟨some 10, (.bslice 23 1 [(0, (.t 9))]), 23, none, 2⟩, ⟨some 11, (.app 23 23 (.t 7) (.t 10)), 23, none, 0⟩, ⟨none, (.store 23 (.t 2) (.t 11)), 0, none, 0⟩] (.one 1 (.alt 0 (.alt 2 (.one 3 (.alt 4 (.alt 5 .fin .stop) .stop)) .stop) (.alt 2 (.one 3 (.alt 0 (.alt 4 (.alt 5 .fin .stop) .stop) .stop)) .stop))) [] [4064, 24, 56])
      .skip))⟩
theorem fok_153 : FnOk Try.prog 153 fa_153 an_153 := ⟨Try.f153, _, Try.func153, rfl, by kernel_rfl, rfl, rfl, by decide, by kernel_rfl⟩
/-- impl.NucleiOf -/
def an_75 : Ann := ⟨[(1, 1, 3), (3, 0, 1), (4, 8, 3), (4, 10, 16)], [(0, [1]), (1, [1, 6]), (2, [2]), (3, [1, 3]), (4, [3]), (5, [2])], [], []⟩
def fa_75 : FnA := ⟨20, [.t 2],
  (.seq
    (.region false [⟨some 1, (.box 28 (.t 0)), 0, none, 0⟩, ⟨some 2, (.mv (.c .nil)), 23, none, 0⟩] (some [1]))
    (.seq
      (.seq
        (.region false [⟨some 4, (.load 28 (.t 1)), 28, none, 0⟩, ⟨some 5, (.call (.f 36) [(.t 4)]), 4, none, 3⟩, ⟨some 6, (.un .not (.t 5)), 4, none, 0⟩] (some [1, 6]))
        (.cond (.t 6)
          (.seq
            (.region false [⟨some 2, (.mv (.c .nil)), 23, none, 0⟩] (some [2]))
            .ret)
          .skip))
      (.seq
        (.region false [⟨some 7, (.bslice 23 0 []), 23, none, 1⟩, ⟨some 3, (.alloc 23), 0, none, 0⟩, ⟨none, (.store 23 (.t 3) (.t 7)), 0, none, 0⟩] (some [1, 3]))
        (.seq
          (.region false [⟨some 8, (.faddr 28 (.t 1) 0), 0, none, 0⟩, ⟨some 9, (.load 22 (.t 8)), 22, none, 0⟩, ⟨some 10, (.len 22 (.t 9)), 3, none, 0⟩, ⟨some 11, (.bin .sub 3 (.t 10) (.c (.int .i64 1))), 3, none, 0⟩, ⟨some 12, (.bslice 22 1 [(0, (.t 11))]), 22, none, 0⟩, ⟨some 13, (.faddr 28 (.t 1) 0), 0, none, 0⟩, ⟨some 14, (.load 22 (.t 13)), 22, none, 0⟩, ⟨some 15, (.len 22 (.t 14)), 3, none, 0⟩, ⟨some 16, (.call (.f 152) [(.t 12), (.t 15)]), 22, none, 3⟩, ⟨some 17, (.mkfn 153 [(.t 1), (.t 3)]), 112, none, 0⟩, ⟨some 18, (.call (.f 151) [(.t 16), (.t 17)]), 0, none, 16⟩] (some [3]))
          (.seq
            (.region false [⟨some 19, (.load 23 (.t 3)), 23, none, 0⟩, ⟨some 2, (.mv (.t 19)), 23, none, 0⟩] (some [2]))
            .ret)))))⟩
theorem fok_75 : FnOk Try.prog 75 fa_75 an_75 := ⟨Try.f75, _, Try.func75, rfl, by kernel_rfl, rfl, rfl, by decide, by kernel_rfl⟩
end Go.PS
end

section
-- Lists of lists, cut early; nuclei: what the functions compute, in plain Lean.
set_option linter.unusedVariables false
set_option linter.unusedSimpArgs false
namespace Go.PS

/-- All lists that begin with one, with so many more elements. -/
def ext (n : Nat) : Nat → List Int → List (List Int)
  | 0, h => [h]
  | k + 1, h => (List.range n).flatMap fun (y : Nat) => ext n k (h ++ [(y : Int)])
theorem ext_nxt (n : Nat) : ∀ k h, ext n (k + 1) h = nxt n (ext n k h)
  | 0, h => by
    simp only [ext, nxt, List.flatMap_cons, List.flatMap_nil, List.append_nil]
    induction List.range n with
    | nil => rfl
    | cons a l ih => simp only [List.flatMap_cons, List.map_cons, List.singleton_append, ih]
  | k + 1, h => by
    have e : ext n (k + 2) h = (List.range n).flatMap fun (y : Nat) => nxt n (ext n k (h ++ [(y : Int)])) := by
      show (List.range n).flatMap (fun (y : Nat) => ext n (k + 1) (h ++ [(y : Int)])) = _
      congr 1
      funext y
      exact ext_nxt n k _
    rw [e]
    show _ = nxt n ((List.range n).flatMap fun (y : Nat) => ext n k (h ++ [(y : Int)]))
    unfold nxt
    rw [List.flatMap_assoc]
theorem ext_asgK (n : Nat) : ∀ m, ext n m [] = asgK n m
  | 0 => rfl
  | m + 1 => by rw [ext_nxt, ext_asgK n m]; rfl
theorem asgK_dig {n : Nat} (hn : 1 ≤ n) (m : Nat) : asgK n m = (List.range (n ^ m)).map (dig n m) := by
  apply List.ext_getElem?
  intro i
  by_cases h : i < n ^ m
  · have := gr_asgK hn m i h
    have hl : i < (asgK n m).length := by rw [asgK_length]; exact h
    rw [List.getElem?_eq_getElem hl]
    simp only [gr, List.getElem?_eq_getElem hl, Option.getD_some] at this
    rw [this]
    simp [h]
  · rw [List.getElem?_eq_none (by rw [asgK_length]; omega), List.getElem?_eq_none (by simp; omega)]
theorem mem_ext {n : Nat} : ∀ {k : Nat} {h l : List Int}, l ∈ ext n k h → ∃ w, l = h ++ w ∧ w.length = k
  | 0, h, l, hl => by simp [ext] at hl; exact ⟨[], by simp [hl], rfl⟩
  | k + 1, h, l, hl => by
    simp only [ext, List.mem_flatMap] at hl
    obtain ⟨y, _, hl⟩ := hl
    obtain ⟨w, rfl, hw⟩ := mem_ext hl
    exact ⟨(y : Int) :: w, by simp, by simp [hw]⟩

/-- The same, cut where 'ok' fails, of those that are good. -/
def prn (n : Nat) (ok : List Int → Nat → Bool) (good : List Int → Bool) : Nat → List Int → List (List Int)
  | 0, h => if good h = true then [h] else []
  | k + 1, h => (List.range n).flatMap fun (y : Nat) => if ok h y = true then prn n ok good k (h ++ [(y : Int)]) else []
theorem prn_eq {n : Nat} {ok : List Int → Nat → Bool} {good : List Int → Bool} (H : ∀ k h y l, y < n → l ∈ ext n k (h ++ [(y : Int)]) → good l = true → ok h y = true) : ∀ k h, prn n ok good k h = (ext n k h).filter good
  | 0, h => by
    simp only [prn, ext, List.filter_cons, List.filter_nil]
  | k + 1, h => by
    simp only [prn, ext, List.filter_flatMap]
    rw [List.flatMap_def, List.flatMap_def]
    congr 1
    apply List.map_congr_left
    intro y hy
    have hy : y < n := by simpa using hy
    split
    · exact prn_eq H k _
    · rename_i hok
      symm
      rw [List.filter_eq_nil_iff]
      intro l hl hg
      exact hok (H k h y l hy hl hg)

structure NU (u : List Int) (t : List (List Int)) (j : List Int) : Prop where
  len : j.length = u.length
  rng : ∀ x, x < u.length → 0 ≤ gi j x ∧ gi j x < u.length
  up : ∀ x, x < u.length → tb u x (gi j x).toNat = true ∧ gi j (gi j x).toNat = gi j x
  pr : ∀ x, x < u.length → ∀ y, y < u.length → (tb u x y = true → tb u (gi j x).toNat (gi j y).toNat = true) ∧ tb u (tn t (gi j x).toNat (gi j y).toNat) (gi j (tn t x y)).toNat = true
noncomputable instance (u : List Int) (t : List (List Int)) (j : List Int) : Decidable (NU u t j) := Classical.propDecidable _

/-- What the reference asks of one more element. -/
def nok (u : List Int) (h : List Int) (y : Nat) : Bool := tb u h.length y && (List.range h.length).all fun z => !tb u z h.length || tb u (gi h z).toNat y
noncomputable def nucM (u : List Int) (t : List (List Int)) : List (List Int) := ((List.range (u.length ^ u.length)).map (dig u.length u.length)).filter fun j => decide (NU u t j)

theorem gi_append_left {a b : List Int} {i : Nat} (h : i < a.length) : gi (a ++ b) i = gi a i := by simp [gi, List.getElem?_append_left h]
theorem gi_append_at {a b : List Int} {y : Int} : gi (a ++ y :: b) a.length = y := by simp [gi]

theorem nuc_prn {u : List Int} {t : List (List Int)} (hp : 1 ≤ u.length) : prn u.length (nok u) (fun j => decide (NU u t j)) u.length [] = nucM u t := by
  rw [prn_eq, ext_asgK, asgK_dig hp, nucM]
  intro k h y l hy hl hg
  have v : NU u t l := of_decide_eq_true hg
  obtain ⟨w, rfl, hw⟩ := mem_ext hl
  have hlen := v.len
  simp only [List.length_append, List.length_cons, List.length_nil] at hlen
  have hx : h.length < u.length := by omega
  have e1 : gi (h ++ [(y : Int)] ++ w) h.length = y := by rw [List.append_assoc]; exact gi_append_at
  have h1 := (v.up h.length hx).1
  rw [e1] at h1
  simp only [nok, Bool.and_eq_true, List.all_eq_true, List.mem_range, Bool.or_eq_true, Bool.not_eq_true']
  refine ⟨by simpa using h1, fun z hz => ?_⟩
  have h2 := (v.pr z (by omega) h.length hx).1
  rw [e1] at h2
  have e2 : gi (h ++ [(y : Int)] ++ w) z = gi h z := by rw [List.append_assoc]; exact gi_append_left hz
  rw [e2] at h2
  cases hb : tb u z h.length with
  | false => exact .inl rfl
  | true => exact .inr (by simpa using h2 hb)
end Go.PS
end

section
-- Contracts: nuclei.
set_option maxRecDepth 100000
set_option linter.unusedVariables false
set_option linter.unusedSimpArgs false
namespace Go.PS
open Go.Proofs

set_option maxHeartbeats 2000000 in
theorem isNucS_pc (u : List Int) (t : List (List Int)) (j : List Int) (f : TF u t) (hj : Big j.length) : PC Try.prog 113 [AL u t, IL j] none true (fun r _ => r = .bool (decide (NU u t j))) := by
  have v := f.lat
  have hl := v.sm.le
  refine pcT [fm_inRange, fm_belowS] fok_113 ?_
  simp [fa_113]
  refine ⟨fun h w => h (by have := w.len; omega), fun hlen => ?_⟩
  have hlen : j.length = u.length := by omega
  have ew := wrap64 (n := (u.length : Int) - 1) (by omega) (by omega)
  refine loopA (tabK_mono _) u.length (fun i => [(6, I64 i)]) (fun _ => []) (fun x => 0 ≤ gi j x ∧ gi j x < u.length) (by simp) (by simp) (fun x g hx hP => ?_)
  simp [lb_113_5, wrap_succ hx hl, hlen, ew]
  refine ⟨fun h => ⟨h, fun h2 w => ?_, fun h2 h3 => ⟨h, h2, by omega⟩⟩, fun h => ?_⟩
  · have := w.rng x h
    omega
  have hr : ∀ x, x < u.length → 0 ≤ gi j x ∧ gi j x < u.length := fun x hx => hP x (by omega)
  have hrN : ∀ x, x < u.length → (gi j x).toNat < u.length := fun x hx => by have := hr x hx; omega
  clear hP hx h x
  refine loopA (tabK_mono _) u.length (fun i => [(7, I64 i)]) (fun _ => []) (fun x => (tb u x (gi j x).toNat = true ∧ gi j (gi j x).toNat = gi j x) ∧ ∀ y, y < u.length → (tb u x y = true → tb u (gi j x).toNat (gi j y).toNat = true) ∧ tb u (tn t (gi j x).toNat (gi j y).toNat) (gi j (tn t x y)).toNat = true) (by simp) (by simp) (fun x g hx hP => ?_)
  simp [lb_113_10, wrap_succ hx hl]
  refine ⟨fun h => ?_, fun h => ⟨hlen, hr, fun x hx => (hP x (by omega)).1, fun x hx => (hP x (by omega)).2⟩⟩
  refine cutWc (tabK_mono _) [(56, .bool (!tb u x (gi j x).toNat || decide (gi j (gi j x).toNat ≠ gi j x)))] (by cases hb1 : tb u x (gi j x).toNat <;> simp [hb1, hlen, h, hr, hrN, v.sm]) ?_
  simp
  refine ⟨fun h2 w => by have := w.up x h; grind, fun h2 h3 => ?_⟩
  refine loopA (tabK_mono _) u.length (fun i => [(8, I64 i)]) (fun _ => []) (fun y => (tb u x y = true → tb u (gi j x).toNat (gi j y).toNat = true) ∧ tb u (tn t (gi j x).toNat (gi j y).toNat) (gi j (tn t x y)).toNat = true) (by simp) (by simp) (fun y g hy hQ => ?_)
  simp [lb_113_15, wrap_succ hx hl, wrap_succ hy hl]
  refine ⟨fun h4 => ?_, fun h4 => ⟨h, ⟨h2, h3⟩, fun y hy => hQ y (by omega)⟩⟩
  have q1 := hr x h
  have q2 := hr y h4
  have q3 := hrN x h
  have q4 := hrN y h4
  have q5 := hr _ (f.ltN x y h h4)
  refine cutWc (tabK_mono _) [(111, .bool ((tb u x y && !tb u (gi j x).toNat (gi j y).toNat) || !tb u (tn t (gi j x).toNat (gi j y).toNat) (gi j (tn t x y)).toNat))] (by cases hb1 : tb u x y <;> cases hb2 : tb u (gi j x).toNat (gi j y).toNat <;> cases hb3 : tb u (tn t (gi j x).toNat (gi j y).toNat) (gi j (tn t x y)).toNat <;> simp (maxSteps := 2000000) [hb1, hb2, hb3, hlen, f.len, f.rows, h, h4, q1, q2, q3, q4, q5, f.nn, f.lt, f.ltN, v.sm]) ?_
  simp [wrap_succ hy hl]
  refine ⟨fun h7 w => ?_, fun h7 h8 => ⟨h4, h7, h8⟩⟩
  have := w.pr x h y h4
  grind
noncomputable def fm_isNucS : Fam Try.prog := mkFam (X := List Int × List (List Int) × List Int) 113 true (fun (u, t, j) => [AL u t, IL j]) (fun (u, t, j) => (TF u t) ∧ (Big j.length)) (fun (u, t, j) => .bool (decide (NU u t j))) (by
  rintro ⟨u, t, j⟩ ⟨f, hj⟩
  exact isNucS_pc u t j f hj)
@[simp] theorem fm_isNucS_id : fm_isNucS.id = 113 := rfl
@[simp] theorem fm_isNucS_fresh : fm_isNucS.fresh = true := rfl
@[simp] theorem fm_isNucS_look (u : List Int) (t : List (List Int)) (j : List Int) (f : TF u t) (hj : Big j.length) : fm_isNucS.look [AL u t, IL j] = some (.bool (decide (NU u t j))) :=
  lookF_of (X := List Int × List (List Int) × List Int) (args := fun (u, t, j) => [AL u t, IL j]) (pre := fun (u, t, j) => (TF u t) ∧ (Big j.length)) (val := fun (u, t, j) => .bool (decide (NU u t j))) (by
  rintro ⟨u, t, j⟩ ⟨u', t', j'⟩ h
  simp at h
  try simp only [and_assoc] at h
  obtain ⟨rfl, rfl, rfl⟩ := h
  rfl) (u, t, j) ⟨f, hj⟩
attribute [irreducible] fm_isNucS

theorem nuC_pc (x : Int) (j : List Int) (h2 : Big j.length) : PC Try.prog 193 [I64 x, .iptr (IL j)] none true (fun r _ => r = .bool (outR j.length x)) := by
  have h2 := h2.le
  refine pcT [fm_within] fok_193 ?_
  simp [fa_193, outR, wrap64 (n := (j.length : Int) - 1) (by omega) (by omega)]
noncomputable def fm_nuC : Fam Try.prog := mkFam (X := Int × List Int) 193 true (fun (x, j) => [I64 x, .iptr (IL j)]) (fun (x, j) => (Big j.length)) (fun (x, j) => .bool (outR j.length x)) (by
  rintro ⟨x, j⟩ h2
  exact nuC_pc x j h2)
@[simp] theorem fm_nuC_id : fm_nuC.id = 193 := rfl
@[simp] theorem fm_nuC_fresh : fm_nuC.fresh = true := rfl
@[simp] theorem fm_nuC_look (x : Int) (j : List Int) (h2 : Big j.length) : fm_nuC.look [I64 x, .iptr (IL j)] = some (.bool (outR j.length x)) :=
  lookF_of (X := Int × List Int) (args := fun (x, j) => [I64 x, .iptr (IL j)]) (pre := fun (x, j) => (Big j.length)) (val := fun (x, j) => .bool (outR j.length x)) (by
  rintro ⟨x, j⟩ ⟨x', j'⟩ h
  simp at h
  try simp only [and_assoc] at h
  obtain ⟨rfl, rfl⟩ := h
  rfl) (x, j) h2
attribute [irreducible] fm_nuC

theorem contNu_pc (xs : List Int) (j : List Int) (hl : Big xs.length) (h2 : Big j.length) : PC Try.prog 108 [IL xs, .fn 193 [.iptr (IL j)]] none true (fun r _ => r = .bool (xs.any (outR j.length))) := by
  exact containsFunc_pc hl (by simp) (by simp) (outR j.length) (fun x hx => nuC_pc x j h2)
noncomputable def fm_contNu : Fam Try.prog := mkFam (X := List Int × List Int) 108 true (fun (xs, j) => [IL xs, .fn 193 [.iptr (IL j)]]) (fun (xs, j) => (Big xs.length) ∧ (Big j.length)) (fun (xs, j) => .bool (xs.any (outR j.length))) (by
  rintro ⟨xs, j⟩ ⟨hl, h2⟩
  exact contNu_pc xs j hl h2)
@[simp] theorem fm_contNu_id : fm_contNu.id = 108 := rfl
@[simp] theorem fm_contNu_fresh : fm_contNu.fresh = true := rfl
@[simp] theorem fm_contNu_look (xs : List Int) (j : List Int) (hl : Big xs.length) (h2 : Big j.length) : fm_contNu.look [IL xs, .fn 193 [.iptr (IL j)]] = some (.bool (xs.any (outR j.length))) :=
  lookF_of (X := List Int × List Int) (args := fun (xs, j) => [IL xs, .fn 193 [.iptr (IL j)]]) (pre := fun (xs, j) => (Big xs.length) ∧ (Big j.length)) (val := fun (xs, j) => .bool (xs.any (outR j.length))) (by
  rintro ⟨xs, j⟩ ⟨xs', j'⟩ h
  simp at h
  try simp only [and_assoc] at h
  obtain ⟨rfl, rfl⟩ := h
  rfl) (xs, j) ⟨hl, h2⟩
attribute [irreducible] fm_contNu

set_option maxHeartbeats 2000000 in
theorem isNucI_pc (u : List Int) (t : List (List Int)) (j : List Int) (f : TF u t) (hj : Big j.length) : PC Try.prog 154 [AL u t, IL j] none true (fun r _ => r = .bool (decide (NU u t j))) := by
  have v := f.lat
  have hl := v.sm.le
  have h6 := v.six
  refine pcT [fm_contNu, fm_belowI] fok_154 ?_
  simp [fa_154]
  refine cutW (tabK_mono _) [(17, .bool (decide ((j.length : Int) ≠ u.length) || j.any (outR j.length)))] (by simp [hj]; grind) ?_
  simp
  refine ⟨fun h w => ?_, fun hlen hany => ?_⟩
  · have hlen := w.len
    obtain ⟨z, hz, h4⟩ := h.resolve_left (fun q => q (by omega))
    obtain ⟨y, hy, rfl⟩ := List.mem_iff_getElem.1 hz
    have h5 := w.rng y (by omega)
    rw [gi, List.getElem?_eq_getElem hy] at h5
    simp [outR] at h4
    simp at h5
    omega
  have hlen : j.length = u.length := by omega
  have hr : ∀ x, x < u.length → 0 ≤ gi j x ∧ gi j x < u.length := fun x hx => by
    have := any_outR (xs := j) (n := j.length) (by rw [List.any_eq_false]; intro z hz; simpa using hany z hz) x (by omega)
    omega
  have hrN : ∀ x, x < u.length → (gi j x).toNat < u.length := fun x hx => by have := hr x hx; omega
  clear hany
  refine loopA (tabK_mono _) u.length (fun i => [(20, I64 i)]) (fun _ => []) (fun x => (tb u x (gi j x).toNat = true ∧ gi j (gi j x).toNat = gi j x) ∧ ∀ y, y < u.length → (tb u x y = true → tb u (gi j x).toNat (gi j y).toNat = true) ∧ tb u (tn t (gi j x).toNat (gi j y).toNat) (gi j (tn t x y)).toNat = true) (by simp) (by simp) (fun x g hx hP => ?_)
  simp [lb_154_4, wrap_succ hx hl, hlen]
  refine ⟨fun h => ?_, fun h => ⟨hlen, hr, fun x hx => (hP x (by omega)).1, fun x hx => (hP x (by omega)).2⟩⟩
  refine cutWc (tabK_mono _) [(45, .bool (!tb u x (gi j x).toNat || decide (gi j (gi j x).toNat ≠ gi j x)))] (by cases hb1 : tb u x (gi j x).toNat <;> simp [hb1, hlen, h, hr, hrN, h6]) ?_
  simp [hlen]
  refine ⟨fun h2 w => by have := w.up x h; grind, fun h2 h3 => ?_⟩
  refine loopA (tabK_mono _) u.length (fun i => [(48, I64 i)]) (fun _ => []) (fun y => (tb u x y = true → tb u (gi j x).toNat (gi j y).toNat = true) ∧ tb u (tn t (gi j x).toNat (gi j y).toNat) (gi j (tn t x y)).toNat = true) (by simp) (by simp) (fun y g hy hQ => ?_)
  simp [lb_154_9, wrap_succ hx hl, wrap_succ hy hl]
  refine ⟨fun h4 => ?_, fun h4 => ⟨h, ⟨h2, h3⟩, fun y hy => hQ y (by omega)⟩⟩
  have q1 := hr x h
  have q2 := hr y h4
  have q3 := hrN x h
  have q4 := hrN y h4
  have q5 := hr _ (f.ltN x y h h4)
  refine cutWc (tabK_mono _) [(100, .bool ((tb u x y && !tb u (gi j x).toNat (gi j y).toNat) || !tb u (tn t (gi j x).toNat (gi j y).toNat) (gi j (tn t x y)).toNat))] (by cases hb1 : tb u x y <;> cases hb2 : tb u (gi j x).toNat (gi j y).toNat <;> cases hb3 : tb u (tn t (gi j x).toNat (gi j y).toNat) (gi j (tn t x y)).toNat <;> simp (maxSteps := 2000000) [hb1, hb2, hb3, hlen, f.len, f.rows, h, h4, q1, q2, q3, q4, q5, f.nn, f.lt, f.ltN, h6]) ?_
  simp [wrap_succ hy hl]
  refine ⟨fun h7 w => ?_, fun h7 h8 => ⟨h4, h7, h8⟩⟩
  have := w.pr x h y h4
  grind
noncomputable def fm_isNucI : Fam Try.prog := mkFam (X := List Int × List (List Int) × List Int) 154 true (fun (u, t, j) => [AL u t, IL j]) (fun (u, t, j) => (TF u t) ∧ (Big j.length)) (fun (u, t, j) => .bool (decide (NU u t j))) (by
  rintro ⟨u, t, j⟩ ⟨f, hj⟩
  exact isNucI_pc u t j f hj)
@[simp] theorem fm_isNucI_id : fm_isNucI.id = 154 := rfl
@[simp] theorem fm_isNucI_fresh : fm_isNucI.fresh = true := rfl
@[simp] theorem fm_isNucI_look (u : List Int) (t : List (List Int)) (j : List Int) (f : TF u t) (hj : Big j.length) : fm_isNucI.look [AL u t, IL j] = some (.bool (decide (NU u t j))) :=
  lookF_of (X := List Int × List (List Int) × List Int) (args := fun (u, t, j) => [AL u t, IL j]) (pre := fun (u, t, j) => (TF u t) ∧ (Big j.length)) (val := fun (u, t, j) => .bool (decide (NU u t j))) (by
  rintro ⟨u, t, j⟩ ⟨u', t', j'⟩ h
  simp at h
  try simp only [and_assoc] at h
  obtain ⟨rfl, rfl, rfl⟩ := h
  rfl) (u, t, j) ⟨f, hj⟩
attribute [irreducible] fm_isNucI
end Go.PS
end

section
-- Contracts: what refutes a term, what is true.
set_option maxRecDepth 100000
set_option linter.unusedVariables false
set_option linter.unusedSimpArgs false
namespace Go.PS
open Go.Proofs

theorem binK_nil_ints {e sz : Nat} {l : List Int} {K : D → Prop} (h : l ≠ []) : binK (.slice e) .eql (.list sz (ints l)) .nil K = K (.bool false) := by
  cases l with
  | nil => exact absurd rfl h
  | cons a l => exact binK_nil

theorem cloneI_pc (l : List Int) (hl : Big l.length) (hne : l ≠ []) : PC Try.prog 140 [IL l] none true (fun r _ => r = IO1 l) := by
  have hl := hl.le
  refine pcT [] fok_140 ?_
  simp [fa_140, binK_nil_ints hne]
  exact hl
noncomputable def fm_cloneI : Fam Try.prog := mkFam (X := List Int) 140 true (fun l => [IL l]) (fun l => (Big l.length) ∧ (l ≠ [])) (fun l => IO1 l) (by
  rintro l ⟨hl, hne⟩
  exact cloneI_pc l hl hne)
@[simp] theorem fm_cloneI_id : fm_cloneI.id = 140 := rfl
@[simp] theorem fm_cloneI_fresh : fm_cloneI.fresh = true := rfl
@[simp] theorem fm_cloneI_look (l : List Int) (hl : Big l.length) (hne : l ≠ []) : fm_cloneI.look [IL l] = some (IO1 l) :=
  lookF_of (X := List Int) (args := fun l => [IL l]) (pre := fun l => (Big l.length) ∧ (l ≠ [])) (val := fun l => IO1 l) (by
  intro l l' h
  simp at h
  subst h
  rfl) l ⟨hl, hne⟩
attribute [irreducible] fm_cloneI

/-- Is the term's value not the greatest element? -/
def badP (u : List Int) (t : List (List Int)) (p nm : List Int) : Bool := decide ((ev1 u t nm p).1 ≠ (u.length : Int) - 1)
def rfI (u : List Int) (t : List (List Int)) (p : List Int) : Int := firstI (u.length ^ 3) fun j => badP u t p (dig u.length 3 j)
noncomputable def rfM (u : List Int) (t : List (List Int)) (p : List Int) : List Int × Bool := if decide (VA u t) && decide (validT p) then (if 0 ≤ rfI u t p then (dig u.length 3 (rfI u t p).toNat, true) else ([], false)) else ([], false)

theorem dig3_ok {n i : Nat} (hn : 1 ≤ n) (hi : i < n ^ 3) : NmOk (dig n 3 i) n := by
  rw [← gr_asgK hn 3 i hi]
  exact asg3_ok (by simp [gr, List.getElem?_eq_getElem (show i < (asgK n 3).length by rw [asgK_length]; exact hi)])

theorem refuteS_pc (u : List Int) (t : List (List Int)) (p : List Int) (hu : Big u.length) (ht : BigR t) (hp : Big p.length) : PC Try.prog 84 [AL u t, IL p] none false (fun r _ => r = .tup [IL (rfM u t p).1, .bool (rfM u t p).2]) := by
  have hul := hu.le
  refine pcT [fm_validAlgebraS, fm_validTermS, fm_assignments, fm_valueS] fok_84 ?_
  simp [fa_84]
  refine cutW (tabK_mono _) [(15, .bool (!(decide (VA u t) && decide (validT p))))] (by simp [hu, ht, hp]; grind) ?_
  cases hb : (decide (VA u t) && decide (validT p))
  · simp [rfM, hb]
    rfl
  simp only [Bool.and_eq_true, decide_eq_true_eq] at hb
  obtain ⟨a, vp⟩ := hb
  have f := a.tf
  have h6 := f.lat.six
  have h1 := f.lat.pos
  simp [h6, show (u.length : Int) ≤ 6 by omega]
  have h216 : u.length ^ 3 ≤ 216 := Nat.pow_le_pow_left h6 3
  have eM : rfM u t p = if 0 ≤ rfI u t p then (dig u.length 3 (rfI u t p).toNat, true) else ([], false) := by simp [rfM, a, vp]
  have eI : rfI u t p = firstI (u.length ^ 3) fun j => badP u t p (dig u.length 3 j) := rfl
  have hAl : (asgK u.length 3).length = u.length ^ 3 := asgK_length _ _
  have hdg : ∀ i, i < u.length ^ 3 → gr (asgK u.length 3) i = dig u.length 3 i ∧ NmOk (dig u.length 3 i) u.length := fun i hi => ⟨gr_asgK h1 3 i hi, dig3_ok h1 hi⟩
  generalize u.length ^ 3 = N at *
  refine loopA (tabK_mono _) N (fun i => [(7, I64 i)]) (fun _ => []) (fun i => badP u t p (dig u.length 3 i) = false) (by simp) (by simp) (fun i g hi hP => ?_)
  simp [lb_84_5, hAl, wrap_succ hi (by omega)]
  refine ⟨fun h => ⟨h, ?_⟩, fun h => ?_⟩
  · obtain ⟨eg, nm⟩ := hdg i h
    have ho := (ev1_ok f nm _ _ _ (Nat.le_refl _) vp.2).1
    simp [eg, f, nm, hp, vp.some, hAl, h, wrap64 (n := (u.length : Int) - 1) (by omega) (by omega), wrap_succ hi (by omega)]
    refine ⟨fun hb => ?_, fun hb => by simp [badP, hb]⟩
    have hz : badP u t p (dig u.length 3 i) = true := by simp [badP, hb]
    rw [eM, eI, firstI_some h hz hP]
    simp
  · rw [eM, eI, firstI_none (fun j hj => hP j (by omega))]
    simp; rfl
noncomputable def fm_refuteS : Fam Try.prog := mkFam (X := List Int × List (List Int) × List Int) 84 false (fun (u, t, p) => [AL u t, IL p]) (fun (u, t, p) => (Big u.length) ∧ (BigR t) ∧ (Big p.length)) (fun (u, t, p) => .tup [IL (rfM u t p).1, .bool (rfM u t p).2]) (by
  rintro ⟨u, t, p⟩ ⟨hu, ht, hp⟩
  exact refuteS_pc u t p hu ht hp)
@[simp] theorem fm_refuteS_id : fm_refuteS.id = 84 := rfl
@[simp] theorem fm_refuteS_fresh : fm_refuteS.fresh = false := rfl
@[simp] theorem fm_refuteS_look (u : List Int) (t : List (List Int)) (p : List Int) (hu : Big u.length) (ht : BigR t) (hp : Big p.length) : fm_refuteS.look [AL u t, IL p] = some (.tup [IL (rfM u t p).1, .bool (rfM u t p).2]) :=
  lookF_of (X := List Int × List (List Int) × List Int) (args := fun (u, t, p) => [AL u t, IL p]) (pre := fun (u, t, p) => (Big u.length) ∧ (BigR t) ∧ (Big p.length)) (val := fun (u, t, p) => .tup [IL (rfM u t p).1, .bool (rfM u t p).2]) (by
  rintro ⟨u, t, p⟩ ⟨u', t', p'⟩ h
  simp at h
  try simp only [and_assoc] at h
  obtain ⟨rfl, rfl, rfl⟩ := h
  rfl) (u, t, p) ⟨hu, ht, hp⟩
attribute [irreducible] fm_refuteS

def inlRf (id : Nat) : Option FnA := if id = 157 then some fa_157 else if id = 151 then some fa_151 else if id = 158 then some fa_158 else none
theorem inlRf_ok (id : Nat) (fa : FnA) (h : inlRf id = some fa) : ∃ A, FnOk Try.prog id fa A := by
  unfold inlRf at h
  split at h
  · rename_i e; subst e; injection h with h; subst h; exact ⟨_, fok_157⟩
  split at h
  · rename_i e; subst e; injection h with h; subst h; exact ⟨_, fok_151⟩
  split at h
  · rename_i e; subst e; injection h with h; subst h; exact ⟨_, fok_158⟩
  · cases h

theorem refuteI_pc (u : List Int) (t : List (List Int)) (p : List Int) (hu : Big u.length) (ht : BigR t) (hp : Big p.length) : PC Try.prog 83 [AL u t, IL p] none true (fun r _ => r = .tup [IO1 (rfM u t p).1, .bool (rfM u t p).2]) := by
  have hul := hu.le
  refine pcI inlRf inlRf_ok [fm_validAlgebraI, fm_validTermI, fm_repeatI, fm_valueOfI] 3 fok_83 ?_
  simp [fa_83]
  refine cutW (inlT_mono _ _ _ _) [(15, .bool (!(decide (VA u t) && decide (validT p))))] (by simp [callO3T, inlRf, hu, ht, hp]; grind) ?_
  cases hb : (decide (VA u t) && decide (validT p))
  · simp [rfM, hb]
    rfl
  simp only [Bool.and_eq_true, decide_eq_true_eq] at hb
  obtain ⟨a, vp⟩ := hb
  have f := a.tf
  have h6 := f.lat.six
  have h1 := f.lat.pos
  have eM : rfM u t p = if 0 ≤ rfI u t p then (dig u.length 3 (rfI u t p).toNat, true) else ([], false) := by simp [rfM, a, vp]
  have eI : rfI u t p = firstI (u.length ^ 3) fun j => badP u t p (dig u.length 3 j) := rfl
  have lr : fm_repeatI.look [D.list 1 [D.int .i64 ((u.length : Int) - 1)], D.int .i64 3] = some (IO1 [(u.length : Int) - 1, (u.length : Int) - 1, (u.length : Int) - 1]) := fm_repeatI_look ((u.length : Int) - 1) 3 (by omega) (by omega)
  simp [lr, callO16 (C := CI inlRf) (id := 157) (fa := fa_157) rfl, fa_157, callO3T, inlRf, wrap64 (n := (u.length : Int) - 1) (by omega) (by omega), callO16 (C := CI inlRf) (id := 151) (fa := fa_151) rfl]
  refine eachList_run (α := Option Nat) (n := u.length) (m := 3) h1 h6 (by omega) (fun x l => match x with
      | none => [⟨8064, 3, .arr 1 (ints l)⟩, ⟨48, 1, .cells [.list 1 []]⟩, ⟨56, 2, .cells [.bool false]⟩]
      | some γ => [⟨12160, γ, .arr 1 (ints (rfM u t p).1)⟩, ⟨8064, 3, .arr 1 (ints l)⟩, ⟨48, 1, .cells [.arr 12160 γ]⟩, ⟨56, 2, .cells [.bool true]⟩])
    (fun i x => match x with
      | none => ∀ j, j < i → badP u t p (dig u.length 3 j) = false
      | some _ => 0 ≤ rfI u t p) none (by simp [KL]) (by rintro (_ | γ) l l' <;> simp) (by rintro (_ | γ) l <;> simp) (by rintro (_ | γ) l <;> simp [KL]) (by simp) (fun i x tt g Q hi hP hQ => ?_) (fun x g hP => ?_)
  · have nm := dig3_ok h1 hi
    have ho := (ev1_ok f nm _ _ _ (Nat.le_refl _) vp.2).1
    cases x with
    | none =>
      simp [callO16 (C := CI inlRf) (id := 158) (fa := fa_158) rfl, fa_158]
      refine cutWc (inlT_mono _ _ _ _) [(18, .bool (badP u t p (dig u.length 3 i)))] (by simp [callO3T, callDO3T, inlRf, f, nm, hp, vp.some, badP, wrap64 (n := (u.length : Int) - 1) (by omega) (by omega)]) ?_
      cases hbd : badP u t p (dig u.length 3 i)
      · simp
        refine hQ none _ _ _ (fun j hj => ?_) (by simp) (by simp [KL])
        rcases Nat.lt_or_ge j i with h | h
        · exact hP j h
        · obtain rfl : j = i := by omega
          exact hbd
      · have er : rfI u t p = i := by rw [eI]; exact firstI_some hi hbd hP
        have hne : dig u.length 3 i ≠ [] := fun h => by have := dig_length u.length 3 i; rw [h] at this; cases this
        simp
        refine callO1 fm_cloneI (by simp) (by simp) (v := IO1 (dig u.length 3 i)) (by simp; exact fm_cloneI_look _ (by rw [dig_length]; unfold Big; omega) hne) ?_
        simp
        refine hQ (some g) _ _ _ (by show 0 ≤ rfI u t p; omega) (by simp) ?_
        simp [KL, eM, er]
    | some γ =>
      simp [callO16 (C := CI inlRf) (id := 158) (fa := fa_158) rfl, fa_158]
      refine cutWc (inlT_mono _ _ _ _) [(18, .bool false)] (by simp) ?_
      simp
      exact hQ (some γ) _ _ _ hP (by simp) (by simp [KL])
  · cases x with
    | none =>
      have er : rfI u t p = -1 := by rw [eI]; exact firstI_none hP
      simp [eM, er]
      try rfl
    | some γ =>
      have h0 : 0 ≤ rfI u t p := hP
      simp [eM, h0]
noncomputable def fm_refuteI : Fam Try.prog := mkFam (X := List Int × List (List Int) × List Int) 83 true (fun (u, t, p) => [AL u t, IL p]) (fun (u, t, p) => (Big u.length) ∧ (BigR t) ∧ (Big p.length)) (fun (u, t, p) => .tup [IO1 (rfM u t p).1, .bool (rfM u t p).2]) (by
  rintro ⟨u, t, p⟩ ⟨hu, ht, hp⟩
  exact refuteI_pc u t p hu ht hp)
@[simp] theorem fm_refuteI_id : fm_refuteI.id = 83 := rfl
@[simp] theorem fm_refuteI_fresh : fm_refuteI.fresh = true := rfl
@[simp] theorem fm_refuteI_look (u : List Int) (t : List (List Int)) (p : List Int) (hu : Big u.length) (ht : BigR t) (hp : Big p.length) : fm_refuteI.look [AL u t, IL p] = some (.tup [IO1 (rfM u t p).1, .bool (rfM u t p).2]) :=
  lookF_of (X := List Int × List (List Int) × List Int) (args := fun (u, t, p) => [AL u t, IL p]) (pre := fun (u, t, p) => (Big u.length) ∧ (BigR t) ∧ (Big p.length)) (val := fun (u, t, p) => .tup [IO1 (rfM u t p).1, .bool (rfM u t p).2]) (by
  rintro ⟨u, t, p⟩ ⟨u', t', p'⟩ h
  simp at h
  try simp only [and_assoc] at h
  obtain ⟨rfl, rfl, rfl⟩ := h
  rfl) (u, t, p) ⟨hu, ht, hp⟩
attribute [irreducible] fm_refuteI


theorem isTrueI_pc (u : List Int) (t : List (List Int)) (p : List Int) (hu : Big u.length) (ht : BigR t) (hp : Big p.length) : PC Try.prog 85 [AL u t, IL p] none true (fun r _ => r = .bool (decide (VA u t) && decide (validT p) && !(rfM u t p).2)) := by
  refine pcT [fm_validAlgebraI, fm_validTermI, fm_refuteI] fok_85 ?_
  simp [fa_85, hu, ht, hp]
  refine cutW (tabK_mono _) [(4, .bool (decide (VA u t) && decide (validT p) && !(rfM u t p).2))] (by simp [hu, ht, hp]; grind) ?_
  simp
noncomputable def fm_isTrueI : Fam Try.prog := mkFam (X := List Int × List (List Int) × List Int) 85 true (fun (u, t, p) => [AL u t, IL p]) (fun (u, t, p) => (Big u.length) ∧ (BigR t) ∧ (Big p.length)) (fun (u, t, p) => .bool (decide (VA u t) && decide (validT p) && !(rfM u t p).2)) (by
  rintro ⟨u, t, p⟩ ⟨hu, ht, hp⟩
  exact isTrueI_pc u t p hu ht hp)
@[simp] theorem fm_isTrueI_id : fm_isTrueI.id = 85 := rfl
@[simp] theorem fm_isTrueI_fresh : fm_isTrueI.fresh = true := rfl
@[simp] theorem fm_isTrueI_look (u : List Int) (t : List (List Int)) (p : List Int) (hu : Big u.length) (ht : BigR t) (hp : Big p.length) : fm_isTrueI.look [AL u t, IL p] = some (.bool (decide (VA u t) && decide (validT p) && !(rfM u t p).2)) :=
  lookF_of (X := List Int × List (List Int) × List Int) (args := fun (u, t, p) => [AL u t, IL p]) (pre := fun (u, t, p) => (Big u.length) ∧ (BigR t) ∧ (Big p.length)) (val := fun (u, t, p) => .bool (decide (VA u t) && decide (validT p) && !(rfM u t p).2)) (by
  rintro ⟨u, t, p⟩ ⟨u', t', p'⟩ h
  simp at h
  try simp only [and_assoc] at h
  obtain ⟨rfl, rfl, rfl⟩ := h
  rfl) (u, t, p) ⟨hu, ht, hp⟩
attribute [irreducible] fm_isTrueI
end Go.PS
end

section
-- Contracts: all nuclei.
set_option maxRecDepth 100000
set_option linter.unusedVariables false
set_option linter.unusedSimpArgs false
namespace Go.PS
open Go.Proofs

def okp (u h : List Int) (y i : Nat) : Bool := tb u h.length y && (List.range i).all fun z => !tb u z h.length || tb u (gi h z).toNat y
theorem okp_succ {u h : List Int} {y i : Nat} : okp u h y (i + 1) = (okp u h y i && (!tb u i h.length || tb u (gi h i).toNat y)) := by
  unfold okp
  rw [all_succ, Bool.and_assoc]
theorem okp_mono {u h : List Int} {y i j : Nat} (hij : i ≤ j) (h0 : okp u h y i = false) : okp u h y j = false := by
  cases hj : okp u h y j with
  | false => rfl
  | true =>
    unfold okp at h0 hj
    simp only [Bool.and_eq_true, List.all_eq_true, List.mem_range] at hj
    have : (List.range i).all (fun z => !tb u z h.length || tb u (gi h z).toNat y) = true := by
      rw [List.all_eq_true]
      intro z hz
      exact hj.2 z (by have := List.mem_range.1 hz; omega)
    rw [hj.1, this] at h0
    cases h0

noncomputable def accN (u : List Int) (t : List (List Int)) (k : Nat) (h : List Int) (y : Nat) : List (List Int) := (List.range y).flatMap fun (y : Nat) => if nok u h y = true then prn u.length (nok u) (fun j => decide (NU u t j)) k (h ++ [(y : Int)]) else []
theorem accN_succ {u : List Int} {t : List (List Int)} {k : Nat} {h : List Int} {y : Nat} : accN u t k h (y + 1) = accN u t k h y ++ if nok u h y = true then prn u.length (nok u) (fun j => decide (NU u t j)) k (h ++ [(y : Int)]) else [] := by
  unfold accN
  rw [List.range_succ, List.flatMap_append]
  simp

theorem flatMap_len {α β : Type} {f : α → List β} {b : Nat} : ∀ (l : List α), (∀ x ∈ l, (f x).length ≤ b) → (l.flatMap f).length ≤ l.length * b
  | [], _ => by simp
  | x :: l, h => by
    rw [List.flatMap_cons, List.length_append, List.length_cons, Nat.succ_mul]
    have h1 := h x (by simp)
    have h2 := flatMap_len l (fun y hy => h y (by simp [hy]))
    omega
theorem prn_len {n : Nat} {ok : List Int → Nat → Bool} {good : List Int → Bool} : ∀ k h, (prn n ok good k h).length ≤ n ^ k
  | 0, h => by
    unfold prn
    split <;> simp
  | k + 1, h => by
    have := flatMap_len (f := fun (y : Nat) => if ok h y = true then prn n ok good k (h ++ [(y : Int)]) else []) (b := n ^ k) (List.range n) (fun y _ => by
      split
      · exact prn_len k _
      · simp)
    rw [List.length_range] at this
    rw [Nat.pow_succ, Nat.mul_comm]
    exact this
theorem accN_len {u : List Int} {t : List (List Int)} {k : Nat} {h : List Int} {y : Nat} : (accN u t k h y).length ≤ y * u.length ^ k := by
  have := flatMap_len (f := fun (y : Nat) => if nok u h y = true then prn u.length (nok u) (fun j => decide (NU u t j)) k (h ++ [(y : Int)]) else []) (b := u.length ^ k) (List.range y) (fun y _ => by
    split
    · exact prn_len k _
    · simp)
  rwa [List.length_range] at this
theorem pow6 {n k : Nat} (hn : n ≤ 6) (hk : k ≤ 6) : n ^ k ≤ 46656 := by
  have h1 := Nat.pow_le_pow_left hn k
  have h2 : 6 ^ k ≤ 6 ^ 6 := Nat.pow_le_pow_right (by omega) hk
  omega

theorem nucleiFromS_aux {u : List Int} {t : List (List Int)} (f : TF u t) : ∀ (k : Nat) (h : List Int), h.length + k = u.length → (∀ z, z < h.length → 0 ≤ gi h z ∧ gi h z < u.length) →
    PC Try.prog 155 [AL u t, IL h] none false (fun r _ => r = RL (prn u.length (nok u) (fun j => decide (NU u t j)) k h))
  | 0, h, hk, hh => by
    have h6 := f.lat.six
    have hb : Big h.length := by unfold Big; omega
    refine pcT [fm_isNucS] fok_155 ?_
    have hb2 : Big u.length := by unfold Big; omega
    cases hN : decide (NU u t h) <;> simp [fa_155, show h.length = u.length by omega, f, hb2, hN, prn, show u.length ≤ big from hb2] <;> simp [rowsD]
  | k + 1, h, hk, hh => by
    have h6 := f.lat.six
    have hsm := f.lat.sm
    have hb : Big h.length := by unfold Big; omega
    obtain ⟨fm, hid, hfr, hlk'⟩ := famE (P := Try.prog) (X := Nat) 155 false (fun y => [AL u t, IL (h ++ [(y : Int)])]) (fun y => y < u.length) (fun y => RL (prn u.length (nok u) (fun j => decide (NU u t j)) k (h ++ [(y : Int)]))) (by
      intro x y e
      simp at e
      have : x = y := by omega
      rw [this]) (fun y hy => nucleiFromS_aux f k _ (by simp; omega) (fun z hz => by
        simp only [List.length_append, List.length_cons, List.length_nil] at hz
        rcases Nat.lt_or_ge z h.length with c | c
        · rw [gi_append_left c]; exact hh z c
        · obtain rfl : z = h.length := by omega
          rw [gi_append_at]
          omega))
    have hlk : ∀ y : Nat, y < u.length → fm.look [AL u t, IL (h ++ [(y : Int)])] = some (RL (prn u.length (nok u) (fun j => decide (NU u t j)) k (h ++ [(y : Int)]))) := fun y hy => hlk' y hy
    refine pcT [fm, fm_belowS] fok_155 ?_
    simp [fa_155, show ¬ ((h.length : Int) = u.length) by omega]
    refine loopX (tabK_mono _) u.length (fun y γ => [(6, .arr 200 γ), (7, I64 y)]) (fun y γ => [⟨200, γ, .arr 1 (rowsD (accN u t k h y))⟩]) (fun _ _ => True) 1 (by simp) (by simp [accN, rowsD]) trivial (fun y γ g hy _ => ?_)
    simp [lb_155_8, wrap_succ hy (by omega), hid]
    refine ⟨fun h2 => ?_, fun h2 => by rw [show y = u.length by omega]; rfl⟩
    simp [hsm, h2, show h.length < u.length by omega]
    refine loopA (tabK_mono _) h.length (fun i => [(8, .bool (okp u h y i)), (9, I64 i)]) (fun _ => [⟨200, γ, .arr 1 (rowsD (accN u t k h y))⟩]) (fun _ => True) (by simp [okp]) (by simp) (fun i g2 hi _ => ?_)
    simp [lb_155_12, hid]
    refine cutW (tabK_mono _) [(43, .bool (decide (i < h.length) && okp u h y i))] (by cases hb1 : okp u h y i <;> simp [hb1]) ?_
    simp
    refine ⟨fun h3 h4 => ?_, fun h3 => ?_⟩
    · have q := hh i h3
      refine cutWc (tabK_mono _) [(8, .bool (okp u h y (i + 1)))] (by
        rw [okp_succ, h4]
        cases hb1 : tb u i h.length <;> simp [hid, hsm, h2, hb1, h3, q, show i < u.length by omega, show h.length < u.length by omega, show (gi h i).toNat < u.length by omega]) ?_
      simp [wrap_succ hi (by omega), hid]
      exact h3
    · have en : okp u h y i = nok u h y := by
        cases c : okp u h y i with
        | false => exact (okp_mono hi c).symm
        | true =>
          have : i = h.length := by
            rcases Nat.lt_or_ge i h.length with d | d
            · rw [h3 d] at c; cases c
            · omega
          rw [← c, this]; rfl
      rw [en]
      refine ⟨fun h4 => ?_, fun h4 => ⟨h2, γ, ⟨rfl, wrap_succ hy (by omega)⟩, rfl, by rw [accN_succ]; simp [h4]⟩⟩
      have l1 := hlk y h2
      refine cutE (α := Nat) (fun x => [(1, IL h), (2, (AL u t).iptr), (5, I64 h.length), (6, .arr 200 x), (7, I64 y)]) (fun x => [⟨200, x, .arr 1 (rowsD (accN u t k h (y + 1)))⟩]) (by
        simp [hid, hfr, l1]
        have e1 : (accN u t k h y).length ≤ 6 * 46656 := Nat.le_trans accN_len (Nat.mul_le_mul (by omega) (pow6 h6 (by omega)))
        have e2 : (prn u.length (nok u) (fun j => decide (NU u t j)) k (h ++ [(y : Int)])).length ≤ 46656 := Nat.le_trans (prn_len _ _) (pow6 h6 (by omega))
        have e4 : big = 1048576 * 1048576 := rfl
        refine ⟨by omega, by omega, by omega, ?_⟩
        rw [accN_succ, h4]
        simp [rowsD]) (fun x g0 => ?_)
      simp [wrap_succ hy (by omega)]
      exact h2

theorem nucleiFromS_pc (u : List Int) (t : List (List Int)) (f : TF u t) : PC Try.prog 155 [AL u t, IL []] none false (fun r _ => r = RL (nucM u t)) := by
  rw [← nuc_prn f.lat.pos]
  exact nucleiFromS_aux f u.length [] (by simp) (by simp)
noncomputable def fm_nucleiFromS : Fam Try.prog := mkFam (X := List Int × List (List Int)) 155 false (fun (u, t) => [AL u t, IL []]) (fun (u, t) => (TF u t)) (fun (u, t) => RL (nucM u t)) (by
  rintro ⟨u, t⟩ f
  exact nucleiFromS_pc u t f)
@[simp] theorem fm_nucleiFromS_id : fm_nucleiFromS.id = 155 := rfl
@[simp] theorem fm_nucleiFromS_fresh : fm_nucleiFromS.fresh = false := rfl
@[simp] theorem fm_nucleiFromS_look (u : List Int) (t : List (List Int)) (f : TF u t) : fm_nucleiFromS.look [AL u t, IL []] = some (RL (nucM u t)) :=
  lookF_of (X := List Int × List (List Int)) (args := fun (u, t) => [AL u t, IL []]) (pre := fun (u, t) => (TF u t)) (val := fun (u, t) => RL (nucM u t)) (by
  rintro ⟨u, t⟩ ⟨u', t'⟩ h
  simp at h
  try simp only [and_assoc] at h
  obtain ⟨rfl, rfl⟩ := h
  rfl) (u, t) f
attribute [irreducible] fm_nucleiFromS

noncomputable def nucR (u : List Int) (t : List (List Int)) : List (List Int) := if VA u t then nucM u t else []
theorem nucleiS_pc (u : List Int) (t : List (List Int)) (hu : Big u.length) (ht : BigR t) : PC Try.prog 77 [AL u t] none false (fun r _ => r = RL (nucR u t)) := by
  refine pcT [fm_validAlgebraS, fm_nucleiFromS] fok_77 ?_
  simp [fa_77, hu, ht]
  refine ⟨fun h => ?_, fun h => ?_⟩
  · simp [nucR, h, rowsD]
  · have l1 : fm_nucleiFromS.look [AL u t, .list 1 []] = some (RL (nucM u t)) := fm_nucleiFromS_look u t h.tf
    simp [nucR, h, l1]
noncomputable def fm_nucleiS : Fam Try.prog := mkFam (X := List Int × List (List Int)) 77 false (fun (u, t) => [AL u t]) (fun (u, t) => (Big u.length) ∧ (BigR t)) (fun (u, t) => RL (nucR u t)) (by
  rintro ⟨u, t⟩ ⟨hu, ht⟩
  exact nucleiS_pc u t hu ht)
@[simp] theorem fm_nucleiS_id : fm_nucleiS.id = 77 := rfl
@[simp] theorem fm_nucleiS_fresh : fm_nucleiS.fresh = false := rfl
@[simp] theorem fm_nucleiS_look (u : List Int) (t : List (List Int)) (hu : Big u.length) (ht : BigR t) : fm_nucleiS.look [AL u t] = some (RL (nucR u t)) :=
  lookF_of (X := List Int × List (List Int)) (args := fun (u, t) => [AL u t]) (pre := fun (u, t) => (Big u.length) ∧ (BigR t)) (val := fun (u, t) => RL (nucR u t)) (by
  rintro ⟨u, t⟩ ⟨u', t'⟩ h
  simp at h
  try simp only [and_assoc] at h
  obtain ⟨rfl, rfl⟩ := h
  rfl) (u, t) ⟨hu, ht⟩
attribute [irreducible] fm_nucleiS

noncomputable def nucP (u : List Int) (t : List (List Int)) (i : Nat) : List (List Int) := ((List.range i).map (dig u.length u.length)).filter fun j => decide (NU u t j)
theorem nucP_succ {u : List Int} {t : List (List Int)} {i : Nat} : nucP u t (i + 1) = nucP u t i ++ if NU u t (dig u.length u.length i) then [dig u.length u.length i] else [] := by
  unfold nucP
  rw [List.range_succ, List.map_append, List.filter_append]
  congr 1
  simp [List.filter_cons]

def inlN (id : Nat) : Option FnA := if id = 151 then some fa_151 else if id = 153 then some fa_153 else none
theorem inlN_ok (id : Nat) (fa : FnA) (h : inlN id = some fa) : ∃ A, FnOk Try.prog id fa A := by
  unfold inlN at h
  split at h
  · rename_i e; subst e; injection h with h; subst h; exact ⟨_, fok_151⟩
  split at h
  · rename_i e; subst e; injection h with h; subst h; exact ⟨_, fok_153⟩
  · cases h

set_option maxHeartbeats 4000000 in
theorem nucleiI_pc (u : List Int) (t : List (List Int)) (hu : Big u.length) (ht : BigR t) : PC Try.prog 75 [AL u t] none true (fun r _ => r = RO (nucR u t)) := by
  have hul := hu.le
  refine pcI inlN inlN_ok [fm_validAlgebraI, fm_repeatI, fm_isNucI] 3 fok_75 ?_
  simp [fa_75, callO3T, inlN, hu, ht]
  refine ⟨fun h => ?_, fun a => ?_⟩
  · simp [nucR, h, orowsD]
  have f := a.tf
  have h6 := f.lat.six
  have h1 := f.lat.pos
  have lr : fm_repeatI.look [D.list 1 [D.int .i64 ((u.length : Int) - 1)], D.int .i64 u.length] = some (IO1 (List.replicate u.length ((u.length : Int) - 1))) := fm_repeatI_look ((u.length : Int) - 1) u.length (by omega) (by omega)
  simp [lr, callO3T, inlN, wrap64 (n := (u.length : Int) - 1) (by omega) (by omega), callO16 (C := CI inlN) (id := 151) (fa := fa_151) rfl]
  refine eachList_run (α := Nat × Nat) (n := u.length) (m := u.length) h1 h6 h6 (fun x l => [⟨4064, 3, .arr 1 (ints l)⟩, ⟨24, 2, .cells [.arr 56 x.2]⟩, ⟨56, x.2, .arr 1 (orowsD (nucP u t x.1))⟩])
    (fun i x => x.1 = i) (0, 1) (by simp [KL, nucP, orowsD]) (by simp) (by simp) (by simp [KL]) (by simp) (fun i x tt g Q hi hP hQ => ?_) (fun x g hP => ?_)
  · obtain ⟨j, γ⟩ := x
    obtain rfl : j = i := hP
    have hl : (dig u.length u.length j).length = u.length := dig_length _ _ _
    have hb : Big (dig u.length u.length j).length := by rw [hl]; exact hu
    have hne : dig u.length u.length j ≠ [] := fun h => by rw [h] at hl; simp at hl; omega
    simp [callO16 (C := CI inlN) (id := 153) (fa := fa_153) rfl, fa_153, callO3T, callDO3T, inlN, f, hb]
    refine ⟨fun h => ?_, fun h => ?_⟩
    · refine cutE (α := Nat) (fun x => []) (fun x => [⟨4064, 3, .arr 1 (ints (dig u.length u.length j))⟩, ⟨24, 2, .cells [.arr 56 x]⟩, ⟨56, x, .arr 1 (orowsD (nucP u t (j + 1)))⟩]) ?_ (fun x g0 => ?_)
      · have hn : (nucP u t j).length ≤ 46656 := by
          have h2 : (nucP u t j).length ≤ j := by
            unfold nucP
            exact Nat.le_trans (List.length_filter_le _ _) (by simp)
          have h3 := pow6 h6 h6
          omega
        have e4 : big = 1048576 * 1048576 := rfl
        have lc := fm_cloneI_look (dig u.length u.length j) hb hne
        simp
        refine ⟨callDO1 fm_cloneI (by simp) (by simp) (v := IO1 (dig u.length u.length j)) (by simp; exact lc) ?_, callDO1 fm_cloneI (by simp) (by simp) (v := IO1 (dig u.length u.length j)) (by simp; exact lc) ?_⟩
        all_goals
          simp
          exact ⟨by omega, by rw [nucP_succ, if_pos h]⟩
      · simp
        refine hQ (j + 1, x) _ _ _ rfl (by simp) (by simp [KL])
    · refine hQ (j + 1, γ) _ _ _ rfl (by simp) ?_
      simp [KL, nucP_succ, h]
  · obtain ⟨j, γ⟩ := x
    obtain rfl : j = u.length ^ u.length := hP
    have e : nucR u t = nucP u t (u.length ^ u.length) := by simp [nucR, a]; rfl
    rw [e]
    simp
noncomputable def fm_nucleiI : Fam Try.prog := mkFam (X := List Int × List (List Int)) 75 true (fun (u, t) => [AL u t]) (fun (u, t) => (Big u.length) ∧ (BigR t)) (fun (u, t) => RO (nucR u t)) (by
  rintro ⟨u, t⟩ ⟨hu, ht⟩
  exact nucleiI_pc u t hu ht)
@[simp] theorem fm_nucleiI_id : fm_nucleiI.id = 75 := rfl
@[simp] theorem fm_nucleiI_fresh : fm_nucleiI.fresh = true := rfl
@[simp] theorem fm_nucleiI_look (u : List Int) (t : List (List Int)) (hu : Big u.length) (ht : BigR t) : fm_nucleiI.look [AL u t] = some (RO (nucR u t)) :=
  lookF_of (X := List Int × List (List Int)) (args := fun (u, t) => [AL u t]) (pre := fun (u, t) => (Big u.length) ∧ (BigR t)) (val := fun (u, t) => RO (nucR u t)) (by
  rintro ⟨u, t⟩ ⟨u', t'⟩ h
  simp at h
  try simp only [and_assoc] at h
  obtain ⟨rfl, rfl⟩ := h
  rfl) (u, t) ⟨hu, ht⟩
attribute [irreducible] fm_nucleiI

theorem nucM_row {u : List Int} {t : List (List Int)} {x : List Int} (h : x ∈ nucM u t) : x.length = u.length := by
  unfold nucM at h
  have := (List.mem_filter.1 h).1
  obtain ⟨i, _, rfl⟩ := List.mem_map.1 this
  exact dig_length _ _ _
theorem nucR_ok {u : List Int} {t : List (List Int)} : BigR (nucR u t) := by
  unfold nucR
  split
  · rename_i a
    have h6 := a.tf.lat.six
    have hl : (nucM u t).length ≤ 46656 := by
      refine Nat.le_trans (List.length_filter_le _ _) ?_
      simpa using pow6 h6 h6
    have hr : ∀ x ∈ nucM u t, x.length ≤ 6 := fun x hx => by rw [nucM_row hx]; exact h6
    exact ⟨by unfold Big; omega, fun x hx => by have := hr x hx; unfold Big; omega⟩
  · exact ⟨by unfold Big; simp, fun x hx => by cases hx⟩
end Go.PS
end

section
-- Contracts: algebras that are drawn and may be invalid.
set_option maxRecDepth 100000
set_option linter.unusedVariables false
set_option linter.unusedSimpArgs false
namespace Go.PS
open Go.Proofs

/-- An algebra that may be bent. -/
def bnM (b : List Int) (p : Nat) (u : List Int) (t : List (List Int)) : Alg × Nat :=
  if 0 < pkM b p 16 then ((u, t), p + 1)
  else (let k := (pkM b (p + 1) u.length).toNat; let c := pkM b (p + 2) 5
    if c = 0 then ((u, t.set k ((gr t k).set (pkM b (p + 3) u.length).toNat (gi [0, 1, -1, 6] (pkM b (p + 4) 4).toNat))), p + 5)
    else if c = 1 then ((u.set k (gi [0, 3, -1] (pkM b (p + 3) 3).toNat), t), p + 4)
    else if c = 2 then ((u, t.tail), p + 3)
    else if c = 3 then ((u, t.set k ((gr t k).tail)), p + 3)
    else ((u ++ [64], t), p + 3))

-- PRINTED by dagp.py
set_option maxHeartbeats 2000000 in
theorem bent_dag8 {Q : St → Prop} {b : List Int} {p : Nat} {u : List Int} {t : List (List Int)} {k y x1 x2 x3 : Nat} {z : Int} (hkt : k < t.length) (hyr : y < (gr t k).length) (l0 : fw_pick.look [.ptr 0 0 0, I64 u.length] (RS b (p + 3)) = some (I64 y, RS b (p + 4))) (l1 : fw_one.look [.ptr 0 0 0, .list 1 [.int .i64 0, .int .i64 1, .int .i64 (-1), .int .i64 6]] (RS b (p + 4)) = some (I64 z, RS b (p + 5)))
    (hQ : ∀ tb g, getT tb 4 = .ptr 32 1 0 → getT tb 5 = .ptr 40 x1 0 → Q ⟨tb, [⟨0, 0, .cells (RS b (p + 5))⟩, ⟨32, 1, .cells [.nil, .nil]⟩, ⟨40, x1, .cells [.arr 88 x2, .arr 136 x3]⟩, ⟨88, x2, .arr 1 (ints u)⟩, ⟨136, x3, .arr 1 (orowsD (t.set k ((gr t k).set y z)))⟩], g⟩) : ∀ tb g, getT tb 0 = .ptr 0 0 0 → getT tb 4 = .ptr 32 1 0 → getT tb 5 = .ptr 40 x1 0 → getT tb 6 = I64 (k : Int) → exT C0 0 (inlW C0 [fm_copyTabS] [fw_pick, fw_one] 0 0) ro_174_8 Q ex_174_8_0 ⟨tb, [⟨0, 0, .cells (RS b (p + 3))⟩, ⟨32, 1, .cells [.nil, .nil]⟩, ⟨40, x1, .cells [.arr 88 x2, .arr 136 x3]⟩, ⟨88, x2, .arr 1 (ints u)⟩, ⟨136, x3, .arr 1 (orowsD t)⟩], g⟩ := by
  have n32767 : ∀ tb g, getT tb 0 = .ptr 0 0 0 → getT tb 4 = .ptr 32 1 0 → getT tb 5 = .ptr 40 x1 0 → getT tb 6 = I64 (k : Int) → getT tb 33 = .ptr 40 x1 1 → getT tb 34 = .arr 136 x3 → getT tb 35 = I64 (k : Int) → getT tb 36 = .ptr 136 x3 k → getT tb 37 = .row 136 x3 k → getT tb 38 = .ptr 0 0 0 → getT tb 39 = .ptr 40 x1 0 → getT tb 40 = .arr 88 x2 → getT tb 41 = I64 (u.length : Int) → getT tb 42 = I64 (y : Int) → getT tb 43 = .ptr 0 0 0 → getT tb 44 = .list 1 [.int .i64 0, .int .i64 1, .int .i64 (-1), .int .i64 6] → getT tb 45 = I64 z → getT tb 46 = .rptr 136 x3 k y → exT C0 0 (inlW C0 [fm_copyTabS] [fw_pick, fw_one] 0 0) ro_174_8 Q ex_174_8_32767 ⟨tb, [⟨0, 0, .cells (RS b (p + 5))⟩, ⟨32, 1, .cells [.nil, .nil]⟩, ⟨40, x1, .cells [.arr 88 x2, .arr 136 x3]⟩, ⟨88, x2, .arr 1 (ints u)⟩, ⟨136, x3, .arr 1 (orowsD (t.set k ((gr t k).set y z)))⟩], g⟩ := by
    intro tb g e0 e4 e5 e6 e33 e34 e35 e36 e37 e38 e39 e40 e41 e42 e43 e44 e45 e46
    unfold ex_174_8_32767
    exact hQ tb g e4 e5
  have n16383 : ∀ tb g, getT tb 0 = .ptr 0 0 0 → getT tb 4 = .ptr 32 1 0 → getT tb 5 = .ptr 40 x1 0 → getT tb 6 = I64 (k : Int) → getT tb 33 = .ptr 40 x1 1 → getT tb 34 = .arr 136 x3 → getT tb 35 = I64 (k : Int) → getT tb 36 = .ptr 136 x3 k → getT tb 37 = .row 136 x3 k → getT tb 38 = .ptr 0 0 0 → getT tb 39 = .ptr 40 x1 0 → getT tb 40 = .arr 88 x2 → getT tb 41 = I64 (u.length : Int) → getT tb 42 = I64 (y : Int) → getT tb 43 = .ptr 0 0 0 → getT tb 44 = .list 1 [.int .i64 0, .int .i64 1, .int .i64 (-1), .int .i64 6] → getT tb 45 = I64 z → getT tb 46 = .rptr 136 x3 k y → exT C0 0 (inlW C0 [fm_copyTabS] [fw_pick, fw_one] 0 0) ro_174_8 Q ex_174_8_16383 ⟨tb, [⟨0, 0, .cells (RS b (p + 5))⟩, ⟨32, 1, .cells [.nil, .nil]⟩, ⟨40, x1, .cells [.arr 88 x2, .arr 136 x3]⟩, ⟨88, x2, .arr 1 (ints u)⟩, ⟨136, x3, .arr 1 (orowsD t)⟩], g⟩ := by
    intro tb g e0 e4 e5 e6 e33 e34 e35 e36 e37 e38 e39 e40 e41 e42 e43 e44 e45 e46
    unfold ex_174_8_16383
    simp only [exT_alt, exT_one, exT_stop, and_true]
    rw [ro_174_8_14]
    simp [callDOW, l0, l1, rg4, hkt, hyr, orowsD_ge, rowAt, rowB, e0, e4, e5, e6, e33, e34, e35, e36, e37, e38, e39, e40, e41, e42, e43, e44, e45, e46]
    refine n32767 _ _ ?_ ?_ ?_ ?_ ?_ ?_ ?_ ?_ ?_ ?_ ?_ ?_ ?_ ?_ ?_ ?_ ?_ ?_ <;> simp [getT, e0, e4, e5, e6, e33, e34, e35, e36, e37, e38, e39, e40, e41, e42, e43, e44, e45, e46]
  have n8191 : ∀ tb g, getT tb 0 = .ptr 0 0 0 → getT tb 4 = .ptr 32 1 0 → getT tb 5 = .ptr 40 x1 0 → getT tb 6 = I64 (k : Int) → getT tb 33 = .ptr 40 x1 1 → getT tb 34 = .arr 136 x3 → getT tb 35 = I64 (k : Int) → getT tb 36 = .ptr 136 x3 k → getT tb 37 = .row 136 x3 k → getT tb 38 = .ptr 0 0 0 → getT tb 39 = .ptr 40 x1 0 → getT tb 40 = .arr 88 x2 → getT tb 41 = I64 (u.length : Int) → getT tb 42 = I64 (y : Int) → getT tb 43 = .ptr 0 0 0 → getT tb 44 = .list 1 [.int .i64 0, .int .i64 1, .int .i64 (-1), .int .i64 6] → getT tb 45 = I64 z → exT C0 0 (inlW C0 [fm_copyTabS] [fw_pick, fw_one] 0 0) ro_174_8 Q ex_174_8_8191 ⟨tb, [⟨0, 0, .cells (RS b (p + 5))⟩, ⟨32, 1, .cells [.nil, .nil]⟩, ⟨40, x1, .cells [.arr 88 x2, .arr 136 x3]⟩, ⟨88, x2, .arr 1 (ints u)⟩, ⟨136, x3, .arr 1 (orowsD t)⟩], g⟩ := by
    intro tb g e0 e4 e5 e6 e33 e34 e35 e36 e37 e38 e39 e40 e41 e42 e43 e44 e45
    unfold ex_174_8_8191
    simp only [exT_alt, exT_one, exT_stop, and_true]
    rw [ro_174_8_13]
    simp [callDOW, l0, l1, rg4, hkt, hyr, orowsD_ge, rowAt, rowB, e0, e4, e5, e6, e33, e34, e35, e36, e37, e38, e39, e40, e41, e42, e43, e44, e45]
    refine n16383 _ _ ?_ ?_ ?_ ?_ ?_ ?_ ?_ ?_ ?_ ?_ ?_ ?_ ?_ ?_ ?_ ?_ ?_ ?_ <;> simp [getT, e0, e4, e5, e6, e33, e34, e35, e36, e37, e38, e39, e40, e41, e42, e43, e44, e45]
  have n8175 : ∀ tb g, getT tb 0 = .ptr 0 0 0 → getT tb 4 = .ptr 32 1 0 → getT tb 5 = .ptr 40 x1 0 → getT tb 6 = I64 (k : Int) → getT tb 33 = .ptr 40 x1 1 → getT tb 34 = .arr 136 x3 → getT tb 35 = I64 (k : Int) → getT tb 36 = .ptr 136 x3 k → getT tb 38 = .ptr 0 0 0 → getT tb 39 = .ptr 40 x1 0 → getT tb 40 = .arr 88 x2 → getT tb 41 = I64 (u.length : Int) → getT tb 42 = I64 (y : Int) → getT tb 43 = .ptr 0 0 0 → getT tb 44 = .list 1 [.int .i64 0, .int .i64 1, .int .i64 (-1), .int .i64 6] → getT tb 45 = I64 z → exT C0 0 (inlW C0 [fm_copyTabS] [fw_pick, fw_one] 0 0) ro_174_8 Q ex_174_8_8175 ⟨tb, [⟨0, 0, .cells (RS b (p + 5))⟩, ⟨32, 1, .cells [.nil, .nil]⟩, ⟨40, x1, .cells [.arr 88 x2, .arr 136 x3]⟩, ⟨88, x2, .arr 1 (ints u)⟩, ⟨136, x3, .arr 1 (orowsD t)⟩], g⟩ := by
    intro tb g e0 e4 e5 e6 e33 e34 e35 e36 e38 e39 e40 e41 e42 e43 e44 e45
    unfold ex_174_8_8175
    simp only [exT_alt, exT_one, exT_stop, and_true]
    rw [ro_174_8_4]
    simp [callDOW, l0, l1, rg4, hkt, hyr, orowsD_ge, rowAt, rowB, e0, e4, e5, e6, e33, e34, e35, e36, e38, e39, e40, e41, e42, e43, e44, e45]
    refine n8191 _ _ ?_ ?_ ?_ ?_ ?_ ?_ ?_ ?_ ?_ ?_ ?_ ?_ ?_ ?_ ?_ ?_ ?_ <;> simp [getT, e0, e4, e5, e6, e33, e34, e35, e36, e38, e39, e40, e41, e42, e43, e44, e45]
  have n8167 : ∀ tb g, getT tb 0 = .ptr 0 0 0 → getT tb 4 = .ptr 32 1 0 → getT tb 5 = .ptr 40 x1 0 → getT tb 6 = I64 (k : Int) → getT tb 33 = .ptr 40 x1 1 → getT tb 34 = .arr 136 x3 → getT tb 35 = I64 (k : Int) → getT tb 38 = .ptr 0 0 0 → getT tb 39 = .ptr 40 x1 0 → getT tb 40 = .arr 88 x2 → getT tb 41 = I64 (u.length : Int) → getT tb 42 = I64 (y : Int) → getT tb 43 = .ptr 0 0 0 → getT tb 44 = .list 1 [.int .i64 0, .int .i64 1, .int .i64 (-1), .int .i64 6] → getT tb 45 = I64 z → exT C0 0 (inlW C0 [fm_copyTabS] [fw_pick, fw_one] 0 0) ro_174_8 Q ex_174_8_8167 ⟨tb, [⟨0, 0, .cells (RS b (p + 5))⟩, ⟨32, 1, .cells [.nil, .nil]⟩, ⟨40, x1, .cells [.arr 88 x2, .arr 136 x3]⟩, ⟨88, x2, .arr 1 (ints u)⟩, ⟨136, x3, .arr 1 (orowsD t)⟩], g⟩ := by
    intro tb g e0 e4 e5 e6 e33 e34 e35 e38 e39 e40 e41 e42 e43 e44 e45
    unfold ex_174_8_8167
    simp only [exT_alt, exT_one, exT_stop, and_true]
    rw [ro_174_8_3]
    simp [callDOW, l0, l1, rg4, hkt, hyr, orowsD_ge, rowAt, rowB, e0, e4, e5, e6, e33, e34, e35, e38, e39, e40, e41, e42, e43, e44, e45]
    refine n8175 _ _ ?_ ?_ ?_ ?_ ?_ ?_ ?_ ?_ ?_ ?_ ?_ ?_ ?_ ?_ ?_ ?_ <;> simp [getT, e0, e4, e5, e6, e33, e34, e35, e38, e39, e40, e41, e42, e43, e44, e45]
  have n8165 : ∀ tb g, getT tb 0 = .ptr 0 0 0 → getT tb 4 = .ptr 32 1 0 → getT tb 5 = .ptr 40 x1 0 → getT tb 6 = I64 (k : Int) → getT tb 33 = .ptr 40 x1 1 → getT tb 35 = I64 (k : Int) → getT tb 38 = .ptr 0 0 0 → getT tb 39 = .ptr 40 x1 0 → getT tb 40 = .arr 88 x2 → getT tb 41 = I64 (u.length : Int) → getT tb 42 = I64 (y : Int) → getT tb 43 = .ptr 0 0 0 → getT tb 44 = .list 1 [.int .i64 0, .int .i64 1, .int .i64 (-1), .int .i64 6] → getT tb 45 = I64 z → exT C0 0 (inlW C0 [fm_copyTabS] [fw_pick, fw_one] 0 0) ro_174_8 Q ex_174_8_8165 ⟨tb, [⟨0, 0, .cells (RS b (p + 5))⟩, ⟨32, 1, .cells [.nil, .nil]⟩, ⟨40, x1, .cells [.arr 88 x2, .arr 136 x3]⟩, ⟨88, x2, .arr 1 (ints u)⟩, ⟨136, x3, .arr 1 (orowsD t)⟩], g⟩ := by
    intro tb g e0 e4 e5 e6 e33 e35 e38 e39 e40 e41 e42 e43 e44 e45
    unfold ex_174_8_8165
    simp only [exT_alt, exT_one, exT_stop, and_true]
    rw [ro_174_8_1]
    simp [callDOW, l0, l1, rg4, hkt, hyr, orowsD_ge, rowAt, rowB, e0, e4, e5, e6, e33, e35, e38, e39, e40, e41, e42, e43, e44, e45]
    refine n8167 _ _ ?_ ?_ ?_ ?_ ?_ ?_ ?_ ?_ ?_ ?_ ?_ ?_ ?_ ?_ ?_ <;> simp [getT, e0, e4, e5, e6, e33, e35, e38, e39, e40, e41, e42, e43, e44, e45]
  have n8164 : ∀ tb g, getT tb 0 = .ptr 0 0 0 → getT tb 4 = .ptr 32 1 0 → getT tb 5 = .ptr 40 x1 0 → getT tb 6 = I64 (k : Int) → getT tb 35 = I64 (k : Int) → getT tb 38 = .ptr 0 0 0 → getT tb 39 = .ptr 40 x1 0 → getT tb 40 = .arr 88 x2 → getT tb 41 = I64 (u.length : Int) → getT tb 42 = I64 (y : Int) → getT tb 43 = .ptr 0 0 0 → getT tb 44 = .list 1 [.int .i64 0, .int .i64 1, .int .i64 (-1), .int .i64 6] → getT tb 45 = I64 z → exT C0 0 (inlW C0 [fm_copyTabS] [fw_pick, fw_one] 0 0) ro_174_8 Q ex_174_8_8164 ⟨tb, [⟨0, 0, .cells (RS b (p + 5))⟩, ⟨32, 1, .cells [.nil, .nil]⟩, ⟨40, x1, .cells [.arr 88 x2, .arr 136 x3]⟩, ⟨88, x2, .arr 1 (ints u)⟩, ⟨136, x3, .arr 1 (orowsD t)⟩], g⟩ := by
    intro tb g e0 e4 e5 e6 e35 e38 e39 e40 e41 e42 e43 e44 e45
    unfold ex_174_8_8164
    simp only [exT_alt, exT_one, exT_stop, and_true]
    rw [ro_174_8_0]
    simp [callDOW, l0, l1, rg4, hkt, hyr, orowsD_ge, rowAt, rowB, e0, e4, e5, e6, e35, e38, e39, e40, e41, e42, e43, e44, e45]
    refine n8165 _ _ ?_ ?_ ?_ ?_ ?_ ?_ ?_ ?_ ?_ ?_ ?_ ?_ ?_ ?_ <;> simp [getT, e0, e4, e5, e6, e35, e38, e39, e40, e41, e42, e43, e44, e45]
  have n4095 : ∀ tb g, getT tb 0 = .ptr 0 0 0 → getT tb 4 = .ptr 32 1 0 → getT tb 5 = .ptr 40 x1 0 → getT tb 6 = I64 (k : Int) → getT tb 33 = .ptr 40 x1 1 → getT tb 34 = .arr 136 x3 → getT tb 35 = I64 (k : Int) → getT tb 36 = .ptr 136 x3 k → getT tb 37 = .row 136 x3 k → getT tb 38 = .ptr 0 0 0 → getT tb 39 = .ptr 40 x1 0 → getT tb 40 = .arr 88 x2 → getT tb 41 = I64 (u.length : Int) → getT tb 42 = I64 (y : Int) → getT tb 43 = .ptr 0 0 0 → getT tb 44 = .list 1 [.int .i64 0, .int .i64 1, .int .i64 (-1), .int .i64 6] → exT C0 0 (inlW C0 [fm_copyTabS] [fw_pick, fw_one] 0 0) ro_174_8 Q ex_174_8_4095 ⟨tb, [⟨0, 0, .cells (RS b (p + 4))⟩, ⟨32, 1, .cells [.nil, .nil]⟩, ⟨40, x1, .cells [.arr 88 x2, .arr 136 x3]⟩, ⟨88, x2, .arr 1 (ints u)⟩, ⟨136, x3, .arr 1 (orowsD t)⟩], g⟩ := by
    intro tb g e0 e4 e5 e6 e33 e34 e35 e36 e37 e38 e39 e40 e41 e42 e43 e44
    unfold ex_174_8_4095
    simp only [exT_alt, exT_one, exT_stop, and_true]
    rw [ro_174_8_12]
    simp [callDOW, l0, l1, rg4, hkt, hyr, orowsD_ge, rowAt, rowB, e0, e4, e5, e6, e33, e34, e35, e36, e37, e38, e39, e40, e41, e42, e43, e44]
    refine n8191 _ _ ?_ ?_ ?_ ?_ ?_ ?_ ?_ ?_ ?_ ?_ ?_ ?_ ?_ ?_ ?_ ?_ ?_ <;> simp [getT, e0, e4, e5, e6, e33, e34, e35, e36, e37, e38, e39, e40, e41, e42, e43, e44]
  have n4079 : ∀ tb g, getT tb 0 = .ptr 0 0 0 → getT tb 4 = .ptr 32 1 0 → getT tb 5 = .ptr 40 x1 0 → getT tb 6 = I64 (k : Int) → getT tb 33 = .ptr 40 x1 1 → getT tb 34 = .arr 136 x3 → getT tb 35 = I64 (k : Int) → getT tb 36 = .ptr 136 x3 k → getT tb 38 = .ptr 0 0 0 → getT tb 39 = .ptr 40 x1 0 → getT tb 40 = .arr 88 x2 → getT tb 41 = I64 (u.length : Int) → getT tb 42 = I64 (y : Int) → getT tb 43 = .ptr 0 0 0 → getT tb 44 = .list 1 [.int .i64 0, .int .i64 1, .int .i64 (-1), .int .i64 6] → exT C0 0 (inlW C0 [fm_copyTabS] [fw_pick, fw_one] 0 0) ro_174_8 Q ex_174_8_4079 ⟨tb, [⟨0, 0, .cells (RS b (p + 4))⟩, ⟨32, 1, .cells [.nil, .nil]⟩, ⟨40, x1, .cells [.arr 88 x2, .arr 136 x3]⟩, ⟨88, x2, .arr 1 (ints u)⟩, ⟨136, x3, .arr 1 (orowsD t)⟩], g⟩ := by
    intro tb g e0 e4 e5 e6 e33 e34 e35 e36 e38 e39 e40 e41 e42 e43 e44
    unfold ex_174_8_4079
    simp only [exT_alt, exT_one, exT_stop, and_true]
    refine ⟨?_, ?_⟩
    · rw [ro_174_8_4]
      simp [callDOW, l0, l1, rg4, hkt, hyr, orowsD_ge, rowAt, rowB, e0, e4, e5, e6, e33, e34, e35, e36, e38, e39, e40, e41, e42, e43, e44]
      refine n4095 _ _ ?_ ?_ ?_ ?_ ?_ ?_ ?_ ?_ ?_ ?_ ?_ ?_ ?_ ?_ ?_ ?_ <;> simp [getT, e0, e4, e5, e6, e33, e34, e35, e36, e38, e39, e40, e41, e42, e43, e44]
    · rw [ro_174_8_12]
      simp [callDOW, l0, l1, rg4, hkt, hyr, orowsD_ge, rowAt, rowB, e0, e4, e5, e6, e33, e34, e35, e36, e38, e39, e40, e41, e42, e43, e44]
      refine n8175 _ _ ?_ ?_ ?_ ?_ ?_ ?_ ?_ ?_ ?_ ?_ ?_ ?_ ?_ ?_ ?_ ?_ <;> simp [getT, e0, e4, e5, e6, e33, e34, e35, e36, e38, e39, e40, e41, e42, e43, e44]
  have n4071 : ∀ tb g, getT tb 0 = .ptr 0 0 0 → getT tb 4 = .ptr 32 1 0 → getT tb 5 = .ptr 40 x1 0 → getT tb 6 = I64 (k : Int) → getT tb 33 = .ptr 40 x1 1 → getT tb 34 = .arr 136 x3 → getT tb 35 = I64 (k : Int) → getT tb 38 = .ptr 0 0 0 → getT tb 39 = .ptr 40 x1 0 → getT tb 40 = .arr 88 x2 → getT tb 41 = I64 (u.length : Int) → getT tb 42 = I64 (y : Int) → getT tb 43 = .ptr 0 0 0 → getT tb 44 = .list 1 [.int .i64 0, .int .i64 1, .int .i64 (-1), .int .i64 6] → exT C0 0 (inlW C0 [fm_copyTabS] [fw_pick, fw_one] 0 0) ro_174_8 Q ex_174_8_4071 ⟨tb, [⟨0, 0, .cells (RS b (p + 4))⟩, ⟨32, 1, .cells [.nil, .nil]⟩, ⟨40, x1, .cells [.arr 88 x2, .arr 136 x3]⟩, ⟨88, x2, .arr 1 (ints u)⟩, ⟨136, x3, .arr 1 (orowsD t)⟩], g⟩ := by
    intro tb g e0 e4 e5 e6 e33 e34 e35 e38 e39 e40 e41 e42 e43 e44
    unfold ex_174_8_4071
    simp only [exT_alt, exT_one, exT_stop, and_true]
    refine ⟨?_, ?_⟩
    · rw [ro_174_8_3]
      simp [callDOW, l0, l1, rg4, hkt, hyr, orowsD_ge, rowAt, rowB, e0, e4, e5, e6, e33, e34, e35, e38, e39, e40, e41, e42, e43, e44]
      refine n4079 _ _ ?_ ?_ ?_ ?_ ?_ ?_ ?_ ?_ ?_ ?_ ?_ ?_ ?_ ?_ ?_ <;> simp [getT, e0, e4, e5, e6, e33, e34, e35, e38, e39, e40, e41, e42, e43, e44]
    · rw [ro_174_8_12]
      simp [callDOW, l0, l1, rg4, hkt, hyr, orowsD_ge, rowAt, rowB, e0, e4, e5, e6, e33, e34, e35, e38, e39, e40, e41, e42, e43, e44]
      refine n8167 _ _ ?_ ?_ ?_ ?_ ?_ ?_ ?_ ?_ ?_ ?_ ?_ ?_ ?_ ?_ ?_ <;> simp [getT, e0, e4, e5, e6, e33, e34, e35, e38, e39, e40, e41, e42, e43, e44]
  have n4069 : ∀ tb g, getT tb 0 = .ptr 0 0 0 → getT tb 4 = .ptr 32 1 0 → getT tb 5 = .ptr 40 x1 0 → getT tb 6 = I64 (k : Int) → getT tb 33 = .ptr 40 x1 1 → getT tb 35 = I64 (k : Int) → getT tb 38 = .ptr 0 0 0 → getT tb 39 = .ptr 40 x1 0 → getT tb 40 = .arr 88 x2 → getT tb 41 = I64 (u.length : Int) → getT tb 42 = I64 (y : Int) → getT tb 43 = .ptr 0 0 0 → getT tb 44 = .list 1 [.int .i64 0, .int .i64 1, .int .i64 (-1), .int .i64 6] → exT C0 0 (inlW C0 [fm_copyTabS] [fw_pick, fw_one] 0 0) ro_174_8 Q ex_174_8_4069 ⟨tb, [⟨0, 0, .cells (RS b (p + 4))⟩, ⟨32, 1, .cells [.nil, .nil]⟩, ⟨40, x1, .cells [.arr 88 x2, .arr 136 x3]⟩, ⟨88, x2, .arr 1 (ints u)⟩, ⟨136, x3, .arr 1 (orowsD t)⟩], g⟩ := by
    intro tb g e0 e4 e5 e6 e33 e35 e38 e39 e40 e41 e42 e43 e44
    unfold ex_174_8_4069
    simp only [exT_alt, exT_one, exT_stop, and_true]
    refine ⟨?_, ?_⟩
    · rw [ro_174_8_1]
      simp [callDOW, l0, l1, rg4, hkt, hyr, orowsD_ge, rowAt, rowB, e0, e4, e5, e6, e33, e35, e38, e39, e40, e41, e42, e43, e44]
      refine n4071 _ _ ?_ ?_ ?_ ?_ ?_ ?_ ?_ ?_ ?_ ?_ ?_ ?_ ?_ ?_ <;> simp [getT, e0, e4, e5, e6, e33, e35, e38, e39, e40, e41, e42, e43, e44]
    · rw [ro_174_8_12]
      simp [callDOW, l0, l1, rg4, hkt, hyr, orowsD_ge, rowAt, rowB, e0, e4, e5, e6, e33, e35, e38, e39, e40, e41, e42, e43, e44]
      refine n8165 _ _ ?_ ?_ ?_ ?_ ?_ ?_ ?_ ?_ ?_ ?_ ?_ ?_ ?_ ?_ <;> simp [getT, e0, e4, e5, e6, e33, e35, e38, e39, e40, e41, e42, e43, e44]
  have n4068 : ∀ tb g, getT tb 0 = .ptr 0 0 0 → getT tb 4 = .ptr 32 1 0 → getT tb 5 = .ptr 40 x1 0 → getT tb 6 = I64 (k : Int) → getT tb 35 = I64 (k : Int) → getT tb 38 = .ptr 0 0 0 → getT tb 39 = .ptr 40 x1 0 → getT tb 40 = .arr 88 x2 → getT tb 41 = I64 (u.length : Int) → getT tb 42 = I64 (y : Int) → getT tb 43 = .ptr 0 0 0 → getT tb 44 = .list 1 [.int .i64 0, .int .i64 1, .int .i64 (-1), .int .i64 6] → exT C0 0 (inlW C0 [fm_copyTabS] [fw_pick, fw_one] 0 0) ro_174_8 Q ex_174_8_4068 ⟨tb, [⟨0, 0, .cells (RS b (p + 4))⟩, ⟨32, 1, .cells [.nil, .nil]⟩, ⟨40, x1, .cells [.arr 88 x2, .arr 136 x3]⟩, ⟨88, x2, .arr 1 (ints u)⟩, ⟨136, x3, .arr 1 (orowsD t)⟩], g⟩ := by
    intro tb g e0 e4 e5 e6 e35 e38 e39 e40 e41 e42 e43 e44
    unfold ex_174_8_4068
    simp only [exT_alt, exT_one, exT_stop, and_true]
    refine ⟨?_, ?_⟩
    · rw [ro_174_8_0]
      simp [callDOW, l0, l1, rg4, hkt, hyr, orowsD_ge, rowAt, rowB, e0, e4, e5, e6, e35, e38, e39, e40, e41, e42, e43, e44]
      refine n4069 _ _ ?_ ?_ ?_ ?_ ?_ ?_ ?_ ?_ ?_ ?_ ?_ ?_ ?_ <;> simp [getT, e0, e4, e5, e6, e35, e38, e39, e40, e41, e42, e43, e44]
    · rw [ro_174_8_12]
      simp [callDOW, l0, l1, rg4, hkt, hyr, orowsD_ge, rowAt, rowB, e0, e4, e5, e6, e35, e38, e39, e40, e41, e42, e43, e44]
      refine n8164 _ _ ?_ ?_ ?_ ?_ ?_ ?_ ?_ ?_ ?_ ?_ ?_ ?_ ?_ <;> simp [getT, e0, e4, e5, e6, e35, e38, e39, e40, e41, e42, e43, e44]
  have n3583 : ∀ tb g, getT tb 0 = .ptr 0 0 0 → getT tb 4 = .ptr 32 1 0 → getT tb 5 = .ptr 40 x1 0 → getT tb 6 = I64 (k : Int) → getT tb 33 = .ptr 40 x1 1 → getT tb 34 = .arr 136 x3 → getT tb 35 = I64 (k : Int) → getT tb 36 = .ptr 136 x3 k → getT tb 37 = .row 136 x3 k → getT tb 38 = .ptr 0 0 0 → getT tb 39 = .ptr 40 x1 0 → getT tb 40 = .arr 88 x2 → getT tb 41 = I64 (u.length : Int) → getT tb 43 = .ptr 0 0 0 → getT tb 44 = .list 1 [.int .i64 0, .int .i64 1, .int .i64 (-1), .int .i64 6] → exT C0 0 (inlW C0 [fm_copyTabS] [fw_pick, fw_one] 0 0) ro_174_8 Q ex_174_8_3583 ⟨tb, [⟨0, 0, .cells (RS b (p + 3))⟩, ⟨32, 1, .cells [.nil, .nil]⟩, ⟨40, x1, .cells [.arr 88 x2, .arr 136 x3]⟩, ⟨88, x2, .arr 1 (ints u)⟩, ⟨136, x3, .arr 1 (orowsD t)⟩], g⟩ := by
    intro tb g e0 e4 e5 e6 e33 e34 e35 e36 e37 e38 e39 e40 e41 e43 e44
    unfold ex_174_8_3583
    simp only [exT_alt, exT_one, exT_stop, and_true]
    rw [ro_174_8_9]
    simp [callDOW, l0, l1, rg4, hkt, hyr, orowsD_ge, rowAt, rowB, e0, e4, e5, e6, e33, e34, e35, e36, e37, e38, e39, e40, e41, e43, e44]
    refine n4095 _ _ ?_ ?_ ?_ ?_ ?_ ?_ ?_ ?_ ?_ ?_ ?_ ?_ ?_ ?_ ?_ ?_ <;> simp [getT, e0, e4, e5, e6, e33, e34, e35, e36, e37, e38, e39, e40, e41, e43, e44]
  have n3567 : ∀ tb g, getT tb 0 = .ptr 0 0 0 → getT tb 4 = .ptr 32 1 0 → getT tb 5 = .ptr 40 x1 0 → getT tb 6 = I64 (k : Int) → getT tb 33 = .ptr 40 x1 1 → getT tb 34 = .arr 136 x3 → getT tb 35 = I64 (k : Int) → getT tb 36 = .ptr 136 x3 k → getT tb 38 = .ptr 0 0 0 → getT tb 39 = .ptr 40 x1 0 → getT tb 40 = .arr 88 x2 → getT tb 41 = I64 (u.length : Int) → getT tb 43 = .ptr 0 0 0 → getT tb 44 = .list 1 [.int .i64 0, .int .i64 1, .int .i64 (-1), .int .i64 6] → exT C0 0 (inlW C0 [fm_copyTabS] [fw_pick, fw_one] 0 0) ro_174_8 Q ex_174_8_3567 ⟨tb, [⟨0, 0, .cells (RS b (p + 3))⟩, ⟨32, 1, .cells [.nil, .nil]⟩, ⟨40, x1, .cells [.arr 88 x2, .arr 136 x3]⟩, ⟨88, x2, .arr 1 (ints u)⟩, ⟨136, x3, .arr 1 (orowsD t)⟩], g⟩ := by
    intro tb g e0 e4 e5 e6 e33 e34 e35 e36 e38 e39 e40 e41 e43 e44
    unfold ex_174_8_3567
    simp only [exT_alt, exT_one, exT_stop, and_true]
    refine ⟨?_, ?_⟩
    · rw [ro_174_8_4]
      simp [callDOW, l0, l1, rg4, hkt, hyr, orowsD_ge, rowAt, rowB, e0, e4, e5, e6, e33, e34, e35, e36, e38, e39, e40, e41, e43, e44]
      refine n3583 _ _ ?_ ?_ ?_ ?_ ?_ ?_ ?_ ?_ ?_ ?_ ?_ ?_ ?_ ?_ ?_ <;> simp [getT, e0, e4, e5, e6, e33, e34, e35, e36, e38, e39, e40, e41, e43, e44]
    · rw [ro_174_8_9]
      simp [callDOW, l0, l1, rg4, hkt, hyr, orowsD_ge, rowAt, rowB, e0, e4, e5, e6, e33, e34, e35, e36, e38, e39, e40, e41, e43, e44]
      refine n4079 _ _ ?_ ?_ ?_ ?_ ?_ ?_ ?_ ?_ ?_ ?_ ?_ ?_ ?_ ?_ ?_ <;> simp [getT, e0, e4, e5, e6, e33, e34, e35, e36, e38, e39, e40, e41, e43, e44]
  have n3559 : ∀ tb g, getT tb 0 = .ptr 0 0 0 → getT tb 4 = .ptr 32 1 0 → getT tb 5 = .ptr 40 x1 0 → getT tb 6 = I64 (k : Int) → getT tb 33 = .ptr 40 x1 1 → getT tb 34 = .arr 136 x3 → getT tb 35 = I64 (k : Int) → getT tb 38 = .ptr 0 0 0 → getT tb 39 = .ptr 40 x1 0 → getT tb 40 = .arr 88 x2 → getT tb 41 = I64 (u.length : Int) → getT tb 43 = .ptr 0 0 0 → getT tb 44 = .list 1 [.int .i64 0, .int .i64 1, .int .i64 (-1), .int .i64 6] → exT C0 0 (inlW C0 [fm_copyTabS] [fw_pick, fw_one] 0 0) ro_174_8 Q ex_174_8_3559 ⟨tb, [⟨0, 0, .cells (RS b (p + 3))⟩, ⟨32, 1, .cells [.nil, .nil]⟩, ⟨40, x1, .cells [.arr 88 x2, .arr 136 x3]⟩, ⟨88, x2, .arr 1 (ints u)⟩, ⟨136, x3, .arr 1 (orowsD t)⟩], g⟩ := by
    intro tb g e0 e4 e5 e6 e33 e34 e35 e38 e39 e40 e41 e43 e44
    unfold ex_174_8_3559
    simp only [exT_alt, exT_one, exT_stop, and_true]
    refine ⟨?_, ?_⟩
    · rw [ro_174_8_3]
      simp [callDOW, l0, l1, rg4, hkt, hyr, orowsD_ge, rowAt, rowB, e0, e4, e5, e6, e33, e34, e35, e38, e39, e40, e41, e43, e44]
      refine n3567 _ _ ?_ ?_ ?_ ?_ ?_ ?_ ?_ ?_ ?_ ?_ ?_ ?_ ?_ ?_ <;> simp [getT, e0, e4, e5, e6, e33, e34, e35, e38, e39, e40, e41, e43, e44]
    · rw [ro_174_8_9]
      simp [callDOW, l0, l1, rg4, hkt, hyr, orowsD_ge, rowAt, rowB, e0, e4, e5, e6, e33, e34, e35, e38, e39, e40, e41, e43, e44]
      refine n4071 _ _ ?_ ?_ ?_ ?_ ?_ ?_ ?_ ?_ ?_ ?_ ?_ ?_ ?_ ?_ <;> simp [getT, e0, e4, e5, e6, e33, e34, e35, e38, e39, e40, e41, e43, e44]
  have n3557 : ∀ tb g, getT tb 0 = .ptr 0 0 0 → getT tb 4 = .ptr 32 1 0 → getT tb 5 = .ptr 40 x1 0 → getT tb 6 = I64 (k : Int) → getT tb 33 = .ptr 40 x1 1 → getT tb 35 = I64 (k : Int) → getT tb 38 = .ptr 0 0 0 → getT tb 39 = .ptr 40 x1 0 → getT tb 40 = .arr 88 x2 → getT tb 41 = I64 (u.length : Int) → getT tb 43 = .ptr 0 0 0 → getT tb 44 = .list 1 [.int .i64 0, .int .i64 1, .int .i64 (-1), .int .i64 6] → exT C0 0 (inlW C0 [fm_copyTabS] [fw_pick, fw_one] 0 0) ro_174_8 Q ex_174_8_3557 ⟨tb, [⟨0, 0, .cells (RS b (p + 3))⟩, ⟨32, 1, .cells [.nil, .nil]⟩, ⟨40, x1, .cells [.arr 88 x2, .arr 136 x3]⟩, ⟨88, x2, .arr 1 (ints u)⟩, ⟨136, x3, .arr 1 (orowsD t)⟩], g⟩ := by
    intro tb g e0 e4 e5 e6 e33 e35 e38 e39 e40 e41 e43 e44
    unfold ex_174_8_3557
    simp only [exT_alt, exT_one, exT_stop, and_true]
    refine ⟨?_, ?_⟩
    · rw [ro_174_8_1]
      simp [callDOW, l0, l1, rg4, hkt, hyr, orowsD_ge, rowAt, rowB, e0, e4, e5, e6, e33, e35, e38, e39, e40, e41, e43, e44]
      refine n3559 _ _ ?_ ?_ ?_ ?_ ?_ ?_ ?_ ?_ ?_ ?_ ?_ ?_ ?_ <;> simp [getT, e0, e4, e5, e6, e33, e35, e38, e39, e40, e41, e43, e44]
    · rw [ro_174_8_9]
      simp [callDOW, l0, l1, rg4, hkt, hyr, orowsD_ge, rowAt, rowB, e0, e4, e5, e6, e33, e35, e38, e39, e40, e41, e43, e44]
      refine n4069 _ _ ?_ ?_ ?_ ?_ ?_ ?_ ?_ ?_ ?_ ?_ ?_ ?_ ?_ <;> simp [getT, e0, e4, e5, e6, e33, e35, e38, e39, e40, e41, e43, e44]
  have n3556 : ∀ tb g, getT tb 0 = .ptr 0 0 0 → getT tb 4 = .ptr 32 1 0 → getT tb 5 = .ptr 40 x1 0 → getT tb 6 = I64 (k : Int) → getT tb 35 = I64 (k : Int) → getT tb 38 = .ptr 0 0 0 → getT tb 39 = .ptr 40 x1 0 → getT tb 40 = .arr 88 x2 → getT tb 41 = I64 (u.length : Int) → getT tb 43 = .ptr 0 0 0 → getT tb 44 = .list 1 [.int .i64 0, .int .i64 1, .int .i64 (-1), .int .i64 6] → exT C0 0 (inlW C0 [fm_copyTabS] [fw_pick, fw_one] 0 0) ro_174_8 Q ex_174_8_3556 ⟨tb, [⟨0, 0, .cells (RS b (p + 3))⟩, ⟨32, 1, .cells [.nil, .nil]⟩, ⟨40, x1, .cells [.arr 88 x2, .arr 136 x3]⟩, ⟨88, x2, .arr 1 (ints u)⟩, ⟨136, x3, .arr 1 (orowsD t)⟩], g⟩ := by
    intro tb g e0 e4 e5 e6 e35 e38 e39 e40 e41 e43 e44
    unfold ex_174_8_3556
    simp only [exT_alt, exT_one, exT_stop, and_true]
    refine ⟨?_, ?_⟩
    · rw [ro_174_8_0]
      simp [callDOW, l0, l1, rg4, hkt, hyr, orowsD_ge, rowAt, rowB, e0, e4, e5, e6, e35, e38, e39, e40, e41, e43, e44]
      refine n3557 _ _ ?_ ?_ ?_ ?_ ?_ ?_ ?_ ?_ ?_ ?_ ?_ ?_ <;> simp [getT, e0, e4, e5, e6, e35, e38, e39, e40, e41, e43, e44]
    · rw [ro_174_8_9]
      simp [callDOW, l0, l1, rg4, hkt, hyr, orowsD_ge, rowAt, rowB, e0, e4, e5, e6, e35, e38, e39, e40, e41, e43, e44]
      refine n4068 _ _ ?_ ?_ ?_ ?_ ?_ ?_ ?_ ?_ ?_ ?_ ?_ ?_ <;> simp [getT, e0, e4, e5, e6, e35, e38, e39, e40, e41, e43, e44]
  have n3327 : ∀ tb g, getT tb 0 = .ptr 0 0 0 → getT tb 4 = .ptr 32 1 0 → getT tb 5 = .ptr 40 x1 0 → getT tb 6 = I64 (k : Int) → getT tb 33 = .ptr 40 x1 1 → getT tb 34 = .arr 136 x3 → getT tb 35 = I64 (k : Int) → getT tb 36 = .ptr 136 x3 k → getT tb 37 = .row 136 x3 k → getT tb 38 = .ptr 0 0 0 → getT tb 39 = .ptr 40 x1 0 → getT tb 40 = .arr 88 x2 → getT tb 43 = .ptr 0 0 0 → getT tb 44 = .list 1 [.int .i64 0, .int .i64 1, .int .i64 (-1), .int .i64 6] → exT C0 0 (inlW C0 [fm_copyTabS] [fw_pick, fw_one] 0 0) ro_174_8 Q ex_174_8_3327 ⟨tb, [⟨0, 0, .cells (RS b (p + 3))⟩, ⟨32, 1, .cells [.nil, .nil]⟩, ⟨40, x1, .cells [.arr 88 x2, .arr 136 x3]⟩, ⟨88, x2, .arr 1 (ints u)⟩, ⟨136, x3, .arr 1 (orowsD t)⟩], g⟩ := by
    intro tb g e0 e4 e5 e6 e33 e34 e35 e36 e37 e38 e39 e40 e43 e44
    unfold ex_174_8_3327
    simp only [exT_alt, exT_one, exT_stop, and_true]
    rw [ro_174_8_8]
    simp [callDOW, l0, l1, rg4, hkt, hyr, orowsD_ge, rowAt, rowB, e0, e4, e5, e6, e33, e34, e35, e36, e37, e38, e39, e40, e43, e44]
    refine n3583 _ _ ?_ ?_ ?_ ?_ ?_ ?_ ?_ ?_ ?_ ?_ ?_ ?_ ?_ ?_ ?_ <;> simp [getT, e0, e4, e5, e6, e33, e34, e35, e36, e37, e38, e39, e40, e43, e44]
  have n3311 : ∀ tb g, getT tb 0 = .ptr 0 0 0 → getT tb 4 = .ptr 32 1 0 → getT tb 5 = .ptr 40 x1 0 → getT tb 6 = I64 (k : Int) → getT tb 33 = .ptr 40 x1 1 → getT tb 34 = .arr 136 x3 → getT tb 35 = I64 (k : Int) → getT tb 36 = .ptr 136 x3 k → getT tb 38 = .ptr 0 0 0 → getT tb 39 = .ptr 40 x1 0 → getT tb 40 = .arr 88 x2 → getT tb 43 = .ptr 0 0 0 → getT tb 44 = .list 1 [.int .i64 0, .int .i64 1, .int .i64 (-1), .int .i64 6] → exT C0 0 (inlW C0 [fm_copyTabS] [fw_pick, fw_one] 0 0) ro_174_8 Q ex_174_8_3311 ⟨tb, [⟨0, 0, .cells (RS b (p + 3))⟩, ⟨32, 1, .cells [.nil, .nil]⟩, ⟨40, x1, .cells [.arr 88 x2, .arr 136 x3]⟩, ⟨88, x2, .arr 1 (ints u)⟩, ⟨136, x3, .arr 1 (orowsD t)⟩], g⟩ := by
    intro tb g e0 e4 e5 e6 e33 e34 e35 e36 e38 e39 e40 e43 e44
    unfold ex_174_8_3311
    simp only [exT_alt, exT_one, exT_stop, and_true]
    refine ⟨?_, ?_⟩
    · rw [ro_174_8_4]
      simp [callDOW, l0, l1, rg4, hkt, hyr, orowsD_ge, rowAt, rowB, e0, e4, e5, e6, e33, e34, e35, e36, e38, e39, e40, e43, e44]
      refine n3327 _ _ ?_ ?_ ?_ ?_ ?_ ?_ ?_ ?_ ?_ ?_ ?_ ?_ ?_ ?_ <;> simp [getT, e0, e4, e5, e6, e33, e34, e35, e36, e38, e39, e40, e43, e44]
    · rw [ro_174_8_8]
      simp [callDOW, l0, l1, rg4, hkt, hyr, orowsD_ge, rowAt, rowB, e0, e4, e5, e6, e33, e34, e35, e36, e38, e39, e40, e43, e44]
      refine n3567 _ _ ?_ ?_ ?_ ?_ ?_ ?_ ?_ ?_ ?_ ?_ ?_ ?_ ?_ ?_ <;> simp [getT, e0, e4, e5, e6, e33, e34, e35, e36, e38, e39, e40, e43, e44]
  have n3303 : ∀ tb g, getT tb 0 = .ptr 0 0 0 → getT tb 4 = .ptr 32 1 0 → getT tb 5 = .ptr 40 x1 0 → getT tb 6 = I64 (k : Int) → getT tb 33 = .ptr 40 x1 1 → getT tb 34 = .arr 136 x3 → getT tb 35 = I64 (k : Int) → getT tb 38 = .ptr 0 0 0 → getT tb 39 = .ptr 40 x1 0 → getT tb 40 = .arr 88 x2 → getT tb 43 = .ptr 0 0 0 → getT tb 44 = .list 1 [.int .i64 0, .int .i64 1, .int .i64 (-1), .int .i64 6] → exT C0 0 (inlW C0 [fm_copyTabS] [fw_pick, fw_one] 0 0) ro_174_8 Q ex_174_8_3303 ⟨tb, [⟨0, 0, .cells (RS b (p + 3))⟩, ⟨32, 1, .cells [.nil, .nil]⟩, ⟨40, x1, .cells [.arr 88 x2, .arr 136 x3]⟩, ⟨88, x2, .arr 1 (ints u)⟩, ⟨136, x3, .arr 1 (orowsD t)⟩], g⟩ := by
    intro tb g e0 e4 e5 e6 e33 e34 e35 e38 e39 e40 e43 e44
    unfold ex_174_8_3303
    simp only [exT_alt, exT_one, exT_stop, and_true]
    refine ⟨?_, ?_⟩
    · rw [ro_174_8_3]
      simp [callDOW, l0, l1, rg4, hkt, hyr, orowsD_ge, rowAt, rowB, e0, e4, e5, e6, e33, e34, e35, e38, e39, e40, e43, e44]
      refine n3311 _ _ ?_ ?_ ?_ ?_ ?_ ?_ ?_ ?_ ?_ ?_ ?_ ?_ ?_ <;> simp [getT, e0, e4, e5, e6, e33, e34, e35, e38, e39, e40, e43, e44]
    · rw [ro_174_8_8]
      simp [callDOW, l0, l1, rg4, hkt, hyr, orowsD_ge, rowAt, rowB, e0, e4, e5, e6, e33, e34, e35, e38, e39, e40, e43, e44]
      refine n3559 _ _ ?_ ?_ ?_ ?_ ?_ ?_ ?_ ?_ ?_ ?_ ?_ ?_ ?_ <;> simp [getT, e0, e4, e5, e6, e33, e34, e35, e38, e39, e40, e43, e44]
  have n3301 : ∀ tb g, getT tb 0 = .ptr 0 0 0 → getT tb 4 = .ptr 32 1 0 → getT tb 5 = .ptr 40 x1 0 → getT tb 6 = I64 (k : Int) → getT tb 33 = .ptr 40 x1 1 → getT tb 35 = I64 (k : Int) → getT tb 38 = .ptr 0 0 0 → getT tb 39 = .ptr 40 x1 0 → getT tb 40 = .arr 88 x2 → getT tb 43 = .ptr 0 0 0 → getT tb 44 = .list 1 [.int .i64 0, .int .i64 1, .int .i64 (-1), .int .i64 6] → exT C0 0 (inlW C0 [fm_copyTabS] [fw_pick, fw_one] 0 0) ro_174_8 Q ex_174_8_3301 ⟨tb, [⟨0, 0, .cells (RS b (p + 3))⟩, ⟨32, 1, .cells [.nil, .nil]⟩, ⟨40, x1, .cells [.arr 88 x2, .arr 136 x3]⟩, ⟨88, x2, .arr 1 (ints u)⟩, ⟨136, x3, .arr 1 (orowsD t)⟩], g⟩ := by
    intro tb g e0 e4 e5 e6 e33 e35 e38 e39 e40 e43 e44
    unfold ex_174_8_3301
    simp only [exT_alt, exT_one, exT_stop, and_true]
    refine ⟨?_, ?_⟩
    · rw [ro_174_8_1]
      simp [callDOW, l0, l1, rg4, hkt, hyr, orowsD_ge, rowAt, rowB, e0, e4, e5, e6, e33, e35, e38, e39, e40, e43, e44]
      refine n3303 _ _ ?_ ?_ ?_ ?_ ?_ ?_ ?_ ?_ ?_ ?_ ?_ ?_ <;> simp [getT, e0, e4, e5, e6, e33, e35, e38, e39, e40, e43, e44]
    · rw [ro_174_8_8]
      simp [callDOW, l0, l1, rg4, hkt, hyr, orowsD_ge, rowAt, rowB, e0, e4, e5, e6, e33, e35, e38, e39, e40, e43, e44]
      refine n3557 _ _ ?_ ?_ ?_ ?_ ?_ ?_ ?_ ?_ ?_ ?_ ?_ ?_ <;> simp [getT, e0, e4, e5, e6, e33, e35, e38, e39, e40, e43, e44]
  have n3300 : ∀ tb g, getT tb 0 = .ptr 0 0 0 → getT tb 4 = .ptr 32 1 0 → getT tb 5 = .ptr 40 x1 0 → getT tb 6 = I64 (k : Int) → getT tb 35 = I64 (k : Int) → getT tb 38 = .ptr 0 0 0 → getT tb 39 = .ptr 40 x1 0 → getT tb 40 = .arr 88 x2 → getT tb 43 = .ptr 0 0 0 → getT tb 44 = .list 1 [.int .i64 0, .int .i64 1, .int .i64 (-1), .int .i64 6] → exT C0 0 (inlW C0 [fm_copyTabS] [fw_pick, fw_one] 0 0) ro_174_8 Q ex_174_8_3300 ⟨tb, [⟨0, 0, .cells (RS b (p + 3))⟩, ⟨32, 1, .cells [.nil, .nil]⟩, ⟨40, x1, .cells [.arr 88 x2, .arr 136 x3]⟩, ⟨88, x2, .arr 1 (ints u)⟩, ⟨136, x3, .arr 1 (orowsD t)⟩], g⟩ := by
    intro tb g e0 e4 e5 e6 e35 e38 e39 e40 e43 e44
    unfold ex_174_8_3300
    simp only [exT_alt, exT_one, exT_stop, and_true]
    refine ⟨?_, ?_⟩
    · rw [ro_174_8_0]
      simp [callDOW, l0, l1, rg4, hkt, hyr, orowsD_ge, rowAt, rowB, e0, e4, e5, e6, e35, e38, e39, e40, e43, e44]
      refine n3301 _ _ ?_ ?_ ?_ ?_ ?_ ?_ ?_ ?_ ?_ ?_ ?_ <;> simp [getT, e0, e4, e5, e6, e35, e38, e39, e40, e43, e44]
    · rw [ro_174_8_8]
      simp [callDOW, l0, l1, rg4, hkt, hyr, orowsD_ge, rowAt, rowB, e0, e4, e5, e6, e35, e38, e39, e40, e43, e44]
      refine n3556 _ _ ?_ ?_ ?_ ?_ ?_ ?_ ?_ ?_ ?_ ?_ ?_ <;> simp [getT, e0, e4, e5, e6, e35, e38, e39, e40, e43, e44]
  have n3199 : ∀ tb g, getT tb 0 = .ptr 0 0 0 → getT tb 4 = .ptr 32 1 0 → getT tb 5 = .ptr 40 x1 0 → getT tb 6 = I64 (k : Int) → getT tb 33 = .ptr 40 x1 1 → getT tb 34 = .arr 136 x3 → getT tb 35 = I64 (k : Int) → getT tb 36 = .ptr 136 x3 k → getT tb 37 = .row 136 x3 k → getT tb 38 = .ptr 0 0 0 → getT tb 39 = .ptr 40 x1 0 → getT tb 43 = .ptr 0 0 0 → getT tb 44 = .list 1 [.int .i64 0, .int .i64 1, .int .i64 (-1), .int .i64 6] → exT C0 0 (inlW C0 [fm_copyTabS] [fw_pick, fw_one] 0 0) ro_174_8 Q ex_174_8_3199 ⟨tb, [⟨0, 0, .cells (RS b (p + 3))⟩, ⟨32, 1, .cells [.nil, .nil]⟩, ⟨40, x1, .cells [.arr 88 x2, .arr 136 x3]⟩, ⟨88, x2, .arr 1 (ints u)⟩, ⟨136, x3, .arr 1 (orowsD t)⟩], g⟩ := by
    intro tb g e0 e4 e5 e6 e33 e34 e35 e36 e37 e38 e39 e43 e44
    unfold ex_174_8_3199
    simp only [exT_alt, exT_one, exT_stop, and_true]
    rw [ro_174_8_7]
    simp [callDOW, l0, l1, rg4, hkt, hyr, orowsD_ge, rowAt, rowB, e0, e4, e5, e6, e33, e34, e35, e36, e37, e38, e39, e43, e44]
    refine n3327 _ _ ?_ ?_ ?_ ?_ ?_ ?_ ?_ ?_ ?_ ?_ ?_ ?_ ?_ ?_ <;> simp [getT, e0, e4, e5, e6, e33, e34, e35, e36, e37, e38, e39, e43, e44]
  have n3183 : ∀ tb g, getT tb 0 = .ptr 0 0 0 → getT tb 4 = .ptr 32 1 0 → getT tb 5 = .ptr 40 x1 0 → getT tb 6 = I64 (k : Int) → getT tb 33 = .ptr 40 x1 1 → getT tb 34 = .arr 136 x3 → getT tb 35 = I64 (k : Int) → getT tb 36 = .ptr 136 x3 k → getT tb 38 = .ptr 0 0 0 → getT tb 39 = .ptr 40 x1 0 → getT tb 43 = .ptr 0 0 0 → getT tb 44 = .list 1 [.int .i64 0, .int .i64 1, .int .i64 (-1), .int .i64 6] → exT C0 0 (inlW C0 [fm_copyTabS] [fw_pick, fw_one] 0 0) ro_174_8 Q ex_174_8_3183 ⟨tb, [⟨0, 0, .cells (RS b (p + 3))⟩, ⟨32, 1, .cells [.nil, .nil]⟩, ⟨40, x1, .cells [.arr 88 x2, .arr 136 x3]⟩, ⟨88, x2, .arr 1 (ints u)⟩, ⟨136, x3, .arr 1 (orowsD t)⟩], g⟩ := by
    intro tb g e0 e4 e5 e6 e33 e34 e35 e36 e38 e39 e43 e44
    unfold ex_174_8_3183
    simp only [exT_alt, exT_one, exT_stop, and_true]
    refine ⟨?_, ?_⟩
    · rw [ro_174_8_4]
      simp [callDOW, l0, l1, rg4, hkt, hyr, orowsD_ge, rowAt, rowB, e0, e4, e5, e6, e33, e34, e35, e36, e38, e39, e43, e44]
      refine n3199 _ _ ?_ ?_ ?_ ?_ ?_ ?_ ?_ ?_ ?_ ?_ ?_ ?_ ?_ <;> simp [getT, e0, e4, e5, e6, e33, e34, e35, e36, e38, e39, e43, e44]
    · rw [ro_174_8_7]
      simp [callDOW, l0, l1, rg4, hkt, hyr, orowsD_ge, rowAt, rowB, e0, e4, e5, e6, e33, e34, e35, e36, e38, e39, e43, e44]
      refine n3311 _ _ ?_ ?_ ?_ ?_ ?_ ?_ ?_ ?_ ?_ ?_ ?_ ?_ ?_ <;> simp [getT, e0, e4, e5, e6, e33, e34, e35, e36, e38, e39, e43, e44]
  have n3175 : ∀ tb g, getT tb 0 = .ptr 0 0 0 → getT tb 4 = .ptr 32 1 0 → getT tb 5 = .ptr 40 x1 0 → getT tb 6 = I64 (k : Int) → getT tb 33 = .ptr 40 x1 1 → getT tb 34 = .arr 136 x3 → getT tb 35 = I64 (k : Int) → getT tb 38 = .ptr 0 0 0 → getT tb 39 = .ptr 40 x1 0 → getT tb 43 = .ptr 0 0 0 → getT tb 44 = .list 1 [.int .i64 0, .int .i64 1, .int .i64 (-1), .int .i64 6] → exT C0 0 (inlW C0 [fm_copyTabS] [fw_pick, fw_one] 0 0) ro_174_8 Q ex_174_8_3175 ⟨tb, [⟨0, 0, .cells (RS b (p + 3))⟩, ⟨32, 1, .cells [.nil, .nil]⟩, ⟨40, x1, .cells [.arr 88 x2, .arr 136 x3]⟩, ⟨88, x2, .arr 1 (ints u)⟩, ⟨136, x3, .arr 1 (orowsD t)⟩], g⟩ := by
    intro tb g e0 e4 e5 e6 e33 e34 e35 e38 e39 e43 e44
    unfold ex_174_8_3175
    simp only [exT_alt, exT_one, exT_stop, and_true]
    refine ⟨?_, ?_⟩
    · rw [ro_174_8_3]
      simp [callDOW, l0, l1, rg4, hkt, hyr, orowsD_ge, rowAt, rowB, e0, e4, e5, e6, e33, e34, e35, e38, e39, e43, e44]
      refine n3183 _ _ ?_ ?_ ?_ ?_ ?_ ?_ ?_ ?_ ?_ ?_ ?_ ?_ <;> simp [getT, e0, e4, e5, e6, e33, e34, e35, e38, e39, e43, e44]
    · rw [ro_174_8_7]
      simp [callDOW, l0, l1, rg4, hkt, hyr, orowsD_ge, rowAt, rowB, e0, e4, e5, e6, e33, e34, e35, e38, e39, e43, e44]
      refine n3303 _ _ ?_ ?_ ?_ ?_ ?_ ?_ ?_ ?_ ?_ ?_ ?_ ?_ <;> simp [getT, e0, e4, e5, e6, e33, e34, e35, e38, e39, e43, e44]
  have n3173 : ∀ tb g, getT tb 0 = .ptr 0 0 0 → getT tb 4 = .ptr 32 1 0 → getT tb 5 = .ptr 40 x1 0 → getT tb 6 = I64 (k : Int) → getT tb 33 = .ptr 40 x1 1 → getT tb 35 = I64 (k : Int) → getT tb 38 = .ptr 0 0 0 → getT tb 39 = .ptr 40 x1 0 → getT tb 43 = .ptr 0 0 0 → getT tb 44 = .list 1 [.int .i64 0, .int .i64 1, .int .i64 (-1), .int .i64 6] → exT C0 0 (inlW C0 [fm_copyTabS] [fw_pick, fw_one] 0 0) ro_174_8 Q ex_174_8_3173 ⟨tb, [⟨0, 0, .cells (RS b (p + 3))⟩, ⟨32, 1, .cells [.nil, .nil]⟩, ⟨40, x1, .cells [.arr 88 x2, .arr 136 x3]⟩, ⟨88, x2, .arr 1 (ints u)⟩, ⟨136, x3, .arr 1 (orowsD t)⟩], g⟩ := by
    intro tb g e0 e4 e5 e6 e33 e35 e38 e39 e43 e44
    unfold ex_174_8_3173
    simp only [exT_alt, exT_one, exT_stop, and_true]
    refine ⟨?_, ?_⟩
    · rw [ro_174_8_1]
      simp [callDOW, l0, l1, rg4, hkt, hyr, orowsD_ge, rowAt, rowB, e0, e4, e5, e6, e33, e35, e38, e39, e43, e44]
      refine n3175 _ _ ?_ ?_ ?_ ?_ ?_ ?_ ?_ ?_ ?_ ?_ ?_ <;> simp [getT, e0, e4, e5, e6, e33, e35, e38, e39, e43, e44]
    · rw [ro_174_8_7]
      simp [callDOW, l0, l1, rg4, hkt, hyr, orowsD_ge, rowAt, rowB, e0, e4, e5, e6, e33, e35, e38, e39, e43, e44]
      refine n3301 _ _ ?_ ?_ ?_ ?_ ?_ ?_ ?_ ?_ ?_ ?_ ?_ <;> simp [getT, e0, e4, e5, e6, e33, e35, e38, e39, e43, e44]
  have n3172 : ∀ tb g, getT tb 0 = .ptr 0 0 0 → getT tb 4 = .ptr 32 1 0 → getT tb 5 = .ptr 40 x1 0 → getT tb 6 = I64 (k : Int) → getT tb 35 = I64 (k : Int) → getT tb 38 = .ptr 0 0 0 → getT tb 39 = .ptr 40 x1 0 → getT tb 43 = .ptr 0 0 0 → getT tb 44 = .list 1 [.int .i64 0, .int .i64 1, .int .i64 (-1), .int .i64 6] → exT C0 0 (inlW C0 [fm_copyTabS] [fw_pick, fw_one] 0 0) ro_174_8 Q ex_174_8_3172 ⟨tb, [⟨0, 0, .cells (RS b (p + 3))⟩, ⟨32, 1, .cells [.nil, .nil]⟩, ⟨40, x1, .cells [.arr 88 x2, .arr 136 x3]⟩, ⟨88, x2, .arr 1 (ints u)⟩, ⟨136, x3, .arr 1 (orowsD t)⟩], g⟩ := by
    intro tb g e0 e4 e5 e6 e35 e38 e39 e43 e44
    unfold ex_174_8_3172
    simp only [exT_alt, exT_one, exT_stop, and_true]
    refine ⟨?_, ?_⟩
    · rw [ro_174_8_0]
      simp [callDOW, l0, l1, rg4, hkt, hyr, orowsD_ge, rowAt, rowB, e0, e4, e5, e6, e35, e38, e39, e43, e44]
      refine n3173 _ _ ?_ ?_ ?_ ?_ ?_ ?_ ?_ ?_ ?_ ?_ <;> simp [getT, e0, e4, e5, e6, e35, e38, e39, e43, e44]
    · rw [ro_174_8_7]
      simp [callDOW, l0, l1, rg4, hkt, hyr, orowsD_ge, rowAt, rowB, e0, e4, e5, e6, e35, e38, e39, e43, e44]
      refine n3300 _ _ ?_ ?_ ?_ ?_ ?_ ?_ ?_ ?_ ?_ ?_ <;> simp [getT, e0, e4, e5, e6, e35, e38, e39, e43, e44]
  have n3135 : ∀ tb g, getT tb 0 = .ptr 0 0 0 → getT tb 4 = .ptr 32 1 0 → getT tb 5 = .ptr 40 x1 0 → getT tb 6 = I64 (k : Int) → getT tb 33 = .ptr 40 x1 1 → getT tb 34 = .arr 136 x3 → getT tb 35 = I64 (k : Int) → getT tb 36 = .ptr 136 x3 k → getT tb 37 = .row 136 x3 k → getT tb 38 = .ptr 0 0 0 → getT tb 43 = .ptr 0 0 0 → getT tb 44 = .list 1 [.int .i64 0, .int .i64 1, .int .i64 (-1), .int .i64 6] → exT C0 0 (inlW C0 [fm_copyTabS] [fw_pick, fw_one] 0 0) ro_174_8 Q ex_174_8_3135 ⟨tb, [⟨0, 0, .cells (RS b (p + 3))⟩, ⟨32, 1, .cells [.nil, .nil]⟩, ⟨40, x1, .cells [.arr 88 x2, .arr 136 x3]⟩, ⟨88, x2, .arr 1 (ints u)⟩, ⟨136, x3, .arr 1 (orowsD t)⟩], g⟩ := by
    intro tb g e0 e4 e5 e6 e33 e34 e35 e36 e37 e38 e43 e44
    unfold ex_174_8_3135
    simp only [exT_alt, exT_one, exT_stop, and_true]
    rw [ro_174_8_6]
    simp [callDOW, l0, l1, rg4, hkt, hyr, orowsD_ge, rowAt, rowB, e0, e4, e5, e6, e33, e34, e35, e36, e37, e38, e43, e44]
    refine n3199 _ _ ?_ ?_ ?_ ?_ ?_ ?_ ?_ ?_ ?_ ?_ ?_ ?_ ?_ <;> simp [getT, e0, e4, e5, e6, e33, e34, e35, e36, e37, e38, e43, e44]
  have n3119 : ∀ tb g, getT tb 0 = .ptr 0 0 0 → getT tb 4 = .ptr 32 1 0 → getT tb 5 = .ptr 40 x1 0 → getT tb 6 = I64 (k : Int) → getT tb 33 = .ptr 40 x1 1 → getT tb 34 = .arr 136 x3 → getT tb 35 = I64 (k : Int) → getT tb 36 = .ptr 136 x3 k → getT tb 38 = .ptr 0 0 0 → getT tb 43 = .ptr 0 0 0 → getT tb 44 = .list 1 [.int .i64 0, .int .i64 1, .int .i64 (-1), .int .i64 6] → exT C0 0 (inlW C0 [fm_copyTabS] [fw_pick, fw_one] 0 0) ro_174_8 Q ex_174_8_3119 ⟨tb, [⟨0, 0, .cells (RS b (p + 3))⟩, ⟨32, 1, .cells [.nil, .nil]⟩, ⟨40, x1, .cells [.arr 88 x2, .arr 136 x3]⟩, ⟨88, x2, .arr 1 (ints u)⟩, ⟨136, x3, .arr 1 (orowsD t)⟩], g⟩ := by
    intro tb g e0 e4 e5 e6 e33 e34 e35 e36 e38 e43 e44
    unfold ex_174_8_3119
    simp only [exT_alt, exT_one, exT_stop, and_true]
    refine ⟨?_, ?_⟩
    · rw [ro_174_8_4]
      simp [callDOW, l0, l1, rg4, hkt, hyr, orowsD_ge, rowAt, rowB, e0, e4, e5, e6, e33, e34, e35, e36, e38, e43, e44]
      refine n3135 _ _ ?_ ?_ ?_ ?_ ?_ ?_ ?_ ?_ ?_ ?_ ?_ ?_ <;> simp [getT, e0, e4, e5, e6, e33, e34, e35, e36, e38, e43, e44]
    · rw [ro_174_8_6]
      simp [callDOW, l0, l1, rg4, hkt, hyr, orowsD_ge, rowAt, rowB, e0, e4, e5, e6, e33, e34, e35, e36, e38, e43, e44]
      refine n3183 _ _ ?_ ?_ ?_ ?_ ?_ ?_ ?_ ?_ ?_ ?_ ?_ ?_ <;> simp [getT, e0, e4, e5, e6, e33, e34, e35, e36, e38, e43, e44]
  have n3111 : ∀ tb g, getT tb 0 = .ptr 0 0 0 → getT tb 4 = .ptr 32 1 0 → getT tb 5 = .ptr 40 x1 0 → getT tb 6 = I64 (k : Int) → getT tb 33 = .ptr 40 x1 1 → getT tb 34 = .arr 136 x3 → getT tb 35 = I64 (k : Int) → getT tb 38 = .ptr 0 0 0 → getT tb 43 = .ptr 0 0 0 → getT tb 44 = .list 1 [.int .i64 0, .int .i64 1, .int .i64 (-1), .int .i64 6] → exT C0 0 (inlW C0 [fm_copyTabS] [fw_pick, fw_one] 0 0) ro_174_8 Q ex_174_8_3111 ⟨tb, [⟨0, 0, .cells (RS b (p + 3))⟩, ⟨32, 1, .cells [.nil, .nil]⟩, ⟨40, x1, .cells [.arr 88 x2, .arr 136 x3]⟩, ⟨88, x2, .arr 1 (ints u)⟩, ⟨136, x3, .arr 1 (orowsD t)⟩], g⟩ := by
    intro tb g e0 e4 e5 e6 e33 e34 e35 e38 e43 e44
    unfold ex_174_8_3111
    simp only [exT_alt, exT_one, exT_stop, and_true]
    refine ⟨?_, ?_⟩
    · rw [ro_174_8_3]
      simp [callDOW, l0, l1, rg4, hkt, hyr, orowsD_ge, rowAt, rowB, e0, e4, e5, e6, e33, e34, e35, e38, e43, e44]
      refine n3119 _ _ ?_ ?_ ?_ ?_ ?_ ?_ ?_ ?_ ?_ ?_ ?_ <;> simp [getT, e0, e4, e5, e6, e33, e34, e35, e38, e43, e44]
    · rw [ro_174_8_6]
      simp [callDOW, l0, l1, rg4, hkt, hyr, orowsD_ge, rowAt, rowB, e0, e4, e5, e6, e33, e34, e35, e38, e43, e44]
      refine n3175 _ _ ?_ ?_ ?_ ?_ ?_ ?_ ?_ ?_ ?_ ?_ ?_ <;> simp [getT, e0, e4, e5, e6, e33, e34, e35, e38, e43, e44]
  have n3109 : ∀ tb g, getT tb 0 = .ptr 0 0 0 → getT tb 4 = .ptr 32 1 0 → getT tb 5 = .ptr 40 x1 0 → getT tb 6 = I64 (k : Int) → getT tb 33 = .ptr 40 x1 1 → getT tb 35 = I64 (k : Int) → getT tb 38 = .ptr 0 0 0 → getT tb 43 = .ptr 0 0 0 → getT tb 44 = .list 1 [.int .i64 0, .int .i64 1, .int .i64 (-1), .int .i64 6] → exT C0 0 (inlW C0 [fm_copyTabS] [fw_pick, fw_one] 0 0) ro_174_8 Q ex_174_8_3109 ⟨tb, [⟨0, 0, .cells (RS b (p + 3))⟩, ⟨32, 1, .cells [.nil, .nil]⟩, ⟨40, x1, .cells [.arr 88 x2, .arr 136 x3]⟩, ⟨88, x2, .arr 1 (ints u)⟩, ⟨136, x3, .arr 1 (orowsD t)⟩], g⟩ := by
    intro tb g e0 e4 e5 e6 e33 e35 e38 e43 e44
    unfold ex_174_8_3109
    simp only [exT_alt, exT_one, exT_stop, and_true]
    refine ⟨?_, ?_⟩
    · rw [ro_174_8_1]
      simp [callDOW, l0, l1, rg4, hkt, hyr, orowsD_ge, rowAt, rowB, e0, e4, e5, e6, e33, e35, e38, e43, e44]
      refine n3111 _ _ ?_ ?_ ?_ ?_ ?_ ?_ ?_ ?_ ?_ ?_ <;> simp [getT, e0, e4, e5, e6, e33, e35, e38, e43, e44]
    · rw [ro_174_8_6]
      simp [callDOW, l0, l1, rg4, hkt, hyr, orowsD_ge, rowAt, rowB, e0, e4, e5, e6, e33, e35, e38, e43, e44]
      refine n3173 _ _ ?_ ?_ ?_ ?_ ?_ ?_ ?_ ?_ ?_ ?_ <;> simp [getT, e0, e4, e5, e6, e33, e35, e38, e43, e44]
  have n3108 : ∀ tb g, getT tb 0 = .ptr 0 0 0 → getT tb 4 = .ptr 32 1 0 → getT tb 5 = .ptr 40 x1 0 → getT tb 6 = I64 (k : Int) → getT tb 35 = I64 (k : Int) → getT tb 38 = .ptr 0 0 0 → getT tb 43 = .ptr 0 0 0 → getT tb 44 = .list 1 [.int .i64 0, .int .i64 1, .int .i64 (-1), .int .i64 6] → exT C0 0 (inlW C0 [fm_copyTabS] [fw_pick, fw_one] 0 0) ro_174_8 Q ex_174_8_3108 ⟨tb, [⟨0, 0, .cells (RS b (p + 3))⟩, ⟨32, 1, .cells [.nil, .nil]⟩, ⟨40, x1, .cells [.arr 88 x2, .arr 136 x3]⟩, ⟨88, x2, .arr 1 (ints u)⟩, ⟨136, x3, .arr 1 (orowsD t)⟩], g⟩ := by
    intro tb g e0 e4 e5 e6 e35 e38 e43 e44
    unfold ex_174_8_3108
    simp only [exT_alt, exT_one, exT_stop, and_true]
    refine ⟨?_, ?_⟩
    · rw [ro_174_8_0]
      simp [callDOW, l0, l1, rg4, hkt, hyr, orowsD_ge, rowAt, rowB, e0, e4, e5, e6, e35, e38, e43, e44]
      refine n3109 _ _ ?_ ?_ ?_ ?_ ?_ ?_ ?_ ?_ ?_ <;> simp [getT, e0, e4, e5, e6, e35, e38, e43, e44]
    · rw [ro_174_8_6]
      simp [callDOW, l0, l1, rg4, hkt, hyr, orowsD_ge, rowAt, rowB, e0, e4, e5, e6, e35, e38, e43, e44]
      refine n3172 _ _ ?_ ?_ ?_ ?_ ?_ ?_ ?_ ?_ ?_ <;> simp [getT, e0, e4, e5, e6, e35, e38, e43, e44]
  have n1060 : ∀ tb g, getT tb 0 = .ptr 0 0 0 → getT tb 4 = .ptr 32 1 0 → getT tb 5 = .ptr 40 x1 0 → getT tb 6 = I64 (k : Int) → getT tb 35 = I64 (k : Int) → getT tb 38 = .ptr 0 0 0 → getT tb 43 = .ptr 0 0 0 → exT C0 0 (inlW C0 [fm_copyTabS] [fw_pick, fw_one] 0 0) ro_174_8 Q ex_174_8_1060 ⟨tb, [⟨0, 0, .cells (RS b (p + 3))⟩, ⟨32, 1, .cells [.nil, .nil]⟩, ⟨40, x1, .cells [.arr 88 x2, .arr 136 x3]⟩, ⟨88, x2, .arr 1 (ints u)⟩, ⟨136, x3, .arr 1 (orowsD t)⟩], g⟩ := by
    intro tb g e0 e4 e5 e6 e35 e38 e43
    unfold ex_174_8_1060
    simp only [exT_alt, exT_one, exT_stop, and_true]
    rw [ro_174_8_11]
    simp [callDOW, l0, l1, rg4, hkt, hyr, orowsD_ge, rowAt, rowB, e0, e4, e5, e6, e35, e38, e43]
    refine n3108 _ _ ?_ ?_ ?_ ?_ ?_ ?_ ?_ ?_ <;> simp [getT, e0, e4, e5, e6, e35, e38, e43]
  have n36 : ∀ tb g, getT tb 0 = .ptr 0 0 0 → getT tb 4 = .ptr 32 1 0 → getT tb 5 = .ptr 40 x1 0 → getT tb 6 = I64 (k : Int) → getT tb 35 = I64 (k : Int) → getT tb 38 = .ptr 0 0 0 → exT C0 0 (inlW C0 [fm_copyTabS] [fw_pick, fw_one] 0 0) ro_174_8 Q ex_174_8_36 ⟨tb, [⟨0, 0, .cells (RS b (p + 3))⟩, ⟨32, 1, .cells [.nil, .nil]⟩, ⟨40, x1, .cells [.arr 88 x2, .arr 136 x3]⟩, ⟨88, x2, .arr 1 (ints u)⟩, ⟨136, x3, .arr 1 (orowsD t)⟩], g⟩ := by
    intro tb g e0 e4 e5 e6 e35 e38
    unfold ex_174_8_36
    simp only [exT_alt, exT_one, exT_stop, and_true]
    rw [ro_174_8_10]
    simp [callDOW, l0, l1, rg4, hkt, hyr, orowsD_ge, rowAt, rowB, e0, e4, e5, e6, e35, e38]
    refine n1060 _ _ ?_ ?_ ?_ ?_ ?_ ?_ ?_ <;> simp [getT, e0, e4, e5, e6, e35, e38]
  have n4 : ∀ tb g, getT tb 0 = .ptr 0 0 0 → getT tb 4 = .ptr 32 1 0 → getT tb 5 = .ptr 40 x1 0 → getT tb 6 = I64 (k : Int) → getT tb 35 = I64 (k : Int) → exT C0 0 (inlW C0 [fm_copyTabS] [fw_pick, fw_one] 0 0) ro_174_8 Q ex_174_8_4 ⟨tb, [⟨0, 0, .cells (RS b (p + 3))⟩, ⟨32, 1, .cells [.nil, .nil]⟩, ⟨40, x1, .cells [.arr 88 x2, .arr 136 x3]⟩, ⟨88, x2, .arr 1 (ints u)⟩, ⟨136, x3, .arr 1 (orowsD t)⟩], g⟩ := by
    intro tb g e0 e4 e5 e6 e35
    unfold ex_174_8_4
    simp only [exT_alt, exT_one, exT_stop, and_true]
    rw [ro_174_8_5]
    simp [callDOW, l0, l1, rg4, hkt, hyr, orowsD_ge, rowAt, rowB, e0, e4, e5, e6, e35]
    refine n36 _ _ ?_ ?_ ?_ ?_ ?_ ?_ <;> simp [getT, e0, e4, e5, e6, e35]
  have n0 : ∀ tb g, getT tb 0 = .ptr 0 0 0 → getT tb 4 = .ptr 32 1 0 → getT tb 5 = .ptr 40 x1 0 → getT tb 6 = I64 (k : Int) → exT C0 0 (inlW C0 [fm_copyTabS] [fw_pick, fw_one] 0 0) ro_174_8 Q ex_174_8_0 ⟨tb, [⟨0, 0, .cells (RS b (p + 3))⟩, ⟨32, 1, .cells [.nil, .nil]⟩, ⟨40, x1, .cells [.arr 88 x2, .arr 136 x3]⟩, ⟨88, x2, .arr 1 (ints u)⟩, ⟨136, x3, .arr 1 (orowsD t)⟩], g⟩ := by
    intro tb g e0 e4 e5 e6
    unfold ex_174_8_0
    simp only [exT_alt, exT_one, exT_stop, and_true]
    rw [ro_174_8_2]
    simp [callDOW, l0, l1, rg4, hkt, hyr, orowsD_ge, rowAt, rowB, e0, e4, e5, e6]
    refine n4 _ _ ?_ ?_ ?_ ?_ ?_ <;> simp [getT, e0, e4, e5, e6]
  exact n0
set_option maxHeartbeats 2000000 in
theorem bent_dag10 {Q : St → Prop} {b : List Int} {p : Nat} {u : List Int} {t : List (List Int)} {k x1 x2 x3 : Nat} {z : Int} (hku : k < u.length) (l1 : fw_one.look [.ptr 0 0 0, .list 1 [.int .i64 0, .int .i64 3, .int .i64 (-1)]] (RS b (p + 3)) = some (I64 z, RS b (p + 4)))
    (hQ : ∀ tb g, getT tb 4 = .ptr 32 1 0 → getT tb 5 = .ptr 40 x1 0 → Q ⟨tb, [⟨0, 0, .cells (RS b (p + 4))⟩, ⟨32, 1, .cells [.nil, .nil]⟩, ⟨40, x1, .cells [.arr 88 x2, .arr 136 x3]⟩, ⟨88, x2, .arr 1 (ints (u.set k z))⟩, ⟨136, x3, .arr 1 (orowsD t)⟩], g⟩) : ∀ tb g, getT tb 0 = .ptr 0 0 0 → getT tb 4 = .ptr 32 1 0 → getT tb 5 = .ptr 40 x1 0 → getT tb 6 = I64 (k : Int) → exT C0 0 (inlW C0 [fm_copyTabS] [fw_pick, fw_one] 0 0) ro_174_10 Q ex_174_10_0 ⟨tb, [⟨0, 0, .cells (RS b (p + 3))⟩, ⟨32, 1, .cells [.nil, .nil]⟩, ⟨40, x1, .cells [.arr 88 x2, .arr 136 x3]⟩, ⟨88, x2, .arr 1 (ints u)⟩, ⟨136, x3, .arr 1 (orowsD t)⟩], g⟩ := by
  have n255 : ∀ tb g, getT tb 0 = .ptr 0 0 0 → getT tb 4 = .ptr 32 1 0 → getT tb 5 = .ptr 40 x1 0 → getT tb 6 = I64 (k : Int) → getT tb 49 = .ptr 40 x1 0 → getT tb 50 = .arr 88 x2 → getT tb 51 = I64 (k : Int) → getT tb 52 = .ptr 0 0 0 → getT tb 53 = .list 1 [.int .i64 0, .int .i64 3, .int .i64 (-1)] → getT tb 54 = I64 z → getT tb 55 = .ptr 88 x2 k → exT C0 0 (inlW C0 [fm_copyTabS] [fw_pick, fw_one] 0 0) ro_174_10 Q ex_174_10_255 ⟨tb, [⟨0, 0, .cells (RS b (p + 4))⟩, ⟨32, 1, .cells [.nil, .nil]⟩, ⟨40, x1, .cells [.arr 88 x2, .arr 136 x3]⟩, ⟨88, x2, .arr 1 (ints (u.set k z))⟩, ⟨136, x3, .arr 1 (orowsD t)⟩], g⟩ := by
    intro tb g e0 e4 e5 e6 e49 e50 e51 e52 e53 e54 e55
    unfold ex_174_10_255
    exact hQ tb g e4 e5
  have n127 : ∀ tb g, getT tb 0 = .ptr 0 0 0 → getT tb 4 = .ptr 32 1 0 → getT tb 5 = .ptr 40 x1 0 → getT tb 6 = I64 (k : Int) → getT tb 49 = .ptr 40 x1 0 → getT tb 50 = .arr 88 x2 → getT tb 51 = I64 (k : Int) → getT tb 52 = .ptr 0 0 0 → getT tb 53 = .list 1 [.int .i64 0, .int .i64 3, .int .i64 (-1)] → getT tb 54 = I64 z → getT tb 55 = .ptr 88 x2 k → exT C0 0 (inlW C0 [fm_copyTabS] [fw_pick, fw_one] 0 0) ro_174_10 Q ex_174_10_127 ⟨tb, [⟨0, 0, .cells (RS b (p + 4))⟩, ⟨32, 1, .cells [.nil, .nil]⟩, ⟨40, x1, .cells [.arr 88 x2, .arr 136 x3]⟩, ⟨88, x2, .arr 1 (ints u)⟩, ⟨136, x3, .arr 1 (orowsD t)⟩], g⟩ := by
    intro tb g e0 e4 e5 e6 e49 e50 e51 e52 e53 e54 e55
    unfold ex_174_10_127
    simp only [exT_alt, exT_one, exT_stop, and_true]
    rw [ro_174_10_7]
    simp [callDOW, l1, rg3, hku, e0, e4, e5, e6, e49, e50, e51, e52, e53, e54, e55]
    refine n255 _ _ ?_ ?_ ?_ ?_ ?_ ?_ ?_ ?_ ?_ ?_ ?_ <;> simp [getT, e0, e4, e5, e6, e49, e50, e51, e52, e53, e54, e55]
  have n63 : ∀ tb g, getT tb 0 = .ptr 0 0 0 → getT tb 4 = .ptr 32 1 0 → getT tb 5 = .ptr 40 x1 0 → getT tb 6 = I64 (k : Int) → getT tb 49 = .ptr 40 x1 0 → getT tb 50 = .arr 88 x2 → getT tb 51 = I64 (k : Int) → getT tb 52 = .ptr 0 0 0 → getT tb 53 = .list 1 [.int .i64 0, .int .i64 3, .int .i64 (-1)] → getT tb 54 = I64 z → exT C0 0 (inlW C0 [fm_copyTabS] [fw_pick, fw_one] 0 0) ro_174_10 Q ex_174_10_63 ⟨tb, [⟨0, 0, .cells (RS b (p + 4))⟩, ⟨32, 1, .cells [.nil, .nil]⟩, ⟨40, x1, .cells [.arr 88 x2, .arr 136 x3]⟩, ⟨88, x2, .arr 1 (ints u)⟩, ⟨136, x3, .arr 1 (orowsD t)⟩], g⟩ := by
    intro tb g e0 e4 e5 e6 e49 e50 e51 e52 e53 e54
    unfold ex_174_10_63
    simp only [exT_alt, exT_one, exT_stop, and_true]
    rw [ro_174_10_6]
    simp [callDOW, l1, rg3, hku, e0, e4, e5, e6, e49, e50, e51, e52, e53, e54]
    refine n127 _ _ ?_ ?_ ?_ ?_ ?_ ?_ ?_ ?_ ?_ ?_ ?_ <;> simp [getT, e0, e4, e5, e6, e49, e50, e51, e52, e53, e54]
  have n61 : ∀ tb g, getT tb 0 = .ptr 0 0 0 → getT tb 4 = .ptr 32 1 0 → getT tb 5 = .ptr 40 x1 0 → getT tb 6 = I64 (k : Int) → getT tb 49 = .ptr 40 x1 0 → getT tb 51 = I64 (k : Int) → getT tb 52 = .ptr 0 0 0 → getT tb 53 = .list 1 [.int .i64 0, .int .i64 3, .int .i64 (-1)] → getT tb 54 = I64 z → exT C0 0 (inlW C0 [fm_copyTabS] [fw_pick, fw_one] 0 0) ro_174_10 Q ex_174_10_61 ⟨tb, [⟨0, 0, .cells (RS b (p + 4))⟩, ⟨32, 1, .cells [.nil, .nil]⟩, ⟨40, x1, .cells [.arr 88 x2, .arr 136 x3]⟩, ⟨88, x2, .arr 1 (ints u)⟩, ⟨136, x3, .arr 1 (orowsD t)⟩], g⟩ := by
    intro tb g e0 e4 e5 e6 e49 e51 e52 e53 e54
    unfold ex_174_10_61
    simp only [exT_alt, exT_one, exT_stop, and_true]
    rw [ro_174_10_1]
    simp [callDOW, l1, rg3, hku, e0, e4, e5, e6, e49, e51, e52, e53, e54]
    refine n63 _ _ ?_ ?_ ?_ ?_ ?_ ?_ ?_ ?_ ?_ ?_ <;> simp [getT, e0, e4, e5, e6, e49, e51, e52, e53, e54]
  have n60 : ∀ tb g, getT tb 0 = .ptr 0 0 0 → getT tb 4 = .ptr 32 1 0 → getT tb 5 = .ptr 40 x1 0 → getT tb 6 = I64 (k : Int) → getT tb 51 = I64 (k : Int) → getT tb 52 = .ptr 0 0 0 → getT tb 53 = .list 1 [.int .i64 0, .int .i64 3, .int .i64 (-1)] → getT tb 54 = I64 z → exT C0 0 (inlW C0 [fm_copyTabS] [fw_pick, fw_one] 0 0) ro_174_10 Q ex_174_10_60 ⟨tb, [⟨0, 0, .cells (RS b (p + 4))⟩, ⟨32, 1, .cells [.nil, .nil]⟩, ⟨40, x1, .cells [.arr 88 x2, .arr 136 x3]⟩, ⟨88, x2, .arr 1 (ints u)⟩, ⟨136, x3, .arr 1 (orowsD t)⟩], g⟩ := by
    intro tb g e0 e4 e5 e6 e51 e52 e53 e54
    unfold ex_174_10_60
    simp only [exT_alt, exT_one, exT_stop, and_true]
    rw [ro_174_10_0]
    simp [callDOW, l1, rg3, hku, e0, e4, e5, e6, e51, e52, e53, e54]
    refine n61 _ _ ?_ ?_ ?_ ?_ ?_ ?_ ?_ ?_ ?_ <;> simp [getT, e0, e4, e5, e6, e51, e52, e53, e54]
  have n31 : ∀ tb g, getT tb 0 = .ptr 0 0 0 → getT tb 4 = .ptr 32 1 0 → getT tb 5 = .ptr 40 x1 0 → getT tb 6 = I64 (k : Int) → getT tb 49 = .ptr 40 x1 0 → getT tb 50 = .arr 88 x2 → getT tb 51 = I64 (k : Int) → getT tb 52 = .ptr 0 0 0 → getT tb 53 = .list 1 [.int .i64 0, .int .i64 3, .int .i64 (-1)] → exT C0 0 (inlW C0 [fm_copyTabS] [fw_pick, fw_one] 0 0) ro_174_10 Q ex_174_10_31 ⟨tb, [⟨0, 0, .cells (RS b (p + 3))⟩, ⟨32, 1, .cells [.nil, .nil]⟩, ⟨40, x1, .cells [.arr 88 x2, .arr 136 x3]⟩, ⟨88, x2, .arr 1 (ints u)⟩, ⟨136, x3, .arr 1 (orowsD t)⟩], g⟩ := by
    intro tb g e0 e4 e5 e6 e49 e50 e51 e52 e53
    unfold ex_174_10_31
    simp only [exT_alt, exT_one, exT_stop, and_true]
    rw [ro_174_10_5]
    simp [callDOW, l1, rg3, hku, e0, e4, e5, e6, e49, e50, e51, e52, e53]
    refine n63 _ _ ?_ ?_ ?_ ?_ ?_ ?_ ?_ ?_ ?_ ?_ <;> simp [getT, e0, e4, e5, e6, e49, e50, e51, e52, e53]
  have n29 : ∀ tb g, getT tb 0 = .ptr 0 0 0 → getT tb 4 = .ptr 32 1 0 → getT tb 5 = .ptr 40 x1 0 → getT tb 6 = I64 (k : Int) → getT tb 49 = .ptr 40 x1 0 → getT tb 51 = I64 (k : Int) → getT tb 52 = .ptr 0 0 0 → getT tb 53 = .list 1 [.int .i64 0, .int .i64 3, .int .i64 (-1)] → exT C0 0 (inlW C0 [fm_copyTabS] [fw_pick, fw_one] 0 0) ro_174_10 Q ex_174_10_29 ⟨tb, [⟨0, 0, .cells (RS b (p + 3))⟩, ⟨32, 1, .cells [.nil, .nil]⟩, ⟨40, x1, .cells [.arr 88 x2, .arr 136 x3]⟩, ⟨88, x2, .arr 1 (ints u)⟩, ⟨136, x3, .arr 1 (orowsD t)⟩], g⟩ := by
    intro tb g e0 e4 e5 e6 e49 e51 e52 e53
    unfold ex_174_10_29
    simp only [exT_alt, exT_one, exT_stop, and_true]
    refine ⟨?_, ?_⟩
    · rw [ro_174_10_1]
      simp [callDOW, l1, rg3, hku, e0, e4, e5, e6, e49, e51, e52, e53]
      refine n31 _ _ ?_ ?_ ?_ ?_ ?_ ?_ ?_ ?_ ?_ <;> simp [getT, e0, e4, e5, e6, e49, e51, e52, e53]
    · rw [ro_174_10_5]
      simp [callDOW, l1, rg3, hku, e0, e4, e5, e6, e49, e51, e52, e53]
      refine n61 _ _ ?_ ?_ ?_ ?_ ?_ ?_ ?_ ?_ ?_ <;> simp [getT, e0, e4, e5, e6, e49, e51, e52, e53]
  have n28 : ∀ tb g, getT tb 0 = .ptr 0 0 0 → getT tb 4 = .ptr 32 1 0 → getT tb 5 = .ptr 40 x1 0 → getT tb 6 = I64 (k : Int) → getT tb 51 = I64 (k : Int) → getT tb 52 = .ptr 0 0 0 → getT tb 53 = .list 1 [.int .i64 0, .int .i64 3, .int .i64 (-1)] → exT C0 0 (inlW C0 [fm_copyTabS] [fw_pick, fw_one] 0 0) ro_174_10 Q ex_174_10_28 ⟨tb, [⟨0, 0, .cells (RS b (p + 3))⟩, ⟨32, 1, .cells [.nil, .nil]⟩, ⟨40, x1, .cells [.arr 88 x2, .arr 136 x3]⟩, ⟨88, x2, .arr 1 (ints u)⟩, ⟨136, x3, .arr 1 (orowsD t)⟩], g⟩ := by
    intro tb g e0 e4 e5 e6 e51 e52 e53
    unfold ex_174_10_28
    simp only [exT_alt, exT_one, exT_stop, and_true]
    refine ⟨?_, ?_⟩
    · rw [ro_174_10_0]
      simp [callDOW, l1, rg3, hku, e0, e4, e5, e6, e51, e52, e53]
      refine n29 _ _ ?_ ?_ ?_ ?_ ?_ ?_ ?_ ?_ <;> simp [getT, e0, e4, e5, e6, e51, e52, e53]
    · rw [ro_174_10_5]
      simp [callDOW, l1, rg3, hku, e0, e4, e5, e6, e51, e52, e53]
      refine n60 _ _ ?_ ?_ ?_ ?_ ?_ ?_ ?_ ?_ <;> simp [getT, e0, e4, e5, e6, e51, e52, e53]
  have n12 : ∀ tb g, getT tb 0 = .ptr 0 0 0 → getT tb 4 = .ptr 32 1 0 → getT tb 5 = .ptr 40 x1 0 → getT tb 6 = I64 (k : Int) → getT tb 51 = I64 (k : Int) → getT tb 52 = .ptr 0 0 0 → exT C0 0 (inlW C0 [fm_copyTabS] [fw_pick, fw_one] 0 0) ro_174_10 Q ex_174_10_12 ⟨tb, [⟨0, 0, .cells (RS b (p + 3))⟩, ⟨32, 1, .cells [.nil, .nil]⟩, ⟨40, x1, .cells [.arr 88 x2, .arr 136 x3]⟩, ⟨88, x2, .arr 1 (ints u)⟩, ⟨136, x3, .arr 1 (orowsD t)⟩], g⟩ := by
    intro tb g e0 e4 e5 e6 e51 e52
    unfold ex_174_10_12
    simp only [exT_alt, exT_one, exT_stop, and_true]
    rw [ro_174_10_4]
    simp [callDOW, l1, rg3, hku, e0, e4, e5, e6, e51, e52]
    refine n28 _ _ ?_ ?_ ?_ ?_ ?_ ?_ ?_ <;> simp [getT, e0, e4, e5, e6, e51, e52]
  have n4 : ∀ tb g, getT tb 0 = .ptr 0 0 0 → getT tb 4 = .ptr 32 1 0 → getT tb 5 = .ptr 40 x1 0 → getT tb 6 = I64 (k : Int) → getT tb 51 = I64 (k : Int) → exT C0 0 (inlW C0 [fm_copyTabS] [fw_pick, fw_one] 0 0) ro_174_10 Q ex_174_10_4 ⟨tb, [⟨0, 0, .cells (RS b (p + 3))⟩, ⟨32, 1, .cells [.nil, .nil]⟩, ⟨40, x1, .cells [.arr 88 x2, .arr 136 x3]⟩, ⟨88, x2, .arr 1 (ints u)⟩, ⟨136, x3, .arr 1 (orowsD t)⟩], g⟩ := by
    intro tb g e0 e4 e5 e6 e51
    unfold ex_174_10_4
    simp only [exT_alt, exT_one, exT_stop, and_true]
    rw [ro_174_10_3]
    simp [callDOW, l1, rg3, hku, e0, e4, e5, e6, e51]
    refine n12 _ _ ?_ ?_ ?_ ?_ ?_ ?_ <;> simp [getT, e0, e4, e5, e6, e51]
  have n0 : ∀ tb g, getT tb 0 = .ptr 0 0 0 → getT tb 4 = .ptr 32 1 0 → getT tb 5 = .ptr 40 x1 0 → getT tb 6 = I64 (k : Int) → exT C0 0 (inlW C0 [fm_copyTabS] [fw_pick, fw_one] 0 0) ro_174_10 Q ex_174_10_0 ⟨tb, [⟨0, 0, .cells (RS b (p + 3))⟩, ⟨32, 1, .cells [.nil, .nil]⟩, ⟨40, x1, .cells [.arr 88 x2, .arr 136 x3]⟩, ⟨88, x2, .arr 1 (ints u)⟩, ⟨136, x3, .arr 1 (orowsD t)⟩], g⟩ := by
    intro tb g e0 e4 e5 e6
    unfold ex_174_10_0
    simp only [exT_alt, exT_one, exT_stop, and_true]
    rw [ro_174_10_2]
    simp [callDOW, l1, rg3, hku, e0, e4, e5, e6]
    refine n4 _ _ ?_ ?_ ?_ ?_ ?_ <;> simp [getT, e0, e4, e5, e6]
  exact n0
set_option maxHeartbeats 2000000 in
theorem bent_dag14 {Q : St → Prop} {b : List Int} {p : Nat} {u : List Int} {t : List (List Int)} {k x1 x2 x3 : Nat} (hkt : k < t.length) (hyr : 1 ≤ (gr t k).length) (hyn : ¬ gr t k = []) (hyi : (1 : Int) ≤ (gr t k).length)
    (hQ : ∀ tb g, getT tb 4 = .ptr 32 1 0 → getT tb 5 = .ptr 40 x1 0 → Q ⟨tb, [⟨0, 0, .cells (RS b (p + 3))⟩, ⟨32, 1, .cells [.nil, .nil]⟩, ⟨40, x1, .cells [.arr 88 x2, .arr 136 x3]⟩, ⟨88, x2, .arr 1 (ints u)⟩, ⟨136, x3, .arr 1 ((orowsD t).set k (IL ((gr t k).tail)))⟩], g⟩) : ∀ tb g, getT tb 4 = .ptr 32 1 0 → getT tb 5 = .ptr 40 x1 0 → getT tb 6 = I64 (k : Int) → exT C0 0 (inlW C0 [fm_copyTabS] [fw_pick, fw_one] 0 0) ro_174_14 Q ex_174_14_0 ⟨tb, [⟨0, 0, .cells (RS b (p + 3))⟩, ⟨32, 1, .cells [.nil, .nil]⟩, ⟨40, x1, .cells [.arr 88 x2, .arr 136 x3]⟩, ⟨88, x2, .arr 1 (ints u)⟩, ⟨136, x3, .arr 1 (orowsD t)⟩], g⟩ := by
  have n2047 : ∀ tb g, getT tb 4 = .ptr 32 1 0 → getT tb 5 = .ptr 40 x1 0 → getT tb 6 = I64 (k : Int) → getT tb 64 = .ptr 40 x1 1 → getT tb 65 = .arr 136 x3 → getT tb 66 = I64 (k : Int) → getT tb 67 = .ptr 40 x1 1 → getT tb 68 = .arr 136 x3 → getT tb 69 = I64 (k : Int) → getT tb 70 = .ptr 136 x3 k → getT tb 71 = IL (gr t k) → getT tb 72 = IL ((gr t k).tail) → getT tb 73 = .ptr 136 x3 k → exT C0 0 (inlW C0 [fm_copyTabS] [fw_pick, fw_one] 0 0) ro_174_14 Q ex_174_14_2047 ⟨tb, [⟨0, 0, .cells (RS b (p + 3))⟩, ⟨32, 1, .cells [.nil, .nil]⟩, ⟨40, x1, .cells [.arr 88 x2, .arr 136 x3]⟩, ⟨88, x2, .arr 1 (ints u)⟩, ⟨136, x3, .arr 1 ((orowsD t).set k (IL ((gr t k).tail)))⟩], g⟩ := by
    intro tb g e4 e5 e6 e64 e65 e66 e67 e68 e69 e70 e71 e72 e73
    unfold ex_174_14_2047
    exact hQ tb g e4 e5
  have n1023 : ∀ tb g, getT tb 4 = .ptr 32 1 0 → getT tb 5 = .ptr 40 x1 0 → getT tb 6 = I64 (k : Int) → getT tb 64 = .ptr 40 x1 1 → getT tb 65 = .arr 136 x3 → getT tb 66 = I64 (k : Int) → getT tb 67 = .ptr 40 x1 1 → getT tb 68 = .arr 136 x3 → getT tb 69 = I64 (k : Int) → getT tb 70 = .ptr 136 x3 k → getT tb 71 = IL (gr t k) → getT tb 72 = IL ((gr t k).tail) → getT tb 73 = .ptr 136 x3 k → exT C0 0 (inlW C0 [fm_copyTabS] [fw_pick, fw_one] 0 0) ro_174_14 Q ex_174_14_1023 ⟨tb, [⟨0, 0, .cells (RS b (p + 3))⟩, ⟨32, 1, .cells [.nil, .nil]⟩, ⟨40, x1, .cells [.arr 88 x2, .arr 136 x3]⟩, ⟨88, x2, .arr 1 (ints u)⟩, ⟨136, x3, .arr 1 ((orowsD t).set k (IL (gr t k)))⟩], g⟩ := by
    intro tb g e4 e5 e6 e64 e65 e66 e67 e68 e69 e70 e71 e72 e73
    unfold ex_174_14_1023
    simp only [exT_alt, exT_one, exT_stop, and_true]
    rw [ro_174_14_10]
    simp [hkt, hyr, hyn, hyi, orowsD_ge, rowAt, rowB, e4, e5, e6, e64, e65, e66, e67, e68, e69, e70, e71, e72, e73]
    refine n2047 _ _ ?_ ?_ ?_ ?_ ?_ ?_ ?_ ?_ ?_ ?_ ?_ ?_ ?_ <;> simp [getT, e4, e5, e6, e64, e65, e66, e67, e68, e69, e70, e71, e72, e73]
  have n511 : ∀ tb g, getT tb 4 = .ptr 32 1 0 → getT tb 5 = .ptr 40 x1 0 → getT tb 6 = I64 (k : Int) → getT tb 64 = .ptr 40 x1 1 → getT tb 65 = .arr 136 x3 → getT tb 66 = I64 (k : Int) → getT tb 67 = .ptr 40 x1 1 → getT tb 68 = .arr 136 x3 → getT tb 69 = I64 (k : Int) → getT tb 70 = .ptr 136 x3 k → getT tb 71 = IL (gr t k) → getT tb 72 = IL ((gr t k).tail) → exT C0 0 (inlW C0 [fm_copyTabS] [fw_pick, fw_one] 0 0) ro_174_14 Q ex_174_14_511 ⟨tb, [⟨0, 0, .cells (RS b (p + 3))⟩, ⟨32, 1, .cells [.nil, .nil]⟩, ⟨40, x1, .cells [.arr 88 x2, .arr 136 x3]⟩, ⟨88, x2, .arr 1 (ints u)⟩, ⟨136, x3, .arr 1 ((orowsD t).set k (IL (gr t k)))⟩], g⟩ := by
    intro tb g e4 e5 e6 e64 e65 e66 e67 e68 e69 e70 e71 e72
    unfold ex_174_14_511
    simp only [exT_alt, exT_one, exT_stop, and_true]
    rw [ro_174_14_9]
    simp [hkt, hyr, hyn, hyi, orowsD_ge, rowAt, rowB, e4, e5, e6, e64, e65, e66, e67, e68, e69, e70, e71, e72]
    refine n1023 _ _ ?_ ?_ ?_ ?_ ?_ ?_ ?_ ?_ ?_ ?_ ?_ ?_ ?_ <;> simp [getT, e4, e5, e6, e64, e65, e66, e67, e68, e69, e70, e71, e72]
  have n509 : ∀ tb g, getT tb 4 = .ptr 32 1 0 → getT tb 5 = .ptr 40 x1 0 → getT tb 6 = I64 (k : Int) → getT tb 64 = .ptr 40 x1 1 → getT tb 66 = I64 (k : Int) → getT tb 67 = .ptr 40 x1 1 → getT tb 68 = .arr 136 x3 → getT tb 69 = I64 (k : Int) → getT tb 70 = .ptr 136 x3 k → getT tb 71 = IL (gr t k) → getT tb 72 = IL ((gr t k).tail) → exT C0 0 (inlW C0 [fm_copyTabS] [fw_pick, fw_one] 0 0) ro_174_14 Q ex_174_14_509 ⟨tb, [⟨0, 0, .cells (RS b (p + 3))⟩, ⟨32, 1, .cells [.nil, .nil]⟩, ⟨40, x1, .cells [.arr 88 x2, .arr 136 x3]⟩, ⟨88, x2, .arr 1 (ints u)⟩, ⟨136, x3, .arr 1 ((orowsD t).set k (IL (gr t k)))⟩], g⟩ := by
    intro tb g e4 e5 e6 e64 e66 e67 e68 e69 e70 e71 e72
    unfold ex_174_14_509
    simp only [exT_alt, exT_one, exT_stop, and_true]
    rw [ro_174_14_1]
    simp [hkt, hyr, hyn, hyi, orowsD_ge, rowAt, rowB, e4, e5, e6, e64, e66, e67, e68, e69, e70, e71, e72]
    refine n511 _ _ ?_ ?_ ?_ ?_ ?_ ?_ ?_ ?_ ?_ ?_ ?_ ?_ <;> simp [getT, e4, e5, e6, e64, e66, e67, e68, e69, e70, e71, e72]
  have n508 : ∀ tb g, getT tb 4 = .ptr 32 1 0 → getT tb 5 = .ptr 40 x1 0 → getT tb 6 = I64 (k : Int) → getT tb 66 = I64 (k : Int) → getT tb 67 = .ptr 40 x1 1 → getT tb 68 = .arr 136 x3 → getT tb 69 = I64 (k : Int) → getT tb 70 = .ptr 136 x3 k → getT tb 71 = IL (gr t k) → getT tb 72 = IL ((gr t k).tail) → exT C0 0 (inlW C0 [fm_copyTabS] [fw_pick, fw_one] 0 0) ro_174_14 Q ex_174_14_508 ⟨tb, [⟨0, 0, .cells (RS b (p + 3))⟩, ⟨32, 1, .cells [.nil, .nil]⟩, ⟨40, x1, .cells [.arr 88 x2, .arr 136 x3]⟩, ⟨88, x2, .arr 1 (ints u)⟩, ⟨136, x3, .arr 1 ((orowsD t).set k (IL (gr t k)))⟩], g⟩ := by
    intro tb g e4 e5 e6 e66 e67 e68 e69 e70 e71 e72
    unfold ex_174_14_508
    simp only [exT_alt, exT_one, exT_stop, and_true]
    rw [ro_174_14_0]
    simp [hkt, hyr, hyn, hyi, orowsD_ge, rowAt, rowB, e4, e5, e6, e66, e67, e68, e69, e70, e71, e72]
    refine n509 _ _ ?_ ?_ ?_ ?_ ?_ ?_ ?_ ?_ ?_ ?_ ?_ <;> simp [getT, e4, e5, e6, e66, e67, e68, e69, e70, e71, e72]
  have n252 : ∀ tb g, getT tb 4 = .ptr 32 1 0 → getT tb 5 = .ptr 40 x1 0 → getT tb 6 = I64 (k : Int) → getT tb 66 = I64 (k : Int) → getT tb 67 = .ptr 40 x1 1 → getT tb 68 = .arr 136 x3 → getT tb 69 = I64 (k : Int) → getT tb 70 = .ptr 136 x3 k → getT tb 71 = IL (gr t k) → exT C0 0 (inlW C0 [fm_copyTabS] [fw_pick, fw_one] 0 0) ro_174_14 Q ex_174_14_252 ⟨tb, [⟨0, 0, .cells (RS b (p + 3))⟩, ⟨32, 1, .cells [.nil, .nil]⟩, ⟨40, x1, .cells [.arr 88 x2, .arr 136 x3]⟩, ⟨88, x2, .arr 1 (ints u)⟩, ⟨136, x3, .arr 1 ((orowsD t).set k (IL (gr t k)))⟩], g⟩ := by
    intro tb g e4 e5 e6 e66 e67 e68 e69 e70 e71
    unfold ex_174_14_252
    simp only [exT_alt, exT_one, exT_stop, and_true]
    rw [ro_174_14_8]
    simp [hkt, hyr, hyn, hyi, orowsD_ge, rowAt, rowB, e4, e5, e6, e66, e67, e68, e69, e70, e71]
    refine n508 _ _ ?_ ?_ ?_ ?_ ?_ ?_ ?_ ?_ ?_ ?_ <;> simp [getT, e4, e5, e6, e66, e67, e68, e69, e70, e71]
  have n253 : ∀ tb g, getT tb 4 = .ptr 32 1 0 → getT tb 5 = .ptr 40 x1 0 → getT tb 6 = I64 (k : Int) → getT tb 64 = .ptr 40 x1 1 → getT tb 66 = I64 (k : Int) → getT tb 67 = .ptr 40 x1 1 → getT tb 68 = .arr 136 x3 → getT tb 69 = I64 (k : Int) → getT tb 70 = .ptr 136 x3 k → getT tb 71 = IL (gr t k) → exT C0 0 (inlW C0 [fm_copyTabS] [fw_pick, fw_one] 0 0) ro_174_14 Q ex_174_14_253 ⟨tb, [⟨0, 0, .cells (RS b (p + 3))⟩, ⟨32, 1, .cells [.nil, .nil]⟩, ⟨40, x1, .cells [.arr 88 x2, .arr 136 x3]⟩, ⟨88, x2, .arr 1 (ints u)⟩, ⟨136, x3, .arr 1 ((orowsD t).set k (IL (gr t k)))⟩], g⟩ := by
    intro tb g e4 e5 e6 e64 e66 e67 e68 e69 e70 e71
    unfold ex_174_14_253
    simp only [exT_alt, exT_one, exT_stop, and_true]
    rw [ro_174_14_8]
    simp [hkt, hyr, hyn, hyi, orowsD_ge, rowAt, rowB, e4, e5, e6, e64, e66, e67, e68, e69, e70, e71]
    refine n509 _ _ ?_ ?_ ?_ ?_ ?_ ?_ ?_ ?_ ?_ ?_ ?_ <;> simp [getT, e4, e5, e6, e64, e66, e67, e68, e69, e70, e71]
  have n255 : ∀ tb g, getT tb 4 = .ptr 32 1 0 → getT tb 5 = .ptr 40 x1 0 → getT tb 6 = I64 (k : Int) → getT tb 64 = .ptr 40 x1 1 → getT tb 65 = .arr 136 x3 → getT tb 66 = I64 (k : Int) → getT tb 67 = .ptr 40 x1 1 → getT tb 68 = .arr 136 x3 → getT tb 69 = I64 (k : Int) → getT tb 70 = .ptr 136 x3 k → getT tb 71 = IL (gr t k) → exT C0 0 (inlW C0 [fm_copyTabS] [fw_pick, fw_one] 0 0) ro_174_14 Q ex_174_14_255 ⟨tb, [⟨0, 0, .cells (RS b (p + 3))⟩, ⟨32, 1, .cells [.nil, .nil]⟩, ⟨40, x1, .cells [.arr 88 x2, .arr 136 x3]⟩, ⟨88, x2, .arr 1 (ints u)⟩, ⟨136, x3, .arr 1 ((orowsD t).set k (IL (gr t k)))⟩], g⟩ := by
    intro tb g e4 e5 e6 e64 e65 e66 e67 e68 e69 e70 e71
    unfold ex_174_14_255
    simp only [exT_alt, exT_one, exT_stop, and_true]
    rw [ro_174_14_8]
    simp [hkt, hyr, hyn, hyi, orowsD_ge, rowAt, rowB, e4, e5, e6, e64, e65, e66, e67, e68, e69, e70, e71]
    refine n511 _ _ ?_ ?_ ?_ ?_ ?_ ?_ ?_ ?_ ?_ ?_ ?_ ?_ <;> simp [getT, e4, e5, e6, e64, e65, e66, e67, e68, e69, e70, e71]
  have n127 : ∀ tb g, getT tb 4 = .ptr 32 1 0 → getT tb 5 = .ptr 40 x1 0 → getT tb 6 = I64 (k : Int) → getT tb 64 = .ptr 40 x1 1 → getT tb 65 = .arr 136 x3 → getT tb 66 = I64 (k : Int) → getT tb 67 = .ptr 40 x1 1 → getT tb 68 = .arr 136 x3 → getT tb 69 = I64 (k : Int) → getT tb 70 = .ptr 136 x3 k → exT C0 0 (inlW C0 [fm_copyTabS] [fw_pick, fw_one] 0 0) ro_174_14 Q ex_174_14_127 ⟨tb, [⟨0, 0, .cells (RS b (p + 3))⟩, ⟨32, 1, .cells [.nil, .nil]⟩, ⟨40, x1, .cells [.arr 88 x2, .arr 136 x3]⟩, ⟨88, x2, .arr 1 (ints u)⟩, ⟨136, x3, .arr 1 (orowsD t)⟩], g⟩ := by
    intro tb g e4 e5 e6 e64 e65 e66 e67 e68 e69 e70
    unfold ex_174_14_127
    simp only [exT_alt, exT_one, exT_stop, and_true]
    rw [ro_174_14_7]
    simp [hkt, hyr, hyn, hyi, orowsD_ge, rowAt, rowB, e4, e5, e6, e64, e65, e66, e67, e68, e69, e70]
    refine n255 _ _ ?_ ?_ ?_ ?_ ?_ ?_ ?_ ?_ ?_ ?_ ?_ <;> simp [getT, e4, e5, e6, e64, e65, e66, e67, e68, e69, e70]
  have n125 : ∀ tb g, getT tb 4 = .ptr 32 1 0 → getT tb 5 = .ptr 40 x1 0 → getT tb 6 = I64 (k : Int) → getT tb 64 = .ptr 40 x1 1 → getT tb 66 = I64 (k : Int) → getT tb 67 = .ptr 40 x1 1 → getT tb 68 = .arr 136 x3 → getT tb 69 = I64 (k : Int) → getT tb 70 = .ptr 136 x3 k → exT C0 0 (inlW C0 [fm_copyTabS] [fw_pick, fw_one] 0 0) ro_174_14 Q ex_174_14_125 ⟨tb, [⟨0, 0, .cells (RS b (p + 3))⟩, ⟨32, 1, .cells [.nil, .nil]⟩, ⟨40, x1, .cells [.arr 88 x2, .arr 136 x3]⟩, ⟨88, x2, .arr 1 (ints u)⟩, ⟨136, x3, .arr 1 (orowsD t)⟩], g⟩ := by
    intro tb g e4 e5 e6 e64 e66 e67 e68 e69 e70
    unfold ex_174_14_125
    simp only [exT_alt, exT_one, exT_stop, and_true]
    refine ⟨?_, ?_⟩
    · rw [ro_174_14_1]
      simp [hkt, hyr, hyn, hyi, orowsD_ge, rowAt, rowB, e4, e5, e6, e64, e66, e67, e68, e69, e70]
      refine n127 _ _ ?_ ?_ ?_ ?_ ?_ ?_ ?_ ?_ ?_ ?_ <;> simp [getT, e4, e5, e6, e64, e66, e67, e68, e69, e70]
    · rw [ro_174_14_7]
      simp [hkt, hyr, hyn, hyi, orowsD_ge, rowAt, rowB, e4, e5, e6, e64, e66, e67, e68, e69, e70]
      refine n253 _ _ ?_ ?_ ?_ ?_ ?_ ?_ ?_ ?_ ?_ ?_ <;> simp [getT, e4, e5, e6, e64, e66, e67, e68, e69, e70]
  have n124 : ∀ tb g, getT tb 4 = .ptr 32 1 0 → getT tb 5 = .ptr 40 x1 0 → getT tb 6 = I64 (k : Int) → getT tb 66 = I64 (k : Int) → getT tb 67 = .ptr 40 x1 1 → getT tb 68 = .arr 136 x3 → getT tb 69 = I64 (k : Int) → getT tb 70 = .ptr 136 x3 k → exT C0 0 (inlW C0 [fm_copyTabS] [fw_pick, fw_one] 0 0) ro_174_14 Q ex_174_14_124 ⟨tb, [⟨0, 0, .cells (RS b (p + 3))⟩, ⟨32, 1, .cells [.nil, .nil]⟩, ⟨40, x1, .cells [.arr 88 x2, .arr 136 x3]⟩, ⟨88, x2, .arr 1 (ints u)⟩, ⟨136, x3, .arr 1 (orowsD t)⟩], g⟩ := by
    intro tb g e4 e5 e6 e66 e67 e68 e69 e70
    unfold ex_174_14_124
    simp only [exT_alt, exT_one, exT_stop, and_true]
    refine ⟨?_, ?_⟩
    · rw [ro_174_14_0]
      simp [hkt, hyr, hyn, hyi, orowsD_ge, rowAt, rowB, e4, e5, e6, e66, e67, e68, e69, e70]
      refine n125 _ _ ?_ ?_ ?_ ?_ ?_ ?_ ?_ ?_ ?_ <;> simp [getT, e4, e5, e6, e66, e67, e68, e69, e70]
    · rw [ro_174_14_7]
      simp [hkt, hyr, hyn, hyi, orowsD_ge, rowAt, rowB, e4, e5, e6, e66, e67, e68, e69, e70]
      refine n252 _ _ ?_ ?_ ?_ ?_ ?_ ?_ ?_ ?_ ?_ <;> simp [getT, e4, e5, e6, e66, e67, e68, e69, e70]
  have n63 : ∀ tb g, getT tb 4 = .ptr 32 1 0 → getT tb 5 = .ptr 40 x1 0 → getT tb 6 = I64 (k : Int) → getT tb 64 = .ptr 40 x1 1 → getT tb 65 = .arr 136 x3 → getT tb 66 = I64 (k : Int) → getT tb 67 = .ptr 40 x1 1 → getT tb 68 = .arr 136 x3 → getT tb 69 = I64 (k : Int) → exT C0 0 (inlW C0 [fm_copyTabS] [fw_pick, fw_one] 0 0) ro_174_14 Q ex_174_14_63 ⟨tb, [⟨0, 0, .cells (RS b (p + 3))⟩, ⟨32, 1, .cells [.nil, .nil]⟩, ⟨40, x1, .cells [.arr 88 x2, .arr 136 x3]⟩, ⟨88, x2, .arr 1 (ints u)⟩, ⟨136, x3, .arr 1 (orowsD t)⟩], g⟩ := by
    intro tb g e4 e5 e6 e64 e65 e66 e67 e68 e69
    unfold ex_174_14_63
    simp only [exT_alt, exT_one, exT_stop, and_true]
    rw [ro_174_14_6]
    simp [hkt, hyr, hyn, hyi, orowsD_ge, rowAt, rowB, e4, e5, e6, e64, e65, e66, e67, e68, e69]
    refine n127 _ _ ?_ ?_ ?_ ?_ ?_ ?_ ?_ ?_ ?_ ?_ <;> simp [getT, e4, e5, e6, e64, e65, e66, e67, e68, e69]
  have n61 : ∀ tb g, getT tb 4 = .ptr 32 1 0 → getT tb 5 = .ptr 40 x1 0 → getT tb 6 = I64 (k : Int) → getT tb 64 = .ptr 40 x1 1 → getT tb 66 = I64 (k : Int) → getT tb 67 = .ptr 40 x1 1 → getT tb 68 = .arr 136 x3 → getT tb 69 = I64 (k : Int) → exT C0 0 (inlW C0 [fm_copyTabS] [fw_pick, fw_one] 0 0) ro_174_14 Q ex_174_14_61 ⟨tb, [⟨0, 0, .cells (RS b (p + 3))⟩, ⟨32, 1, .cells [.nil, .nil]⟩, ⟨40, x1, .cells [.arr 88 x2, .arr 136 x3]⟩, ⟨88, x2, .arr 1 (ints u)⟩, ⟨136, x3, .arr 1 (orowsD t)⟩], g⟩ := by
    intro tb g e4 e5 e6 e64 e66 e67 e68 e69
    unfold ex_174_14_61
    simp only [exT_alt, exT_one, exT_stop, and_true]
    refine ⟨?_, ?_⟩
    · rw [ro_174_14_1]
      simp [hkt, hyr, hyn, hyi, orowsD_ge, rowAt, rowB, e4, e5, e6, e64, e66, e67, e68, e69]
      refine n63 _ _ ?_ ?_ ?_ ?_ ?_ ?_ ?_ ?_ ?_ <;> simp [getT, e4, e5, e6, e64, e66, e67, e68, e69]
    · rw [ro_174_14_6]
      simp [hkt, hyr, hyn, hyi, orowsD_ge, rowAt, rowB, e4, e5, e6, e64, e66, e67, e68, e69]
      refine n125 _ _ ?_ ?_ ?_ ?_ ?_ ?_ ?_ ?_ ?_ <;> simp [getT, e4, e5, e6, e64, e66, e67, e68, e69]
  have n60 : ∀ tb g, getT tb 4 = .ptr 32 1 0 → getT tb 5 = .ptr 40 x1 0 → getT tb 6 = I64 (k : Int) → getT tb 66 = I64 (k : Int) → getT tb 67 = .ptr 40 x1 1 → getT tb 68 = .arr 136 x3 → getT tb 69 = I64 (k : Int) → exT C0 0 (inlW C0 [fm_copyTabS] [fw_pick, fw_one] 0 0) ro_174_14 Q ex_174_14_60 ⟨tb, [⟨0, 0, .cells (RS b (p + 3))⟩, ⟨32, 1, .cells [.nil, .nil]⟩, ⟨40, x1, .cells [.arr 88 x2, .arr 136 x3]⟩, ⟨88, x2, .arr 1 (ints u)⟩, ⟨136, x3, .arr 1 (orowsD t)⟩], g⟩ := by
    intro tb g e4 e5 e6 e66 e67 e68 e69
    unfold ex_174_14_60
    simp only [exT_alt, exT_one, exT_stop, and_true]
    refine ⟨?_, ?_⟩
    · rw [ro_174_14_0]
      simp [hkt, hyr, hyn, hyi, orowsD_ge, rowAt, rowB, e4, e5, e6, e66, e67, e68, e69]
      refine n61 _ _ ?_ ?_ ?_ ?_ ?_ ?_ ?_ ?_ <;> simp [getT, e4, e5, e6, e66, e67, e68, e69]
    · rw [ro_174_14_6]
      simp [hkt, hyr, hyn, hyi, orowsD_ge, rowAt, rowB, e4, e5, e6, e66, e67, e68, e69]
      refine n124 _ _ ?_ ?_ ?_ ?_ ?_ ?_ ?_ ?_ <;> simp [getT, e4, e5, e6, e66, e67, e68, e69]
  have n47 : ∀ tb g, getT tb 4 = .ptr 32 1 0 → getT tb 5 = .ptr 40 x1 0 → getT tb 6 = I64 (k : Int) → getT tb 64 = .ptr 40 x1 1 → getT tb 65 = .arr 136 x3 → getT tb 66 = I64 (k : Int) → getT tb 67 = .ptr 40 x1 1 → getT tb 69 = I64 (k : Int) → exT C0 0 (inlW C0 [fm_copyTabS] [fw_pick, fw_one] 0 0) ro_174_14 Q ex_174_14_47 ⟨tb, [⟨0, 0, .cells (RS b (p + 3))⟩, ⟨32, 1, .cells [.nil, .nil]⟩, ⟨40, x1, .cells [.arr 88 x2, .arr 136 x3]⟩, ⟨88, x2, .arr 1 (ints u)⟩, ⟨136, x3, .arr 1 (orowsD t)⟩], g⟩ := by
    intro tb g e4 e5 e6 e64 e65 e66 e67 e69
    unfold ex_174_14_47
    simp only [exT_alt, exT_one, exT_stop, and_true]
    rw [ro_174_14_4]
    simp [hkt, hyr, hyn, hyi, orowsD_ge, rowAt, rowB, e4, e5, e6, e64, e65, e66, e67, e69]
    refine n63 _ _ ?_ ?_ ?_ ?_ ?_ ?_ ?_ ?_ ?_ <;> simp [getT, e4, e5, e6, e64, e65, e66, e67, e69]
  have n45 : ∀ tb g, getT tb 4 = .ptr 32 1 0 → getT tb 5 = .ptr 40 x1 0 → getT tb 6 = I64 (k : Int) → getT tb 64 = .ptr 40 x1 1 → getT tb 66 = I64 (k : Int) → getT tb 67 = .ptr 40 x1 1 → getT tb 69 = I64 (k : Int) → exT C0 0 (inlW C0 [fm_copyTabS] [fw_pick, fw_one] 0 0) ro_174_14 Q ex_174_14_45 ⟨tb, [⟨0, 0, .cells (RS b (p + 3))⟩, ⟨32, 1, .cells [.nil, .nil]⟩, ⟨40, x1, .cells [.arr 88 x2, .arr 136 x3]⟩, ⟨88, x2, .arr 1 (ints u)⟩, ⟨136, x3, .arr 1 (orowsD t)⟩], g⟩ := by
    intro tb g e4 e5 e6 e64 e66 e67 e69
    unfold ex_174_14_45
    simp only [exT_alt, exT_one, exT_stop, and_true]
    refine ⟨?_, ?_⟩
    · rw [ro_174_14_1]
      simp [hkt, hyr, hyn, hyi, orowsD_ge, rowAt, rowB, e4, e5, e6, e64, e66, e67, e69]
      refine n47 _ _ ?_ ?_ ?_ ?_ ?_ ?_ ?_ ?_ <;> simp [getT, e4, e5, e6, e64, e66, e67, e69]
    · rw [ro_174_14_4]
      simp [hkt, hyr, hyn, hyi, orowsD_ge, rowAt, rowB, e4, e5, e6, e64, e66, e67, e69]
      refine n61 _ _ ?_ ?_ ?_ ?_ ?_ ?_ ?_ ?_ <;> simp [getT, e4, e5, e6, e64, e66, e67, e69]
  have n44 : ∀ tb g, getT tb 4 = .ptr 32 1 0 → getT tb 5 = .ptr 40 x1 0 → getT tb 6 = I64 (k : Int) → getT tb 66 = I64 (k : Int) → getT tb 67 = .ptr 40 x1 1 → getT tb 69 = I64 (k : Int) → exT C0 0 (inlW C0 [fm_copyTabS] [fw_pick, fw_one] 0 0) ro_174_14 Q ex_174_14_44 ⟨tb, [⟨0, 0, .cells (RS b (p + 3))⟩, ⟨32, 1, .cells [.nil, .nil]⟩, ⟨40, x1, .cells [.arr 88 x2, .arr 136 x3]⟩, ⟨88, x2, .arr 1 (ints u)⟩, ⟨136, x3, .arr 1 (orowsD t)⟩], g⟩ := by
    intro tb g e4 e5 e6 e66 e67 e69
    unfold ex_174_14_44
    simp only [exT_alt, exT_one, exT_stop, and_true]
    refine ⟨?_, ?_⟩
    · rw [ro_174_14_0]
      simp [hkt, hyr, hyn, hyi, orowsD_ge, rowAt, rowB, e4, e5, e6, e66, e67, e69]
      refine n45 _ _ ?_ ?_ ?_ ?_ ?_ ?_ ?_ <;> simp [getT, e4, e5, e6, e66, e67, e69]
    · rw [ro_174_14_4]
      simp [hkt, hyr, hyn, hyi, orowsD_ge, rowAt, rowB, e4, e5, e6, e66, e67, e69]
      refine n60 _ _ ?_ ?_ ?_ ?_ ?_ ?_ ?_ <;> simp [getT, e4, e5, e6, e66, e67, e69]
  have n39 : ∀ tb g, getT tb 4 = .ptr 32 1 0 → getT tb 5 = .ptr 40 x1 0 → getT tb 6 = I64 (k : Int) → getT tb 64 = .ptr 40 x1 1 → getT tb 65 = .arr 136 x3 → getT tb 66 = I64 (k : Int) → getT tb 69 = I64 (k : Int) → exT C0 0 (inlW C0 [fm_copyTabS] [fw_pick, fw_one] 0 0) ro_174_14 Q ex_174_14_39 ⟨tb, [⟨0, 0, .cells (RS b (p + 3))⟩, ⟨32, 1, .cells [.nil, .nil]⟩, ⟨40, x1, .cells [.arr 88 x2, .arr 136 x3]⟩, ⟨88, x2, .arr 1 (ints u)⟩, ⟨136, x3, .arr 1 (orowsD t)⟩], g⟩ := by
    intro tb g e4 e5 e6 e64 e65 e66 e69
    unfold ex_174_14_39
    simp only [exT_alt, exT_one, exT_stop, and_true]
    rw [ro_174_14_3]
    simp [hkt, hyr, hyn, hyi, orowsD_ge, rowAt, rowB, e4, e5, e6, e64, e65, e66, e69]
    refine n47 _ _ ?_ ?_ ?_ ?_ ?_ ?_ ?_ ?_ <;> simp [getT, e4, e5, e6, e64, e65, e66, e69]
  have n37 : ∀ tb g, getT tb 4 = .ptr 32 1 0 → getT tb 5 = .ptr 40 x1 0 → getT tb 6 = I64 (k : Int) → getT tb 64 = .ptr 40 x1 1 → getT tb 66 = I64 (k : Int) → getT tb 69 = I64 (k : Int) → exT C0 0 (inlW C0 [fm_copyTabS] [fw_pick, fw_one] 0 0) ro_174_14 Q ex_174_14_37 ⟨tb, [⟨0, 0, .cells (RS b (p + 3))⟩, ⟨32, 1, .cells [.nil, .nil]⟩, ⟨40, x1, .cells [.arr 88 x2, .arr 136 x3]⟩, ⟨88, x2, .arr 1 (ints u)⟩, ⟨136, x3, .arr 1 (orowsD t)⟩], g⟩ := by
    intro tb g e4 e5 e6 e64 e66 e69
    unfold ex_174_14_37
    simp only [exT_alt, exT_one, exT_stop, and_true]
    refine ⟨?_, ?_⟩
    · rw [ro_174_14_1]
      simp [hkt, hyr, hyn, hyi, orowsD_ge, rowAt, rowB, e4, e5, e6, e64, e66, e69]
      refine n39 _ _ ?_ ?_ ?_ ?_ ?_ ?_ ?_ <;> simp [getT, e4, e5, e6, e64, e66, e69]
    · rw [ro_174_14_3]
      simp [hkt, hyr, hyn, hyi, orowsD_ge, rowAt, rowB, e4, e5, e6, e64, e66, e69]
      refine n45 _ _ ?_ ?_ ?_ ?_ ?_ ?_ ?_ <;> simp [getT, e4, e5, e6, e64, e66, e69]
  have n36 : ∀ tb g, getT tb 4 = .ptr 32 1 0 → getT tb 5 = .ptr 40 x1 0 → getT tb 6 = I64 (k : Int) → getT tb 66 = I64 (k : Int) → getT tb 69 = I64 (k : Int) → exT C0 0 (inlW C0 [fm_copyTabS] [fw_pick, fw_one] 0 0) ro_174_14 Q ex_174_14_36 ⟨tb, [⟨0, 0, .cells (RS b (p + 3))⟩, ⟨32, 1, .cells [.nil, .nil]⟩, ⟨40, x1, .cells [.arr 88 x2, .arr 136 x3]⟩, ⟨88, x2, .arr 1 (ints u)⟩, ⟨136, x3, .arr 1 (orowsD t)⟩], g⟩ := by
    intro tb g e4 e5 e6 e66 e69
    unfold ex_174_14_36
    simp only [exT_alt, exT_one, exT_stop, and_true]
    refine ⟨?_, ?_⟩
    · rw [ro_174_14_0]
      simp [hkt, hyr, hyn, hyi, orowsD_ge, rowAt, rowB, e4, e5, e6, e66, e69]
      refine n37 _ _ ?_ ?_ ?_ ?_ ?_ ?_ <;> simp [getT, e4, e5, e6, e66, e69]
    · rw [ro_174_14_3]
      simp [hkt, hyr, hyn, hyi, orowsD_ge, rowAt, rowB, e4, e5, e6, e66, e69]
      refine n44 _ _ ?_ ?_ ?_ ?_ ?_ ?_ <;> simp [getT, e4, e5, e6, e66, e69]
  have n4 : ∀ tb g, getT tb 4 = .ptr 32 1 0 → getT tb 5 = .ptr 40 x1 0 → getT tb 6 = I64 (k : Int) → getT tb 66 = I64 (k : Int) → exT C0 0 (inlW C0 [fm_copyTabS] [fw_pick, fw_one] 0 0) ro_174_14 Q ex_174_14_4 ⟨tb, [⟨0, 0, .cells (RS b (p + 3))⟩, ⟨32, 1, .cells [.nil, .nil]⟩, ⟨40, x1, .cells [.arr 88 x2, .arr 136 x3]⟩, ⟨88, x2, .arr 1 (ints u)⟩, ⟨136, x3, .arr 1 (orowsD t)⟩], g⟩ := by
    intro tb g e4 e5 e6 e66
    unfold ex_174_14_4
    simp only [exT_alt, exT_one, exT_stop, and_true]
    rw [ro_174_14_5]
    simp [hkt, hyr, hyn, hyi, orowsD_ge, rowAt, rowB, e4, e5, e6, e66]
    refine n36 _ _ ?_ ?_ ?_ ?_ ?_ <;> simp [getT, e4, e5, e6, e66]
  have n0 : ∀ tb g, getT tb 4 = .ptr 32 1 0 → getT tb 5 = .ptr 40 x1 0 → getT tb 6 = I64 (k : Int) → exT C0 0 (inlW C0 [fm_copyTabS] [fw_pick, fw_one] 0 0) ro_174_14 Q ex_174_14_0 ⟨tb, [⟨0, 0, .cells (RS b (p + 3))⟩, ⟨32, 1, .cells [.nil, .nil]⟩, ⟨40, x1, .cells [.arr 88 x2, .arr 136 x3]⟩, ⟨88, x2, .arr 1 (ints u)⟩, ⟨136, x3, .arr 1 (orowsD t)⟩], g⟩ := by
    intro tb g e4 e5 e6
    unfold ex_174_14_0
    simp only [exT_alt, exT_one, exT_stop, and_true]
    rw [ro_174_14_2]
    simp [hkt, hyr, hyn, hyi, orowsD_ge, rowAt, rowB, e4, e5, e6]
    refine n4 _ _ ?_ ?_ ?_ ?_ <;> simp [getT, e4, e5, e6]
  exact n0

end Go.PS
end

section
-- Contracts: algebras that are drawn and may be invalid: the walk.
set_option maxRecDepth 100000
set_option linter.unusedVariables false
set_option linter.unusedSimpArgs false
namespace Go.PS
open Go.Proofs

set_option maxHeartbeats 4000000 in
theorem bent_pc (b : List Int) (p : Nat) (u : List Int) (t : List (List Int)) (hb : BB b) (hp : p ≤ 1000000) (hp2 : p ≤ 970000) (ga : GA (u, t)) : PC Try.prog 174 (.ptr 0 0 0 :: [AL u t]) (some (RS b p)) false (fun r c => imm 5 r = imm 5 (AL (bnM b p u t).1.1 (bnM b p u t).1.2) ∧ c = (RS b ((bnM b p u t).2))) := by
  have h1 : 1 ≤ u.length := ga.pos
  have h6 : u.length ≤ 6 := ga.six
  have sq : SQ u.length t := ga.sq
  have r0 := pkM_rng hb (p := p) (by omega) (n := 16) (by omega)
  refine pcW [fm_copyTabS] [fw_pick, fw_one] fok_174 ?_
  by_cases c0 : 0 < pkM b p 16
  · have e : bnM b p u t = ((u, t), p + 1) := by unfold bnM; rw [if_pos c0]
    rw [e]
    simp [fa_174, callOW, hb, hp, c0]
  · have lt := fm_copyTabS_look t ga.bigR
    have r1 := pkM_rng hb (p := p + 1) (by omega) (n := u.length) (by omega)
    have r2 := pkM_rng hb (p := p + 2) (by omega) (n := 5) (by omega)
    have z0 : pkM b p 16 = 0 := by omega
    simp [fa_174, callOW, hb, hp, z0]
    refine cutE (α := Nat × Nat × Nat) (fun x => [(0, .ptr 0 0 0), (4, .ptr 32 1 0), (5, .ptr 40 x.1 0)]) (fun x => [⟨0, 0, .cells (RS b (p + 1))⟩, ⟨32, 1, .cells [.nil, .nil]⟩, ⟨40, x.1, .cells [.arr 88 x.2.1, .arr 136 x.2.2]⟩, ⟨88, x.2.1, .arr 1 (ints u)⟩, ⟨136, x.2.2, .arr 1 (orowsD t)⟩]) ?_ (fun x g0 => ?_)
    · simp
      repeat' first
        | refine And.intro ?_ ?_
        | exact le_big (by omega)
        | (refine callDO1 fm_copyTabS (by simp) (by simp) (v := RO t) (by simp; exact lt) ?_; simp)
    · obtain ⟨x1, x2, x3⟩ := x
      have n1 : p + 1 + 1 = p + 2 := rfl
      have n2 : p + 2 + 1 = p + 3 := rfl
      have n3 : p + 3 + 1 = p + 4 := rfl
      have n4 : p + 4 + 1 = p + 5 := rfl
      have b1 : p + 1 ≤ 1000000 := by omega
      have b2 : p + 2 ≤ 1000000 := by omega
      have b3 : p + 3 ≤ 1000000 := by omega
      have b4 : p + 4 ≤ 1000000 := by omega
      have hul : (u.length : Int) ≤ 1099511627776 := by omega
      obtain ⟨k, hk⟩ : ∃ k : Nat, pkM b (p + 1) u.length = k := ⟨(pkM b (p + 1) u.length).toNat, by omega⟩
      have hku : k < u.length := by omega
      have hkt : k < t.length := by rw [sq.len]; exact hku
      have r3 := pkM_rng hb (p := p + 3) (by omega) (n := u.length) (by omega)
      have e0 : bnM b p u t = (let c := pkM b (p + 2) 5
    if c = 0 then ((u, t.set k ((gr t k).set (pkM b (p + 3) u.length).toNat (gi [0, 1, -1, 6] (pkM b (p + 4) 4).toNat))), p + 5)
    else if c = 1 then ((u.set k (gi [0, 3, -1] (pkM b (p + 3) 3).toNat), t), p + 4)
    else if c = 2 then ((u, t.tail), p + 3)
    else if c = 3 then ((u, t.set k ((gr t k).tail)), p + 3)
    else ((u ++ [64], t), p + 3)) := by unfold bnM; rw [if_neg c0, hk, Int.toNat_natCast]
      rw [e0]
      clear e0
      simp [callOW, hb, b1, b2, n1, n2, hul, hk]
      refine ⟨fun c => ?_, fun c => ?_⟩
      · have l1 : fw_one.look [.ptr 0 0 0, .list 1 [.int .i64 0, .int .i64 1, .int .i64 (-1), .int .i64 6]] (RS b (p + 4)) = some (I64 (gi [0, 1, -1, 6] (pkM b (p + 4) 4).toNat), RS b (p + 5)) := fw_one_look b (p + 4) [0, 1, -1, 6] hb (by omega) (by unfold Big; simp) (by simp)
        obtain ⟨y, hy⟩ : ∃ y : Nat, pkM b (p + 3) u.length = y := ⟨(pkM b (p + 3) u.length).toNat, by omega⟩
        have hyu : y < u.length := by omega
        have l0 : fw_pick.look [.ptr 0 0 0, I64 u.length] (RS b (p + 3)) = some (I64 y, RS b (p + 4)) := by rw [← hy]; exact fw_pick_look b (p + 3) u.length hb (by omega) hul
        generalize gi [0, 1, -1, 6] (pkM b (p + 4) 4).toNat = z at *
        simp only [c, if_true, hy, Int.toNat_natCast]
        refine cutE (α := Unit) (fun _ => [(4, .ptr 32 1 0), (5, .ptr 40 x1 0)]) (fun _ => [⟨0, 0, .cells (RS b (p + 5))⟩, ⟨32, 1, .cells [.nil, .nil]⟩, ⟨40, x1, .cells [.arr 88 x2, .arr 136 x3]⟩, ⟨88, x2, .arr 1 (ints u)⟩, ⟨136, x3, .arr 1 (orowsD (t.set k ((gr t k).set y z)))⟩]) ?_ (fun _ g0 => ?_)
        · refine bent_dag8 hkt (by rw [sq.rows k hku]; exact hyu) l0 l1 (fun tb g q4 q5 => ?_) _ _ (by simp) (by simp) (by simp) (by simp)
          simp [q4, q5]
        · simp
      · have c' : ¬ pkM b (p + 2) 5 = 0 := c
        simp only [c', if_false]
        refine ⟨fun d => ?_, fun d => ?_⟩
        · have l1 : fw_one.look [.ptr 0 0 0, .list 1 [.int .i64 0, .int .i64 3, .int .i64 (-1)]] (RS b (p + 3)) = some (I64 (gi [0, 3, -1] (pkM b (p + 3) 3).toNat), RS b (p + 4)) := fw_one_look b (p + 3) [0, 3, -1] hb (by omega) (by unfold Big; simp) (by simp)
          generalize gi [0, 3, -1] (pkM b (p + 3) 3).toNat = z at *
          simp only [d, if_true]
          refine cutE (α := Unit) (fun _ => [(4, .ptr 32 1 0), (5, .ptr 40 x1 0)]) (fun _ => [⟨0, 0, .cells (RS b (p + 4))⟩, ⟨32, 1, .cells [.nil, .nil]⟩, ⟨40, x1, .cells [.arr 88 x2, .arr 136 x3]⟩, ⟨88, x2, .arr 1 (ints (u.set k z))⟩, ⟨136, x3, .arr 1 (orowsD t)⟩]) ?_ (fun _ g0 => ?_)
          · refine bent_dag10 hku l1 (fun tb g q4 q5 => ?_) _ _ (by simp) (by simp) (by simp) (by simp)
            simp [q4, q5]
          · simp
        · have d' : ¬ pkM b (p + 2) 5 = 1 := d
          simp only [d', if_false]
          refine ⟨fun e => ?_, fun e => ?_⟩
          · simp only [e, if_true]
            exact ⟨by omega, ⟨trivial, by rw [← rowsD_length (r := t), List.take_length]; simp [rowsD]⟩, trivial⟩
          · have e' : ¬ pkM b (p + 2) 5 = 2 := e
            simp only [e', if_false]
            refine ⟨fun f => ?_, fun f => ?_⟩
            · simp only [f, if_true]
              refine cutE (α := Unit) (fun _ => [(4, .ptr 32 1 0), (5, .ptr 40 x1 0)]) (fun _ => [⟨0, 0, .cells (RS b (p + 3))⟩, ⟨32, 1, .cells [.nil, .nil]⟩, ⟨40, x1, .cells [.arr 88 x2, .arr 136 x3]⟩, ⟨88, x2, .arr 1 (ints u)⟩, ⟨136, x3, .arr 1 ((orowsD t).set k (IL ((gr t k).tail)))⟩]) ?_ (fun _ g0 => ?_)
              · refine bent_dag14 hkt (by rw [sq.rows k hku]; exact h1) (fun e => by have := sq.rows k hku; rw [e] at this; simp at this; omega) (by rw [sq.rows k hku]; omega) (fun tb g q4 q5 => ?_) _ _ (by simp) (by simp) (by simp)
                simp [q4, q5]
              · simp
                simp [rowsD, List.map_set]
            · have f' : ¬ pkM b (p + 2) 5 = 3 := f
              simp only [f', if_false]
              exact ⟨le_big (by omega), ⟨trivial, trivial⟩, trivial⟩
noncomputable def fw_bent : FamW Try.prog := mkFamW (X := List Int × Nat × List Int × List (List Int)) 174 (fun (b, p, u, t) => (.ptr 0 0 0 :: [AL u t])) (fun (b, p, u, t) => (RS b p)) (fun (b, p, u, t) => (BB b) ∧ (p ≤ 1000000) ∧ (p ≤ 970000) ∧ (GA (u, t))) (fun (b, p, u, t) => AL (bnM b p u t).1.1 (bnM b p u t).1.2) (fun (b, p, u, t) => (RS b ((bnM b p u t).2))) (by
  rintro ⟨b, p, u, t⟩ ⟨hb, hp, hp2, ga⟩
  exact bent_pc b p u t hb hp hp2 ga)
@[simp] theorem fw_bent_id : fw_bent.id = 174 := rfl
@[simp] theorem fw_bent_look (b : List Int) (p : Nat) (u : List Int) (t : List (List Int)) (hb : BB b) (hp : p ≤ 1000000) (hp2 : p ≤ 970000) (ga : GA (u, t)) : fw_bent.look (.ptr 0 0 0 :: [AL u t]) (RS b p) = some (AL (bnM b p u t).1.1 (bnM b p u t).1.2, (RS b ((bnM b p u t).2))) :=
  lookG_of (X := List Int × Nat × List Int × List (List Int)) (args := fun (b, p, u, t) => (.ptr 0 0 0 :: [AL u t])) (cell := fun (b, p, u, t) => (RS b p)) (pre := fun (b, p, u, t) => (BB b) ∧ (p ≤ 1000000) ∧ (p ≤ 970000) ∧ (GA (u, t))) (val := fun (b, p, u, t) => AL (bnM b p u t).1.1 (bnM b p u t).1.2) (cell' := fun (b, p, u, t) => (RS b ((bnM b p u t).2))) (by
  rintro ⟨b, p, u, t⟩ ⟨b', p', u', t'⟩ h h2
  simp at h h2
  try simp only [and_assoc] at h
  obtain ⟨rfl, rfl⟩ := h2
  obtain ⟨rfl, rfl⟩ := h
  exact ⟨rfl, rfl⟩) (b, p, u, t) ⟨hb, hp, hp2, ga⟩
attribute [irreducible] fw_bent
end Go.PS
end

section
-- Contracts: some algebra; a new reader, in place.
set_option maxRecDepth 100000
set_option linter.unusedVariables false
set_option linter.unusedSimpArgs false
namespace Go.PS
open Go.Proofs

/-- Some algebra, and how many numbers have been drawn. -/
def saM (b : List Int) (p : Nat) : Alg × Nat := bnM b (gaM b p).2 (gaM b p).1.1 (gaM b p).1.2
/-- Of few elements. -/
structure Few (a : Alg) : Prop where
  u : a.1.length ≤ 7
  t : a.2.length ≤ 6
  r : ∀ x ∈ a.2, x.length ≤ 6
theorem Few.big {a : Alg} (g : Few a) : Big a.1.length := by unfold Big; have := g.u; omega
theorem Few.bigR {a : Alg} (g : Few a) : BigR a.2 := ⟨by unfold Big; have := g.t; omega, fun x hx => by unfold Big; have := g.r x hx; omega⟩
theorem GA.few {a : Alg} (g : GA a) : Few a := by
  refine ⟨by have := g.six; omega, by rw [g.sq.len]; exact g.six, fun x hx => ?_⟩
  obtain ⟨i, hi, rfl⟩ := List.mem_iff_getElem.1 hx
  have := g.sq.rows i (by rw [← g.sq.len]; exact hi)
  simp [gr, List.getElem?_eq_getElem hi] at this
  have := g.six
  omega
theorem few_set {u : List Int} {t : List (List Int)} {k : Nat} {r : List Int} (g : Few (u, t)) (hr : r.length ≤ 6) : Few (u, t.set k r) :=
  ⟨g.u, by simpa using g.t, fun x hx => by
    rcases List.mem_or_eq_of_mem_set hx with h | h
    · exact g.r x h
    · rw [h]; exact hr⟩
theorem bnM_few {b : List Int} {p : Nat} {u : List Int} {t : List (List Int)} (g : GA (u, t)) : Few (bnM b p u t).1 ∧ (bnM b p u t).2 ≤ p + 5 := by
  have f := g.few
  have hrow : ∀ k, (gr t k).length ≤ 6 := fun k => by
    by_cases h : k < t.length
    · exact f.r _ (gr_mem h)
    · simp [gr, List.getElem?_eq_none (Nat.le_of_not_lt h)]
  unfold bnM
  split
  · exact ⟨f, by show p + 1 ≤ p + 5; omega⟩
  · dsimp only
    split
    · exact ⟨few_set f (by rw [List.length_set]; exact hrow _), Nat.le_refl _⟩
    · split
      · exact ⟨⟨by have := f.u; simpa using this, f.t, f.r⟩, by show p + 4 ≤ p + 5; omega⟩
      · split
        · exact ⟨⟨f.u, by have := f.t; simp at this ⊢; omega, fun x hx => f.r x (List.mem_of_mem_tail hx)⟩, by show p + 3 ≤ p + 5; omega⟩
        · split
          · exact ⟨few_set f (by have := hrow (pkM b (p + 1) u.length).toNat; simp; omega), by show p + 3 ≤ p + 5; omega⟩
          · exact ⟨⟨by have := g.six; simp at this ⊢; omega, f.t, f.r⟩, by show p + 3 ≤ p + 5; omega⟩
theorem saM_few {b : List Int} (hb : BB b) {p : Nat} (hp : p ≤ 960000) : Few (saM b p).1 ∧ (saM b p).2 ≤ p + 15 := by
  obtain ⟨g, q⟩ := gaM_ga hb (p := p) (by omega)
  have h := bnM_few (b := b) (p := (gaM b p).2) (u := (gaM b p).1.1) (t := (gaM b p).1.2) g
  exact ⟨h.1, by have := h.2; unfold saM; omega⟩

theorem someAlg_pc (b : List Int) (p : Nat) (hb : BB b) (hp : p ≤ 1000000) (hp2 : p ≤ 960000) : PC Try.prog 106 (.ptr 0 0 0 :: []) (some (RS b p)) false (fun r c => imm 5 r = imm 5 (AL (saM b p).1.1 (saM b p).1.2) ∧ c = (RS b ((saM b p).2))) := by
  obtain ⟨g, q⟩ := gaM_ga hb (p := p) (by omega)
  have l1 := fw_goodAlg_look b p hb (by omega) (by omega)
  have l2 := fw_bent_look b (gaM b p).2 (gaM b p).1.1 (gaM b p).1.2 hb (by omega) (by omega) g
  unfold saM
  generalize gaM b p = A at *
  obtain ⟨⟨u, t⟩, p1⟩ := A
  dsimp only at *
  generalize bnM b p1 u t = B at *
  obtain ⟨⟨u2, t2⟩, p2⟩ := B
  dsimp only at *
  refine pcW [] [fw_goodAlg, fw_bent] fok_106 ?_
  simp [fa_106, callOW, hb, hp, l1, l2]
noncomputable def fw_someAlg : FamW Try.prog := mkFamW (X := List Int × Nat) 106 (fun (b, p) => (.ptr 0 0 0 :: [])) (fun (b, p) => (RS b p)) (fun (b, p) => (BB b) ∧ (p ≤ 1000000) ∧ (p ≤ 960000)) (fun (b, p) => AL (saM b p).1.1 (saM b p).1.2) (fun (b, p) => (RS b ((saM b p).2))) (by
  rintro ⟨b, p⟩ ⟨hb, hp, hp2⟩
  exact someAlg_pc b p hb hp hp2)
@[simp] theorem fw_someAlg_id : fw_someAlg.id = 106 := rfl
@[simp] theorem fw_someAlg_look (b : List Int) (p : Nat) (hb : BB b) (hp : p ≤ 1000000) (hp2 : p ≤ 960000) : fw_someAlg.look (.ptr 0 0 0 :: []) (RS b p) = some (AL (saM b p).1.1 (saM b p).1.2, (RS b ((saM b p).2))) :=
  lookG_of (X := List Int × Nat) (args := fun (b, p) => (.ptr 0 0 0 :: [])) (cell := fun (b, p) => (RS b p)) (pre := fun (b, p) => (BB b) ∧ (p ≤ 1000000) ∧ (p ≤ 960000)) (val := fun (b, p) => AL (saM b p).1.1 (saM b p).1.2) (cell' := fun (b, p) => (RS b ((saM b p).2))) (by
  rintro ⟨b, p⟩ ⟨b', p'⟩ h h2
  simp at h h2
  try simp only [and_assoc] at h
  obtain ⟨rfl, rfl⟩ := h2
  exact ⟨rfl, rfl⟩) (b, p) ⟨hb, hp, hp2⟩
attribute [irreducible] fw_someAlg

/-- What a reader reads. -/
def rdB (code : List Int) : List Int := code.take 2000
def Byt (code : List Int) : Prop := ∀ x ∈ code, 0 ≤ x ∧ x ≤ 255
theorem rdB_ok {code : List Int} (h : Byt code) : BB (rdB code) := ⟨by simp [rdB]; omega, fun x hx => h x (List.mem_of_mem_take hx)⟩
def inlR (id : Nat) : Option FnA := if id = 107 then some fa_107 else none
theorem inlR_ok (id : Nat) (fa : FnA) (h : inlR id = some fa) : ∃ A, FnOk Try.prog id fa A := by
  unfold inlR at h
  split at h
  · rename_i e; injection h with h; subst h; exact ⟨_, e ▸ fok_107⟩
  · cases h
theorem pcR (T : List (Fam Try.prog)) (TW : List (FamW Try.prog)) {f : Nat} {fa : FnA} {A : Ann} (hf : FnOk Try.prog f fa A) {ds : List D} {fresh : Bool} {R : D → List D → Prop}
    (h : run (CI inlR) 0 (inlW (CI inlR) T TW 1 0) fa.ac (retQ (CI inlR).tt fresh fa.res R false) ⟨args0 0 ds, [], 1⟩) : PC Try.prog f ds none fresh R :=
  pc_of_run (C := CI inlR) (kb := 0) (io := none) hty0 Try.checked.mixed (inlW_ok (C := CI inlR) hty0 Try.checked.mixed (by intro f fa h; exact inlR_ok f fa h) T TW 1 0) hf h
section
variable {T : List (Fam Try.prog)} {TW : List (FamW Try.prog)} {n kb kb' id : Nat} {caps args : List D} {σ : St} {d : Option Nat} {ops : List AOper} {Q : St → Prop}
theorem callOWR (hn : (id == 107) = false) (hw : (findW id TW).isSome = true) : callO (CI inlR) kb' (inlW (CI inlR) T TW n kb) d 16 (.fn id caps) args σ ops Q = tabW2 (findW id TW) (args ++ caps) σ.h (fun v h => opsK (CI inlR) kb' (inlW (CI inlR) T TW n kb) ops ⟨put σ.t d (imm 5 v), h, σ.g⟩ Q) :=
  callO16W' (by show inlR id = none; unfold inlR; rw [if_neg (by simpa using hn)]) hw
theorem callDOWR (hn : (id == 107) = false) (hw : (findW id TW).isSome = true) : callDO (CI inlR) kb' (inlW (CI inlR) T TW n kb) d 16 (.fn id caps) args σ ops Q = tabW2 (findW id TW) (args ++ caps) σ.h (fun v h => opsKc (CI inlR) kb' (inlW (CI inlR) T TW n kb) ops ⟨put σ.t d (imm 5 v), h, σ.g⟩ Q) :=
  callDO16W' (by show inlR id = none; unfold inlR; rw [if_neg (by simpa using hn)]) hw
theorem callOTR (hn : (id == 107) = false) (hw : (findW id TW).isNone = true) : callO (CI inlR) kb' (inlW (CI inlR) T TW n kb) d 3 (.fn id caps) args σ ops Q = tab2 (findF id T) (args ++ caps) σ.h (fun v => opsK (CI inlR) kb' (inlW (CI inlR) T TW n kb) ops ⟨put σ.t d (imm 5 v), σ.h, σ.g⟩ Q) :=
  callO3W' (by show inlR id = none; unfold inlR; rw [if_neg (by simpa using hn)]) hw
theorem callON : callO (CI inlR) kb' (inlW (CI inlR) T TW 1 kb) d 16 (.fn 107 caps) args σ ops Q =
    run (CI inlR) (kb + 4000) (inlW (CI inlR) T TW 0 (kb + 4000)) fa_107.ac (inlQ (CI inlR).tt fa_107.res (backK (CI inlR) kb' (inlW (CI inlR) T TW 1 kb) σ.t d ops Q)) ⟨args0 0 (args ++ caps), σ.h, σ.g⟩ := callO16I (by rfl)
end

/-- A new reader. -/
theorem newR {T : List (Fam Try.prog)} {TW : List (FamW Try.prog)} {σ : St} {d : Option Nat} {ops : List AOper} {Q : St → Prop} {c : List Int} (hl : c.length ≤ 1099511627776)
    (h : opsK (CI inlR) 0 (inlW (CI inlR) T TW 1 0) ops ⟨put σ.t d (.ptr 4080 σ.g 0), ⟨4080, σ.g, .cells (RS (rdB c) 0)⟩ :: hdel σ.h 4080, σ.g + 1⟩ Q) :
    callO (CI inlR) 0 (inlW (CI inlR) T TW 1 0) d 16 (.fn 107 []) [BL c] σ ops Q := by
  rw [callON]
  rcases Nat.lt_or_ge 2000 c.length with q | q
  · simp [fa_107, show ((2000 : Int) < c.length) by omega, show ((2000 : Int) ≤ c.length) by omega, show ¬ ((c.length : Int) ≤ 2000) by omega]
    exact h
  · have e : rdB c = c := by unfold rdB; exact List.take_of_length_le q
    rw [e] at h
    simp [fa_107, show ¬ ((2000 : Int) < c.length) by omega, show ((c.length : Int) ≤ 2000) by omega]
    exact h
end Go.PS
end

section
-- PRINTED by gen.py: clean texts of functions, and their tie to the program.
set_option maxRecDepth 100000
namespace Go.PS
open Go.Proofs
/-- laws.isIn -/
def an_65 : Ann := ⟨[], [(0, [0, 1]), (1, [0, 1, 5]), (2, [0, 1, 5, 9]), (4, [0, 1, 5, 17]), (5, [4]), (3, [0, 1, 5]), (6, [4])], [(2, [0, 1, 5], [])], []⟩
def lb_65_2 : AC :=
  (.seq
    (.seq
      (.region false [⟨some 6, (.mv (.t 5)), 3, none, 0⟩, ⟨some 7, (.mv (.t 0)), 22, none, 0⟩, ⟨some 8, (.len 22 (.t 7)), 3, none, 0⟩, ⟨some 9, (.bin .lss 3 (.t 6) (.t 8)), 4, none, 0⟩] (some [0, 1, 5, 9]))
      (.cond (.t 9)
        .skip
        (.exit 0)))
    (.seq
      (.block 1
        (.seq
          (.region false [⟨some 12, (.mv (.t 0)), 22, none, 0⟩, ⟨some 13, (.mv (.t 5)), 3, none, 0⟩, ⟨some 14, (.iaddr 22 (.t 12) (.t 13)), 0, none, 0⟩, ⟨some 15, (.load 3 (.t 14)), 3, none, 0⟩, ⟨some 16, (.mv (.t 1)), 3, none, 0⟩, ⟨some 17, (.bin .eql 3 (.t 15) (.t 16)), 4, none, 0⟩] (some [0, 1, 5, 17]))
          (.cond (.t 17)
            (.seq
              (.region false [⟨some 4, (.mv (.c (.bool true))), 4, none, 0⟩] (some [4]))
              .ret)
            .skip)))
      (.region false [⟨some 10, (.mv (.t 5)), 3, none, 0⟩, ⟨some 11, (.bin .add 3 (.t 10) (.c (.int .i64 1))), 3, none, 0⟩, ⟨some 5, (.mv (.t 11)), 3, none, 0⟩] (some [0, 1, 5]))))
def fa_65 : FnA := ⟨18, [.t 4],
  (.seq
    (.region false [⟨some 4, (.mv (.c (.bool false))), 4, none, 0⟩] (some [0, 1]))
    (.seq
      (.seq
        (.region false [⟨some 5, (.mv (.c (.int .i64 0))), 3, none, 0⟩] (some [0, 1, 5]))
        (.block 0
          (.loop [0, 1, 5] [] lb_65_2)))
      (.seq
        (.region false [⟨some 4, (.mv (.c (.bool false))), 4, none, 0⟩] (some [4]))
        .ret)))⟩
theorem fok_65 : FnOk Try.prog 65 fa_65 an_65 := ⟨Try.f65, _, Try.func65, rfl, by kernel_rfl, rfl, rfl, by decide, by kernel_rfl⟩
/-- laws.equalInts -/
def an_63 : Ann := ⟨[], [(0, [0, 1]), (1, [0, 1, 10]), (2, [4]), (3, [0, 1, 5]), (4, [0, 1, 5, 14]), (6, [0, 1, 5, 25]), (7, [4]), (5, [0, 1, 5]), (8, [4])], [(4, [0, 1, 5], [])], []⟩
def lb_63_4 : AC :=
  (.seq
    (.seq
      (.region false [⟨some 11, (.mv (.t 5)), 3, none, 0⟩, ⟨some 12, (.mv (.t 0)), 22, none, 0⟩, ⟨some 13, (.len 22 (.t 12)), 3, none, 0⟩, ⟨some 14, (.bin .lss 3 (.t 11) (.t 13)), 4, none, 0⟩] (some [0, 1, 5, 14]))
      (.cond (.t 14)
        .skip
        (.exit 0)))
    (.seq
      (.block 1
        (.seq
          (.region true [⟨some 17, (.mv (.t 0)), 22, none, 0⟩, ⟨some 18, (.mv (.t 5)), 3, none, 0⟩, ⟨some 19, (.iaddr 22 (.t 17) (.t 18)), 0, none, 0⟩, ⟨some 20, (.load 3 (.t 19)), 3, none, 0⟩, ⟨some 21, (.mv (.t 1)), 22, none, 0⟩, ⟨some 22, (.mv (.t 5)), 3, none, 0⟩, ⟨some 23, (.iaddr 22 (.t 21) (.t 22)), 0, none, 0⟩, ⟨some 24, (.load 3 (.t 23)), 3, none, 0⟩, ⟨some 25, (.bin .neq 3 (.t 20) (.t 24)), 4, none, 0⟩] (some [0, 1, 5, 25]))
          (.cond (.t 25)
            (.seq
              (.region false [⟨some 4, (.mv (.c (.bool false))), 4, none, 0⟩] (some [4]))
              .ret)
            .skip)))
      (.region false [⟨some 15, (.mv (.t 5)), 3, none, 0⟩, ⟨some 16, (.bin .add 3 (.t 15) (.c (.int .i64 1))), 3, none, 0⟩, ⟨some 5, (.mv (.t 16)), 3, none, 0⟩] (some [0, 1, 5]))))
def fa_63 : FnA := ⟨26, [.t 4],
  (.seq
    (.region false [⟨some 4, (.mv (.c (.bool false))), 4, none, 0⟩] (some [0, 1]))
    (.seq
      (.seq
        (.region false [⟨some 6, (.mv (.t 0)), 22, none, 0⟩, ⟨some 7, (.len 22 (.t 6)), 3, none, 0⟩, ⟨some 8, (.mv (.t 1)), 22, none, 0⟩, ⟨some 9, (.len 22 (.t 8)), 3, none, 0⟩, ⟨some 10, (.bin .neq 3 (.t 7) (.t 9)), 4, none, 0⟩] (some [0, 1, 10]))
        (.cond (.t 10)
          (.seq
            (.region false [⟨some 4, (.mv (.c (.bool false))), 4, none, 0⟩] (some [4]))
            .ret)
          .skip))
      (.seq
        (.seq
          (.region false [⟨some 5, (.mv (.c (.int .i64 0))), 3, none, 0⟩] (some [0, 1, 5]))
          (.block 0
            (.loop [0, 1, 5] [] lb_63_4)))
        (.seq
          (.region false [⟨some 4, (.mv (.c (.bool true))), 4, none, 0⟩] (some [4]))
          .ret))))⟩
theorem fok_63 : FnOk Try.prog 63 fa_63 an_63 := ⟨Try.f63, _, Try.func63, rfl, by kernel_rfl, rfl, rfl, by decide, by kernel_rfl⟩
end Go.PS
end

section
-- Contracts: lists of the laws.
set_option maxRecDepth 100000
set_option linter.unusedVariables false
set_option linter.unusedSimpArgs false
namespace Go.PS
open Go.Proofs

theorem isInL_pc (l : List Int) (n : Int) (hl : Big l.length) : PC Try.prog 65 [IL l, I64 n] none true (fun r _ => r = .bool (decide (n ∈ l))) := by
  have hl := hl.le
  refine pcT [] fok_65 ?_
  simp [fa_65]
  refine loopA (tabK_mono _) l.length (fun i => [(5, I64 i)]) (fun _ => []) (fun j => ¬ gi l j = n) (by simp) (by simp) (fun i g hi hP => ?_)
  simp [lb_65_2, wrap_succ hi hl]
  refine ⟨fun h => ?_, fun h => ?_⟩
  · refine ⟨h, fun e => ?_, fun e => ?_⟩
    · rw [← e]; exact gi_mem h
    · exact ⟨h, e⟩
  · intro hx
    obtain ⟨j, hj, e⟩ := List.mem_iff_getElem.1 hx
    have := hP j (by omega)
    simp [gi, List.getElem?_eq_getElem hj] at this
    exact this e
noncomputable def fm_isInL : Fam Try.prog := mkFam (X := List Int × Int) 65 true (fun (l, n) => [IL l, I64 n]) (fun (l, n) => (Big l.length)) (fun (l, n) => .bool (decide (n ∈ l))) (by
  rintro ⟨l, n⟩ hl
  exact isInL_pc l n hl)
@[simp] theorem fm_isInL_id : fm_isInL.id = 65 := rfl
@[simp] theorem fm_isInL_fresh : fm_isInL.fresh = true := rfl
@[simp] theorem fm_isInL_look (l : List Int) (n : Int) (hl : Big l.length) : fm_isInL.look [IL l, I64 n] = some (.bool (decide (n ∈ l))) :=
  lookF_of (X := List Int × Int) (args := fun (l, n) => [IL l, I64 n]) (pre := fun (l, n) => (Big l.length)) (val := fun (l, n) => .bool (decide (n ∈ l))) (by
  rintro ⟨l, n⟩ ⟨l', n'⟩ h
  simp at h
  try simp only [and_assoc] at h
  obtain ⟨rfl, rfl⟩ := h
  rfl) (l, n) hl
attribute [irreducible] fm_isInL
theorem eqInts_pc (a b : List Int) (ha : Big a.length) : PC Try.prog 63 [IL a, IL b] none true (fun r _ => r = .bool (decide (a = b))) := by
  refine pcT [] fok_63 ?_
  simp [fa_63]
  refine ⟨fun h e => h (by rw [e]), fun hl => ?_⟩
  refine loopA (tabK_mono _) a.length (fun i => [(5, I64 i)]) (fun _ => []) (fun j => gi a j = gi b j) (by simp) (by simp) (fun i g hi hP => ?_)
  simp [lb_63_4, wrap_succ hi ha]
  refine ⟨by grind, fun h => gi_ext (by omega) (fun j hj => hP j (by omega))⟩
noncomputable def fm_eqInts : Fam Try.prog := mkFam (X := List Int × List Int) 63 true (fun (a, b) => [IL a, IL b]) (fun (a, b) => (Big a.length)) (fun (a, b) => .bool (decide (a = b))) (by
  rintro ⟨a, b⟩ ha
  exact eqInts_pc a b ha)
@[simp] theorem fm_eqInts_id : fm_eqInts.id = 63 := rfl
@[simp] theorem fm_eqInts_fresh : fm_eqInts.fresh = true := rfl
@[simp] theorem fm_eqInts_look (a b : List Int) (ha : Big a.length) : fm_eqInts.look [IL a, IL b] = some (.bool (decide (a = b))) :=
  lookF_of (X := List Int × List Int) (args := fun (a, b) => [IL a, IL b]) (pre := fun (a, b) => (Big a.length)) (val := fun (a, b) => .bool (decide (a = b))) (by
  rintro ⟨a, b⟩ ⟨a', b'⟩ h
  simp at h
  try simp only [and_assoc] at h
  obtain ⟨rfl, rfl⟩ := h
  rfl) (a, b) ha
attribute [irreducible] fm_eqInts
end Go.PS
end

section
-- Nuclei in plain Lean: which there always are; none twice.
set_option linter.unusedVariables false
set_option linter.unusedSimpArgs false
namespace Go.PS

theorem ext_mem {n : Nat} : ∀ (w : List Int) (h : List Int), (∀ x ∈ w, 0 ≤ x ∧ x < n) → h ++ w ∈ ext n w.length h
  | [], h, _ => by simp [ext]
  | x :: w, h, hw => by
    simp only [List.length_cons, ext, List.mem_flatMap, List.mem_range]
    have hx := hw x (by simp)
    refine ⟨x.toNat, by omega, ?_⟩
    have e : ((x.toNat : Nat) : Int) = x := by omega
    rw [e]
    have := ext_mem w (h ++ [x]) (fun y hy => hw y (by simp [hy]))
    simpa using this
theorem pw_flatMap {α : Type} {f : Nat → List α} : ∀ (l : List Nat), l.Pairwise (· ≠ ·) → (∀ y ∈ l, (f y).Pairwise (· ≠ ·)) → (∀ y ∈ l, ∀ z ∈ l, y ≠ z → ∀ a ∈ f y, ∀ b ∈ f z, a ≠ b) → (l.flatMap f).Pairwise (· ≠ ·)
  | [], _, _, _ => by simp
  | y :: l, hl, h1, h2 => by
    rw [List.flatMap_cons, List.pairwise_append]
    rw [List.pairwise_cons] at hl
    refine ⟨h1 y (by simp), pw_flatMap l hl.2 (fun z hz => h1 z (by simp [hz])) (fun z hz w hw => h2 z (by simp [hz]) w (by simp [hw])), ?_⟩
    intro a ha b hb
    rw [List.mem_flatMap] at hb
    obtain ⟨z, hz, hb⟩ := hb
    exact h2 y (by simp) z (by simp [hz]) (hl.1 z hz) a ha b hb
theorem ext_nodup {n : Nat} : ∀ (k : Nat) (h : List Int), (ext n k h).Pairwise (· ≠ ·)
  | 0, h => by simp [ext]
  | k + 1, h => by
    unfold ext
    refine pw_flatMap _ ?_ (fun y _ => ext_nodup k _) ?_
    · exact List.Pairwise.imp (fun h => Nat.ne_of_lt h) List.pairwise_lt_range
    · intro y _ z _ hyz a ha b hb e
      obtain ⟨w, rfl, _⟩ := mem_ext ha
      obtain ⟨w2, rfl, _⟩ := mem_ext hb
      simp at e
      omega

section
variable {u : List Int} {t : List (List Int)}
theorem nucM_ext (hp : 1 ≤ u.length) : nucM u t = (ext u.length u.length []).filter fun j => decide (NU u t j) := by
  unfold nucM
  rw [ext_asgK, asgK_dig hp]
theorem mem_nuc {j : List Int} (hp : 1 ≤ u.length) : j ∈ nucM u t ↔ NU u t j := by
  rw [nucM_ext hp, List.mem_filter]
  constructor
  · rintro ⟨_, h⟩
    exact of_decide_eq_true h
  · intro h
    refine ⟨?_, decide_eq_true h⟩
    have := ext_mem (n := u.length) j [] (fun x hx => by
      obtain ⟨i, hi, e⟩ := List.mem_iff_getElem.1 hx
      have := h.rng i (by rw [← h.len]; exact hi)
      simp [gi, List.getElem?_eq_getElem hi, e] at this
      exact this)
    rw [h.len] at this
    simpa using this
theorem nuc_ne (hp : 1 ≤ u.length) {i : Nat} (hi : i + 1 < (nucM u t).length) : gr (nucM u t) i ≠ gr (nucM u t) (i + 1) := by
  have h : (nucM u t).Pairwise (· ≠ ·) := by
    rw [nucM_ext hp]
    exact (ext_nodup _ _).filter _
  have := List.pairwise_iff_getElem.1 h i (i + 1) (by omega) hi (by omega)
  simp only [gr, List.getElem?_eq_getElem hi, List.getElem?_eq_getElem (show i < (nucM u t).length by omega), Option.getD_some]
  exact this

/-- A list of one number for each element. -/
def lst (n : Nat) (f : Nat → Nat) : List Int := (List.range n).map fun x => ((f x : Nat) : Int)
theorem lst_len {n : Nat} {f : Nat → Nat} : (lst n f).length = n := by simp [lst]
theorem gi_lst {n : Nat} {f : Nat → Nat} {x : Nat} (hx : x < n) : gi (lst n f) x = (f x : Nat) := by simp [gi, lst, hx]
theorem lst_succ {n : Nat} {f : Nat → Nat} : lst (n + 1) f = lst n f ++ [((f n : Nat) : Int)] := by simp [lst, List.range_succ]
theorem NU_lst {f : Nat → Nat} (hf : ∀ x, x < u.length → f x < u.length) (h1 : ∀ x, x < u.length → tb u x (f x) = true) (h2 : ∀ x, x < u.length → f (f x) = f x)
    (ht : ∀ x, x < u.length → ∀ y, y < u.length → tn t x y < u.length)
    (h3 : ∀ x, x < u.length → ∀ y, y < u.length → tb u x y = true → tb u (f x) (f y) = true) (h4 : ∀ x, x < u.length → ∀ y, y < u.length → tb u (tn t (f x) (f y)) (f (tn t x y)) = true) : NU u t (lst u.length f) := by
  refine ⟨lst_len, fun x hx => ?_, fun x hx => ?_, fun x hx y hy => ?_⟩
  · rw [gi_lst hx]; have := hf x hx; omega
  · rw [gi_lst hx, Int.toNat_natCast, gi_lst (hf x hx), h2 x hx]
    exact ⟨h1 x hx, rfl⟩
  · rw [gi_lst hx, gi_lst hy, gi_lst (ht x hx y hy), Int.toNat_natCast, Int.toNat_natCast, Int.toNat_natCast]
    exact ⟨h3 x hx y hy, h4 x hx y hy⟩
theorem nu_id (a : VA u t) : NU u t (lst u.length fun x => x) :=
  NU_lst (fun x hx => hx) (fun x hx => a.lat.rf hx) (fun _ _ => rfl) (fun x hx y hy => a.tn_lt hx hy) (fun x hx y hy h => h) (fun x hx y hy => a.lat.rf (a.tn_lt hx hy))
theorem nu_top (a : VA u t) : NU u t (lst u.length fun _ => u.length - 1) := by
  have hp := a.lat.pos
  exact NU_lst (fun x hx => by omega) (fun x hx => a.lat.topl hx) (fun _ _ => rfl) (fun x hx y hy => a.tn_lt hx hy) (fun x hx y hy h => a.lat.rf (by omega)) (fun x hx y hy => by rw [a.tn_top (by omega)]; exact a.lat.rf (by omega))
theorem nu_nn (a : VA u t) : NU u t (lst u.length fun x => im u t (im u t x 0) 0) := by
  have hp := a.lat.pos
  refine NU_lst (fun x hx => a.im_lt) (fun x hx => a.nn_le hx) (fun x hx => ?_) (fun x hx y hy => a.tn_lt hx hy) (fun x hx y hy h => ?_) (fun x hx y hy => a.nn_mul hx hy)
  · rw [a.nnn hx]
  · exact a.im_anti a.im_lt a.im_lt hp (a.im_anti hx hy hp h)
end
end Go.PS
end
