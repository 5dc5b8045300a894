/- Part 1 of what the last text proves: The filters told by IsFilter are filters: the law holds at every input. -/
import Derived.Orders
import Derived.Laws.AppendOwn
import Derived.Below
import Derived.Eval
section
-- The clean values, what it is that a value of the machine stands for one of them, and how this is kept while memory grows.
set_option linter.unusedVariables false
set_option linter.unusedSimpArgs false
namespace Go.PS

inductive D where
  | undef
  | junk
  | bool (b : Bool)
  | int (k : IntKind) (n : Int)
  | str (s : List UInt8)
  | nil
  | list (sz : Nat) (xs : List D)
  | olist (sz : Nat) (xs : List D)
  | lit (sz : Nat) (xs : List D)
  | agg (xs : List D)
  | tup (xs : List D)
  | fn (f : Nat) (caps : List D)
  | ptr (k g off : Nat)
  | iptr (d : D)
  | arr (k g : Nat)
  | row (k g x : Nat)
  | rptr (k g x y : Nat)
  deriving Inhabited

inductive Blk where
  | cells (cs : List D)
  | arr (sz : Nat) (xs : List D)

structure Ent where
  k : Nat
  g : Nat
  b : Blk

structure St where
  t : List (Nat × D)
  h : List Ent
  g : Nat

def getT : List (Nat × D) → Nat → D
  | [], _ => .junk
  | (k, d) :: l, j => if k = j then d else getT l j

def find : List Ent → Nat → Nat → Option Blk
  | [], _, _ => none
  | e :: l, k, g => if e.k = k then (if e.g = g then some e.b else none) else find l k g

/-- The list in the cell 'x' of a block, with the size of its elements. -/
def rowB : Blk → Nat → Option (Nat × List D)
  | .arr _ xs, x => match xs[x]? with | some (.olist s ys) => some (s, ys) | _ => none
  | .cells _, _ => none

def cellB : Blk → Nat → Option D
  | .arr _ xs, x => xs[x]?
  | .cells _, _ => none

def isOl : D → Bool
  | .olist _ _ => true
  | _ => false

def isNilD : D → Bool
  | .nil => true
  | _ => false

/-- What stands in the cell 'x' of a list of the run's own. -/
def cellAt (h : List Ent) (k g x : Nat) : Option D := match find h k g with | some b => cellB b x | none => none

def rowAt (h : List Ent) (k g x : Nat) : Option (Nat × List D) := match find h k g with | some b => rowB b x | none => none

def hset : List Ent → Nat → Nat → Blk → List Ent
  | [], _, _, _ => []
  | e :: l, k, g, b => if e.k = k then ⟨k, g, b⟩ :: l else e :: hset l k g b

def hdel : List Ent → Nat → List Ent
  | [], _ => []
  | e :: l, k => if e.k = k then l else e :: hdel l k

/-- One cell each: what may be laid into a cell of memory. -/
def Ones (vs : List Value) : Prop := ∀ v ∈ vs, v.oneCell' = true

/-- The cells from offset 'o' of block 'b' on hold the values one after the other, each of 'sz' cells. -/
def Row (w : World) (b o sz : Nat) (vs : List Value) : Prop :=
  ∀ (i : Nat) (v : Value), vs[i]? = some v → v.cells.size = sz ∧ ∀ (j : Nat) (u : Value), v.cells[j]? = some u → u.oneCell' = true ∧ w.cell? ⟨b, o + i * sz + j, none⟩ = some u

/-- What is never written again: the value 'v' of the machine stands for the clean value; none of its memory lies in the blocks of 'F'. -/
inductive Rep (w : World) (F : Nat → Prop) : D → Value → Prop
  | junk (v : Value) : Rep w F .junk v
  | bool (b : Bool) : Rep w F (.bool b) (.bool b)
  | int (k : IntKind) (n : Int) : Rep w F (.int k n) (.int k n)
  | str (s : List UInt8) : Rep w F (.str s) (.string ⟨s.toArray⟩)
  | nil : Rep w F .nil (.slice none 0 0)
  | listE (sz : Nat) (a : Option Addr) (cap : Nat) : Rep w F (.list sz []) (.slice a 0 cap)
  | list (sz : Nat) (xs : List D) (vs : List Value) (b o cap : Nat) : vs.length = xs.length → xs.length ≤ cap → xs.length ≤ maxLen →
      (∀ (i : Nat) (d : D) (v : Value), xs[i]? = some d → vs[i]? = some v → Rep w F d v) → Row w b o sz vs →
      b < w.heap.size → ¬ F b → Rep w F (.list sz xs) (.slice (some ⟨b, o, none⟩) xs.length cap)
  | agg (xs : List D) (vs : List Value) : vs.length = xs.length →
      (∀ (i : Nat) (d : D) (v : Value), xs[i]? = some d → vs[i]? = some v → Rep w F d v) → Ones vs → Rep w F (.agg xs) (.agg vs.toArray)
  | tup (xs : List D) (vs : List Value) : vs.length = xs.length →
      (∀ (i : Nat) (d : D) (v : Value), xs[i]? = some d → vs[i]? = some v → Rep w F d v) → Rep w F (.tup xs) (.tuple vs.toArray)
  | fn (f : Nat) (xs : List D) (vs : List Value) : vs.length = xs.length →
      (∀ (i : Nat) (d : D) (v : Value), xs[i]? = some d → vs[i]? = some v → Rep w F d v) → Rep w F (.fn f xs) (.func (.func f) #[] vs.toArray)
  | iptr (d : D) (v : Value) (b o : Nat) : Rep w F d v → (∀ (j : Nat) (u : Value), v.cells[j]? = some u → u.oneCell' = true ∧ w.cell? ⟨b, o + j, none⟩ = some u) →
      b < w.heap.size → ¬ F b → Rep w F (.iptr d) (.pointer (some ⟨b, o, none⟩))

/-- Memory goes on: what lies outside F stays. -/
structure MemEvo (w : World) (F : Nat → Prop) (w' : World) (F' : Nat → Prop) : Prop where
  own : ∀ b, F' b → b < w.heap.size → F b
  mem : ∀ b, b < w.heap.size → ¬ F b → w'.heap[b]? = w.heap[b]?
  size : w.heap.size ≤ w'.heap.size

theorem MemEvo.refl (w : World) (F : Nat → Prop) : MemEvo w F w F := ⟨fun _ h _ => h, fun _ _ _ => rfl, Nat.le_refl _⟩

theorem MemEvo.trans {w w' w'' : World} {F F' F'' : Nat → Prop} (e : MemEvo w F w' F') (e' : MemEvo w' F' w'' F'') : MemEvo w F w'' F'' where
  own := fun b hb hl => e.own b (e'.own b hb (Nat.lt_of_lt_of_le hl e.size)) hl
  mem := fun b hl hn => (e'.mem b (Nat.lt_of_lt_of_le hl e.size) (fun hf => hn (e.own b hf hl))).trans (e.mem b hl hn)
  size := Nat.le_trans e.size e'.size

theorem cell?_of_heap {w w' : World} {a : Addr} (h : w'.heap[a.block]? = w.heap[a.block]?) : w'.cell? a = w.cell? a := by simp [World.cell?, h]

theorem Row.evo {w w' : World} {b o sz : Nat} {vs : List Value} (h : Row w b o sz vs) (hb : w'.heap[b]? = w.heap[b]?) : Row w' b o sz vs :=
  fun i v hv => ⟨(h i v hv).1, fun j u hu => ⟨((h i v hv).2 j u hu).1, by
    rw [cell?_of_heap (w := w) hb]; exact ((h i v hv).2 j u hu).2⟩⟩

theorem Rep.evo {w w' : World} {F F' : Nat → Prop} {d : D} {v : Value} (r : Rep w F d v) (e : MemEvo w F w' F') : Rep w' F' d v := by
  induction r with
  | junk v => exact .junk v
  | bool b => exact .bool b
  | int k n => exact .int k n
  | str s => exact .str s
  | nil => exact .nil
  | listE sz a cap => exact .listE sz a cap
  | list sz xs vs b o cap h1 h2 h3 _ h5 h6 h7 ih =>
    exact .list sz xs vs b o cap h1 h2 h3 ih (h5.evo (e.mem b h6 h7)) (Nat.lt_of_lt_of_le h6 e.size) (fun hf => h7 (e.own b hf h6))
  | agg xs vs h1 _ h3 ih => exact .agg xs vs h1 ih h3
  | tup xs vs h1 _ ih => exact .tup xs vs h1 ih
  | fn f xs vs h1 _ ih => exact .fn f xs vs h1 ih
  | iptr d v b o _ h2 h3 h4 ih =>
    exact .iptr d v b o ih (fun j u hu => ⟨(h2 j u hu).1, by rw [cell?_of_heap (w := w) (e.mem b h3 h4)]; exact (h2 j u hu).2⟩) (Nat.lt_of_lt_of_le h3 e.size) (fun hf => h4 (e.own b hf h3))

theorem Rep.weak {w : World} {F F' : Nat → Prop} {d : D} {v : Value} (r : Rep w F d v) (h : ∀ b, F' b → b < w.heap.size → F b) : Rep w F' d v :=
  r.evo ⟨h, fun _ _ _ => rfl, Nat.le_refl _⟩

/-- A value with the blocks that it owns, each of them alone. -/
inductive ORep (w : World) (F : Nat → Prop) (lo : Nat) : D → Value → List Nat → Prop
  | base (d : D) (v : Value) : Rep w F d v → ORep w F lo d v []
  | olistE (sz : Nat) : ORep w F lo (.olist sz []) (.slice none 0 0) []
  | olist (sz : Nat) (xs : List D) (vs : List Value) (os : List (List Nat)) (b cap : Nat) (cur : Array Value) (E : TypeId) : vs.length = xs.length → os.length = xs.length →
      (∀ (i : Nat) (d : D) (v : Value) (o : List Nat), xs[i]? = some d → vs[i]? = some v → os[i]? = some o → ORep w F lo d v o) →
      w.heap[b]? = some (.cells cur E (0, 0)) → cur.size = cap * sz → xs.length ≤ cap → cap ≤ maxLen → Row w b 0 sz vs → lo ≤ b →
      ORep w F lo (.olist sz xs) (.slice (some ⟨b, 0, none⟩) xs.length cap) (b :: os.flatten)
  | agg (xs : List D) (vs : List Value) (os : List (List Nat)) : vs.length = xs.length → os.length = xs.length →
      (∀ (i : Nat) (d : D) (v : Value) (o : List Nat), xs[i]? = some d → vs[i]? = some v → os[i]? = some o → ORep w F lo d v o) → Ones vs →
      ORep w F lo (.agg xs) (.agg vs.toArray) os.flatten
  | tup (xs : List D) (vs : List Value) (os : List (List Nat)) : vs.length = xs.length → os.length = xs.length →
      (∀ (i : Nat) (d : D) (v : Value) (o : List Nat), xs[i]? = some d → vs[i]? = some v → os[i]? = some o → ORep w F lo d v o) →
      ORep w F lo (.tup xs) (.tuple vs.toArray) os.flatten

theorem mem_flatten_of {os : List (List Nat)} {i : Nat} {o : List Nat} (h : os[i]? = some o) {b : Nat} (hb : b ∈ o) : b ∈ os.flatten :=
  List.mem_flatten.2 ⟨o, List.mem_of_getElem? h, hb⟩

/-- What owns its blocks stays so where none of them is touched. -/
theorem ORep.evo {w w' : World} {F F' : Nat → Prop} {lo lo' : Nat} {d : D} {v : Value} {own : List Nat}
    (r : ORep w F lo d v own) (e : MemEvo w F w' F') (hk : ∀ b ∈ own, w'.heap[b]? = w.heap[b]?) (hlo : ∀ b ∈ own, lo' ≤ b) : ORep w' F' lo' d v own := by
  induction r with
  | base d v hr => exact .base d v (hr.evo e)
  | olistE sz => exact .olistE sz
  | olist sz xs vs os b cap cur E h1 h2 _ h4 h5 h6 h7 h8 h9 ih =>
    have hb := hk b (by simp)
    have hin : ∀ (i : Nat) (o : List Nat), os[i]? = some o → ∀ c ∈ o, c ∈ b :: os.flatten := fun i o ho c hc => List.mem_cons_of_mem _ (mem_flatten_of ho hc)
    exact .olist sz xs vs os b cap cur E h1 h2 (fun i d v o hd hv ho => ih i d v o hd hv ho (fun c hc => hk c (hin i o ho c hc)) (fun c hc => hlo c (hin i o ho c hc)))
      (hb.trans h4) h5 h6 h7 (h8.evo hb) (hlo b (by simp))
  | agg xs vs os h1 h2 _ h4 ih =>
    exact .agg xs vs os h1 h2 (fun i d v o hd hv ho => ih i d v o hd hv ho (fun c hc => hk c (mem_flatten_of ho hc)) (fun c hc => hlo c (mem_flatten_of ho hc))) h4
  | tup xs vs os h1 h2 _ ih =>
    exact .tup xs vs os h1 h2 (fun i d v o hd hv ho => ih i d v o hd hv ho (fun c hc => hk c (mem_flatten_of ho hc)) (fun c hc => hlo c (mem_flatten_of ho hc)))

theorem ORep.lt {w : World} {F : Nat → Prop} {lo : Nat} {d : D} {v : Value} {own : List Nat}
    (r : ORep w F lo d v own) : ∀ b ∈ own, lo ≤ b ∧ b < w.heap.size := by
  induction r with
  | base d v _ => intro b hb; cases hb
  | olistE sz => intro b hb; cases hb
  | olist sz xs vs os b cap cur E h1 h2 _ h4 h5 h6 h7 h8 h9 ih =>
    intro c hc
    rcases List.mem_cons.1 hc with rfl | hc
    · exact ⟨h9, (Array.getElem?_eq_some_iff.1 h4).1⟩
    · obtain ⟨o, ho, hc⟩ := List.mem_flatten.1 hc
      obtain ⟨i, hi⟩ := List.mem_iff_getElem?.1 ho
      have hlt : i < os.length := (List.getElem?_eq_some_iff.1 hi).1
      exact ih i (xs[i]'(by omega)) (vs[i]'(by omega)) o (List.getElem?_eq_getElem _) (List.getElem?_eq_getElem _) hi c hc
  | agg xs vs os h1 h2 _ h4 ih =>
    intro c hc
    obtain ⟨o, ho, hc⟩ := List.mem_flatten.1 hc
    obtain ⟨i, hi⟩ := List.mem_iff_getElem?.1 ho
    have hlt : i < os.length := (List.getElem?_eq_some_iff.1 hi).1
    exact ih i (xs[i]'(by omega)) (vs[i]'(by omega)) o (List.getElem?_eq_getElem _) (List.getElem?_eq_getElem _) hi c hc
  | tup xs vs os h1 h2 _ ih =>
    intro c hc
    obtain ⟨o, ho, hc⟩ := List.mem_flatten.1 hc
    obtain ⟨i, hi⟩ := List.mem_iff_getElem?.1 ho
    have hlt : i < os.length := (List.getElem?_eq_some_iff.1 hi).1
    exact ih i (xs[i]'(by omega)) (vs[i]'(by omega)) o (List.getElem?_eq_getElem _) (List.getElem?_eq_getElem _) hi c hc

/-- What a slot holds: what is never written again, or a way into what is the run's own ('h': its blocks; 'μ': where they lie, by their numbers; 'G': the next number). -/
inductive VRep (w : World) (F : Nat → Prop) (h : List Ent) (μ : Nat → Value) (G : Nat) : D → Value → Prop
  | imm (d : D) (v : Value) : Rep w F d v → VRep w F h μ G d v
  | undef : VRep w F h μ G .undef undef
  | lit (sz : Nat) (xs : List D) (vs : List Value) (b cap : Nat) : vs.length = xs.length → xs.length ≤ cap → xs.length ≤ maxLen →
      (∀ (i : Nat) (d : D) (v : Value), xs[i]? = some d → vs[i]? = some v → VRep w F h μ G d v) → Row w b 0 sz vs →
      b < w.heap.size → ¬ F b → VRep w F h μ G (.lit sz xs) (.slice (some ⟨b, 0, none⟩) xs.length cap)
  | agg (xs : List D) (vs : List Value) : vs.length = xs.length →
      (∀ (i : Nat) (d : D) (v : Value), xs[i]? = some d → vs[i]? = some v → VRep w F h μ G d v) → Ones vs → VRep w F h μ G (.agg xs) (.agg vs.toArray)
  | tup (xs : List D) (vs : List Value) : vs.length = xs.length →
      (∀ (i : Nat) (d : D) (v : Value), xs[i]? = some d → vs[i]? = some v → VRep w F h μ G d v) → VRep w F h μ G (.tup xs) (.tuple vs.toArray)
  | fn (f : Nat) (xs : List D) (vs : List Value) : vs.length = xs.length →
      (∀ (i : Nat) (d : D) (v : Value), xs[i]? = some d → vs[i]? = some v → VRep w F h μ G d v) → VRep w F h μ G (.fn f xs) (.func (.func f) #[] vs.toArray)
  | ptr (k g off : Nat) (a : Option Addr) : g < G → (find h k g ≠ none → ∃ b : Nat, (μ g = .pointer (some ⟨b, 0, none⟩) ∨ ∃ n c : Nat, μ g = .slice (some ⟨b, 0, none⟩) n c) ∧ a = some ⟨b, off, none⟩) → VRep w F h μ G (.ptr k g off) (.pointer a)
  | arr (k g : Nat) (a : Option Addr) (n c : Nat) : g < G → (find h k g ≠ none → .slice a n c = μ g) → VRep w F h μ G (.arr k g) (.slice a n c)
  | row (k g x : Nat) (a : Option Addr) (n c : Nat) : g < G → (∀ d, cellAt h k g x = some d → isNilD d = false ∧ (isOl d = true → ∃ b n' c' : Nat, μ g = .slice (some ⟨b, 0, none⟩) n' c' ∧ w.cell? ⟨b, x, none⟩ = some (.slice a n c))) → VRep w F h μ G (.row k g x) (.slice a n c)
  | rptr (k g x y : Nat) (a : Option Addr) : g < G → (∀ d, cellAt h k g x = some d → isNilD d = false ∧ (isOl d = true → ∃ b n' c' b' n c : Nat, μ g = .slice (some ⟨b, 0, none⟩) n' c' ∧ w.cell? ⟨b, x, none⟩ = some (.slice (some ⟨b', 0, none⟩) n c) ∧ a = some ⟨b', y, none⟩)) → VRep w F h μ G (.rptr k g x y) (.pointer a)

/-- How memory and what is known of it may go on. -/
structure Evo (w : World) (F : Nat → Prop) (h : List Ent) (μ : Nat → Value) (G : Nat) (w' : World) (F' : Nat → Prop) (h' : List Ent) (μ' : Nat → Value) (G' : Nat) : Prop where
  mm : MemEvo w F w' F'
  gen : G ≤ G'
  mu : ∀ g, g < G → μ' g = μ g
  ent : ∀ k g, g < G → find h' k g ≠ none → find h k g ≠ none
  row : ∀ k g x d', g < G → cellAt h' k g x = some d' → ∃ d, cellAt h k g x = some d ∧ (isNilD d = false → isNilD d' = false ∧ (isOl d' = true → isOl d = true ∧ ∀ b n c : Nat, μ g = .slice (some ⟨b, 0, none⟩) n c → w'.cell? ⟨b, x, none⟩ = w.cell? ⟨b, x, none⟩))

theorem Evo.refl (w : World) (F : Nat → Prop) (h : List Ent) (μ : Nat → Value) (G : Nat) : Evo w F h μ G w F h μ G :=
  ⟨.refl w F, Nat.le_refl _, fun _ _ => rfl, fun _ _ _ h => h, fun _ _ _ d _ h => ⟨d, h, fun hn => ⟨hn, fun ho => ⟨ho, fun _ _ _ _ => rfl⟩⟩⟩⟩

theorem Evo.trans {w w' w'' : World} {F F' F'' : Nat → Prop} {h h' h'' : List Ent} {μ μ' μ'' : Nat → Value} {G G' G'' : Nat}
    (e : Evo w F h μ G w' F' h' μ' G') (e' : Evo w' F' h' μ' G' w'' F'' h'' μ'' G'') : Evo w F h μ G w'' F'' h'' μ'' G'' where
  mm := e.mm.trans e'.mm
  gen := Nat.le_trans e.gen e'.gen
  mu := fun g hg => (e'.mu g (Nat.lt_of_lt_of_le hg e.gen)).trans (e.mu g hg)
  ent := fun k g hg hh => e.ent k g hg (e'.ent k g (Nat.lt_of_lt_of_le hg e.gen) hh)
  row := fun k g x d'' hg hh => by
    obtain ⟨d', h1, h2⟩ := e'.row k g x d'' (Nat.lt_of_lt_of_le hg e.gen) hh
    obtain ⟨d, h3, h4⟩ := e.row k g x d' hg h1
    refine ⟨d, h3, fun hn => ?_⟩
    obtain ⟨h5, h6⟩ := h4 hn
    obtain ⟨h7, h8⟩ := h2 h5
    refine ⟨h7, fun ho => ?_⟩
    obtain ⟨q1, q2⟩ := h8 ho
    obtain ⟨q3, q4⟩ := h6 q1
    exact ⟨q3, fun b n c hm => (q2 b n c ((e.mu g hg).trans hm)).trans (q4 b n c hm)⟩

theorem VRep.evo {w w' : World} {F F' : Nat → Prop} {h h' : List Ent} {μ μ' : Nat → Value} {G G' : Nat} {d : D} {v : Value}
    (r : VRep w F h μ G d v) (e : Evo w F h μ G w' F' h' μ' G') : VRep w' F' h' μ' G' d v := by
  induction r with
  | imm d v r => exact .imm d v (r.evo e.mm)
  | undef => exact .undef
  | lit sz xs vs b cap h1 h2 h3 _ h5 h6 h7 ih =>
    exact .lit sz xs vs b cap h1 h2 h3 ih (h5.evo (e.mm.mem b h6 h7)) (Nat.lt_of_lt_of_le h6 e.mm.size) (fun hf => h7 (e.mm.own b hf h6))
  | agg xs vs h1 _ h3 ih => exact .agg xs vs h1 ih h3
  | tup xs vs h1 _ ih => exact .tup xs vs h1 ih
  | fn f xs vs h1 _ ih => exact .fn f xs vs h1 ih
  | ptr k g off a h1 h2 => exact .ptr k g off a (Nat.lt_of_lt_of_le h1 e.gen) (fun hf => by rw [e.mu g h1]; exact h2 (e.ent k g h1 hf))
  | arr k g a n c h1 h2 => exact .arr k g a n c (Nat.lt_of_lt_of_le h1 e.gen) (fun hf => by rw [e.mu g h1]; exact h2 (e.ent k g h1 hf))
  | row k g x a n c h1 h2 =>
    refine .row k g x a n c (Nat.lt_of_lt_of_le h1 e.gen) (fun d' hd' => ?_)
    obtain ⟨d, h3, h4⟩ := e.row k g x d' h1 hd'
    obtain ⟨q1, q2⟩ := h2 d h3
    obtain ⟨h5, h6⟩ := h4 q1
    refine ⟨h5, fun ho => ?_⟩
    obtain ⟨h7, h8⟩ := h6 ho
    obtain ⟨b, n', c', hm, hc⟩ := q2 h7
    exact ⟨b, n', c', (e.mu g h1).trans hm, (h8 b n' c' hm).trans hc⟩
  | rptr k g x y a h1 h2 =>
    refine .rptr k g x y a (Nat.lt_of_lt_of_le h1 e.gen) (fun d' hd' => ?_)
    obtain ⟨d, h3, h4⟩ := e.row k g x d' h1 hd'
    obtain ⟨q1, q2⟩ := h2 d h3
    obtain ⟨h5, h6⟩ := h4 q1
    refine ⟨h5, fun ho => ?_⟩
    obtain ⟨h7, h8⟩ := h6 ho
    obtain ⟨b, n', c', b', n, c, hm, hc, ha⟩ := q2 h7
    exact ⟨b, n', c', b', n, c, (e.mu g h1).trans hm, (h8 b n' c' hm).trans hc, ha⟩

theorem rowAt_cell {h : List Ent} {k g x s : Nat} {ys : List D} (hr : rowAt h k g x = some (s, ys)) : cellAt h k g x = some (.olist s ys) := by
  unfold rowAt at hr
  unfold cellAt
  split at hr
  · rename_i b hf
    cases b with
    | cells cs => simp [rowB] at hr
    | arr sz xs =>
      simp only [rowB] at hr
      split at hr
      · rename_i s' ys' hx
        injection hr with hr
        injection hr with h1 h2
        subst h1; subst h2
        simp only [cellB]; exact hx
      · cases hr
  · cases hr

end Go.PS
end

section
-- The clean run of a function's text: what each operation does to clean values.
set_option linter.unusedVariables false
set_option linter.unusedSimpArgs false
namespace Go.PS

inductive Kd where
  | int (k : IntKind) | bool | str | slice (e : Nat) | struct (fs : List (Nat × Nat)) | ptr (e : Nat) | func | other

structure Ty where
  kd : Kd
  sz : Nat
  bytes : Nat
  zero : Option D

inductive Opd where
  | t (n : Nat)
  | c (d : D)
  | f (n : Nat)

inductive AOp where
  | mv (x : Opd)
  | pick (c a b : Opd)
  | box (T : Nat) (x : Opd)
  | alloc (T : Nat)
  | build (T : Nat) (ps : List (Nat × Opd))
  | bslice (T n : Nat) (ps : List (Nat × Opd))
  | load (T : Nat) (x : Opd)
  | store (T : Nat) (x v : Opd)
  | nilck (x : Opd)
  | bin (op : BinOp) (T : Nat) (x y : Opd)
  | un (op : UnOp) (x : Opd)
  | conv (S T : Nat) (x : Opd)
  | mkfn (f : Nat) (caps : List Opd)
  | make (T : Nat) (l c : Opd)
  | slice (T : Nat) (x : Opd) (lo hi : Option Opd)
  | faddr (T : Nat) (x : Opd) (i : Nat)
  | field (T : Nat) (x : Opd) (i : Nat)
  | iaddr (T : Nat) (x i : Opd)
  | index (T : Nat) (x i : Opd)
  | ext (x : Opd) (i : Nat)
  | len (T : Nat) (x : Opd)
  | app (T S : Nat) (x y : Opd)
  | copy (T S : Nat) (x y : Opd)
  | clear (T : Nat) (x : Opd)
  | max (x y : Opd)
  | min (x y : Opd)
  | call (f : Opd) (args : List Opd)

/-- An operation: its slot, what it is, the type of what it gives, its guard (a slot, what it must hold), a word for the clean run. -/
structure AOper where
  d : Option Nat
  o : AOp
  T : Nat
  gd : Option (Nat × Bool)
  fl : Nat

/-- In which orders a region is gone through: one operation that no order hangs on, or each of some; 'stop' ends the list of some. -/
inductive Ex where
  | fin
  | one (i : Nat) (t : Ex)
  | imm (i : Nat) (t : Ex)
  | alt (i : Nat) (t r : Ex)
  | stop

inductive AC where
  | skip
  | ret
  | exit (id : Nat)
  | region (draw : Bool) (ops : List AOper) (keep : Option (List Nat))
  | seq (a b : AC)
  | cond (c : Opd) (a b : AC)
  | block (id : Nat) (a : AC)
  | loop (keep : List Nat) (kh : List Nat) (a : AC)
  | expl (ops : List AOper) (tr : Ex) (keep kh : List Nat)
  | bad

/-- Seen as what is never written again: owned lists as lists. -/
def imm : Nat → D → D
  | n + 1, .olist sz xs => .list sz (xs.map (imm n))
  | n + 1, .agg xs => .agg (xs.map (imm n))
  | n + 1, .tup xs => .tup (xs.map (imm n))
  | _, .bool b => .bool b
  | _, .int k n => .int k n
  | _, .str s => .str s
  | _, .nil => .nil
  | _, .list sz xs => .list sz xs
  | _, .fn f c => .fn f c
  | _, .iptr d => .iptr d
  | _, _ => .junk

/-- The list in a cell, as it is seen. -/
def rowD (o : Option (Nat × List D)) (n : Nat) : D := match o with | some (s, ys) => .list s (ys.map (imm n)) | none => .junk

/-- As a call sees an argument: what is the caller's own reads as a list, a variable of the caller's as what it holds. -/
def der (h : List Ent) : Nat → D → D
  | n + 1, .arr k g => match find h k g with | some (.arr sz xs) => .list sz (xs.map (imm n)) | _ => .junk
  | n + 1, .ptr k g 0 => match find h k g with | some (.cells [c]) => .iptr (der h n c) | some (.cells cs) => .iptr (.agg (cs.map (der h n))) | _ => .junk
  | n + 1, .row k g x => rowD (rowAt h k g x) n
  | n + 1, .lit sz xs => .list sz (xs.map (der h n))
  | n + 1, .agg xs => .agg (xs.map (der h n))
  | n + 1, .tup xs => .tup (xs.map (der h n))
  | n + 1, .fn f xs => .fn f (xs.map (der h n))
  | _, .nil => .list 1 []
  | _, .bool b => .bool b
  | _, .int k n => .int k n
  | _, .str s => .str s
  | _, .list sz xs => .list sz xs
  | _, .iptr d => .iptr d
  | _, _ => .junk

/-- The same where the call may hand back what it was given: nothing of the caller's own. -/
def derS : Nat → D → D
  | n + 1, .lit sz xs => .list sz (xs.map (derS n))
  | n + 1, .agg xs => .agg (xs.map (derS n))
  | n + 1, .tup xs => .tup (xs.map (derS n))
  | n + 1, .fn f xs => .fn f (xs.map (derS n))
  | _, .nil => .list 1 []
  | _, .bool b => .bool b
  | _, .int k n => .int k n
  | _, .str s => .str s
  | _, .list sz xs => .list sz xs
  | _, .iptr d => .iptr d
  | _, _ => .junk

/-- What is handed back or laid into a list, with what it owns. -/
def own (h : List Ent) : Nat → D → D
  | n + 1, .arr k g => match find h k g with | some (.arr sz xs) => .olist sz xs | _ => .junk
  | n + 1, .row k g x => match rowAt h k g x with | some (s, ys) => .olist s ys | none => .junk
  | n + 1, .agg xs => .agg (xs.map (own h n))
  | n + 1, .tup xs => .tup (xs.map (own h n))
  | _, .nil => .olist 1 []
  | _, .bool b => .bool b
  | _, .int k n => .int k n
  | _, .str s => .str s
  | _, .list sz xs => .list sz xs
  | _, .fn f c => .junk
  | _, .iptr d => .iptr d
  | _, _ => .junk

def keys : Nat → D → List Nat
  | n + 1, .arr k g => [k]
  | n + 1, .row k g x => [k]
  | n + 1, .agg xs => (xs.map (keys n)).flatten
  | n + 1, .tup xs => (xs.map (keys n)).flatten
  | _, _ => []

inductive OwnedD : D → Prop
  | bool (b : Bool) : OwnedD (.bool b)
  | int (k : IntKind) (n : Int) : OwnedD (.int k n)
  | str (s : List UInt8) : OwnedD (.str s)
  | olist (sz : Nat) (xs : List D) : (∀ x ∈ xs, OwnedD x) → OwnedD (.olist sz xs)
  | agg (xs : List D) : (∀ x ∈ xs, OwnedD x) → OwnedD (.agg xs)
  | tup (xs : List D) : (∀ x ∈ xs, OwnedD x) → OwnedD (.tup xs)

/-- What a call has handed back becomes the caller's own: a key for each list. -/
def thaw : Nat → Nat → Nat → D → D × List Ent × Nat × Nat
  | n + 1, k, g, .olist sz xs => (.arr k g, [⟨k, g, .arr sz xs⟩], k + 1, g + 1)
  | n + 1, k, g, .agg xs => let r := go n k g xs; (.agg r.1, r.2)
  | n + 1, k, g, .tup xs => let r := go n k g xs; (.tup r.1, r.2)
  | _, k, g, .bool b => (.bool b, [], k, g)
  | _, k, g, .int kd n => (.int kd n, [], k, g)
  | _, k, g, .str s => (.str s, [], k, g)
  | _, k, g, _ => (.junk, [], k, g)
where
  go (n k g : Nat) : List D → List D × List Ent × Nat × Nat
  | [] => ([], [], k, g)
  | x :: xs => let r := thaw n k g x; let s := go n r.2.2.1 r.2.2.2 xs; (r.1 :: s.1, r.2.1 ++ s.2.1, s.2.2)

def hdels : List Ent → List Nat → List Ent
  | h, [] => h
  | h, k :: ks => hdels (hdel h k) ks

def ev (t : List (Nat × D)) : Opd → D
  | .t n => getT t n
  | .c d => d
  | .f n => .fn n []

def evL (t : List (Nat × D)) : List Opd → List D
  | [] => []
  | x :: xs => ev t x :: evL t xs

/-- Where a result lies: in a slot, or in a variable of a struct's type whose address is in a slot. -/
inductive RV where
  | t (n : Nat)
  | c (n T : Nat)

structure FnA where
  nt : Nat
  res : List RV
  ac : AC

structure Ctx where
  P : Program
  tt : Nat → Ty
  inl : Nat → Option FnA

def isPtr0 : D → Bool
  | .ptr 0 0 0 => true
  | _ => false

/-- An argument of a call: never written again, or the one block that the call may write to. -/
def ARep (w : World) (F : Nat → Prop) (B : Option Nat) (d : D) (v : Value) : Prop :=
  Rep w F d v ∨ (d = .ptr 0 0 0 ∧ ∃ b : Nat, B = some b ∧ v = .pointer (some ⟨b, 0, none⟩))

def IoIn (w : World) (F : Nat → Prop) (B : Option Nat) : Option (List D) → Prop
  | none => B = none
  | some cs => ∃ (b : Nat) (bv : List Value) (E : TypeId), B = some b ∧ F b ∧ w.heap[b]? = some (.cells bv.toArray E (0, 0)) ∧ bv.length = cs.length ∧
      ∀ (i : Nat) (d : D) (v : Value), cs[i]? = some d → bv[i]? = some v → v.oneCell' = true ∧ Rep w F d v

def IoOut (w : World) (F : Nat → Prop) (B : Option Nat) (cs : List D) : Option (List D) → Prop
  | none => True
  | some _ => ∃ (b : Nat) (bv : List Value) (E : TypeId), B = some b ∧ w.heap[b]? = some (.cells bv.toArray E (0, 0)) ∧ bv.length = cs.length ∧
      ∀ (i : Nat) (d : D) (v : Value), cs[i]? = some d → bv[i]? = some v → v.oneCell' = true ∧ Rep w F d v

/-- A function with a text of its own. -/
def Enters (P : Program) (f : Nat) : Prop := ∃ fn, P.funcs[f]? = some fn ∧ fn.body.isNone = false ∧ (fn.name == "runtime.NumGoroutine") = false

/-- What is proved of a call, whatever the memory: its arguments read as 'ds', what it hands back reads as some 'r' with 'R r', nothing that was there has changed (but the one block that it was handed to write to: 'io').
'fresh': what it hands back lies in new memory, each list alone. -/
def PC (P : Program) (f : Nat) (ds : List D) (io : Option (List D)) (fresh : Bool) (R : D → List D → Prop) : Prop :=
  Enters P f ∧ ∀ (w : World) (vs : List Value) (F : Nat → Prop) (B : Option Nat), (∀ b, F b → b < w.heap.size) → vs.length = ds.length →
    (∀ (i : Nat) (d : D) (v : Value), ds[i]? = some d → vs[i]? = some v → ARep w F B d v) → IoIn w F B io →
    Calls P f vs.toArray w fun e w' => ∃ (v : Value) (r : D) (cs' : List D) (own : List Nat), e = .returned v ∧ R r cs' ∧ (fresh = true → OwnedD r) ∧ w.grownBy w' B ∧
      ORep w' (fun b => if fresh = true then b < w.heap.size else F b) w.heap.size r v own ∧ own.Nodup ∧ IoOut w' F B cs' io

def idxK (xs : List D) (n : Int) (K : D → Prop) : Prop := 0 ≤ n ∧ n < xs.length ∧ K (xs.getD n.toNat .junk)

def bAnd (k : IntKind) (a b : Int) : Int := k.wrap ((BitVec.ofInt k.bits a &&& BitVec.ofInt k.bits b).toNat : Nat)
def bOr (k : IntKind) (a b : Int) : Int := k.wrap ((BitVec.ofInt k.bits a ||| BitVec.ofInt k.bits b).toNat : Nat)
def bXor (k : IntKind) (a b : Int) : Int := k.wrap ((BitVec.ofInt k.bits a ^^^ BitVec.ofInt k.bits b).toNat : Nat)
def bAndNot (k : IntKind) (a b : Int) : Int := k.wrap ((BitVec.ofInt k.bits a &&& ~~~(BitVec.ofInt k.bits b)).toNat : Nat)
def bShl (k : IntKind) (a b : Int) : Int := k.wrap (a * 2 ^ min b.toNat k.bits)
def bShr (k : IntKind) (a b : Int) : Int := a.fdiv (2 ^ min b.toNat k.bits)

def big : Nat := 1099511627776

def binI (op : BinOp) (k : IntKind) (a b : Int) (K : D → Prop) : Prop :=
  match op with
  | .add => K (.int k (k.wrap (a + b)))
  | .sub => K (.int k (k.wrap (a - b)))
  | .mul => K (.int k (k.wrap (a * b)))
  | .quo => b ≠ 0 ∧ K (.int k (k.wrap (a.tdiv b)))
  | .rem => b ≠ 0 ∧ K (.int k (a.tmod b))
  | .and => K (.int k (bAnd k a b))
  | .or => K (.int k (bOr k a b))
  | .xor => K (.int k (bXor k a b))
  | .andNot => K (.int k (bAndNot k a b))
  | .eql => K (.bool (a == b))
  | .neq => K (.bool (a != b))
  | .lss => K (.bool (decide (a < b)))
  | .leq => K (.bool (decide (a ≤ b)))
  | .gtr => K (.bool (decide (a > b)))
  | .geq => K (.bool (decide (a ≥ b)))
  | .shl => 0 ≤ b ∧ K (.int k (bShl k a b))
  | .shr => 0 ≤ b ∧ K (.int k (bShr k a b))

def binS (op : BinOp) (a b : List UInt8) (K : D → Prop) : Prop :=
  match op with
  | .add => a.length + b.length ≤ big ∧ K (.str (a ++ b))
  | .eql => K (.bool (a == b))
  | .neq => K (.bool (a != b))
  | _ => False

def binL (op : BinOp) (a b : Bool) (K : D → Prop) : Prop :=
  match op with
  | .eql => K (.bool (a == b))
  | .neq => K (.bool (a != b))
  | _ => False

/-- A list that is not empty beside 'nil'. -/
def binN (op : BinOp) (K : D → Prop) : Prop :=
  match op with
  | .eql => K (.bool false)
  | .neq => K (.bool true)
  | _ => False

def Kd.isSlice : Kd → Bool
  | .slice _ => true
  | _ => false

/-- 'kd': what the operands' type is (asked of bools alone). -/
def binK (kd : Kd) (op : BinOp) (x y : D) (K : D → Prop) : Prop :=
  match x, y with
  | .int k a, .int k' b => k = k' ∧ binI op k a b K
  | .str a, .str b => binS op a b K
  | .bool a, .bool b => kd = .bool ∧ binL op a b K
  | .list _ (_ :: _), .nil => kd.isSlice = true ∧ binN op K
  | _, _ => False

def isAgg : D → Bool
  | .agg _ => true
  | _ => false

/-- One cell each. -/
def isCell : D → Bool
  | .bool _ | .int .. | .str _ | .nil | .list .. | .lit .. | .fn .. | .ptr .. | .iptr _ | .arr .. | .row .. | .rptr .. => true
  | _ => false

def cellsD : D → List D
  | .agg xs => xs
  | d => [d]

def pureD : Nat → D → Bool
  | _, .bool _ | _, .int .. | _, .str _ | _, .nil | _, .list .. | _, .iptr _ => true
  | n + 1, .agg xs => xs.all (pureD n)
  | n + 1, .tup xs => xs.all (pureD n)
  | n + 1, .fn _ xs => xs.all (pureD n)
  | _, _ => false

def Ty.isStruct (t : Ty) : Bool := match t.kd with | .struct _ => true | _ => false
def Ty.known (t : Ty) : Bool := match t.kd with | .other => false | _ => true
def Ty.flat (t : Ty) : Bool := match t.kd with | .struct _ | .other => false | _ => true

/-- Has a value the cells of a variable of the type? -/
def fitsT (t : Ty) : D → Prop
  | .agg xs => t.isStruct = true ∧ xs.length = t.sz
  | d => t.flat = true ∧ t.sz = 1 ∧ isCell d = true

def fillP (tt : Nat → Ty) (fs : List (Nat × Nat)) (t : List (Nat × D)) : List D → List (Nat × Opd) → Option (List D)
  | cs, [] => some cs
  | cs, (i, x) :: ps => match fs[i]? with
    | some (off, T) => if (tt T).sz = 1 then (if isCell (ev t x) = true then (if off < cs.length then fillP tt fs t (cs.set off (ev t x)) ps else none) else none) else none
    | none => none

def esz (tt : Nat → Ty) (T : Nat) : Option Nat := match (tt T).kd with | .slice e => if (tt e).known = true then some (tt e).sz else none | _ => none
def elemT (tt : Nat → Ty) (T : Nat) : Option Ty := match (tt T).kd with | .slice e => if (tt e).known = true then some (tt e) else none | _ => none
def ezero (tt : Nat → Ty) (T : Nat) : Option D := match (tt T).kd with | .slice e => (tt e).zero | _ => none

def optI (t : List (Nat × D)) (dflt : Int) (o : Option Opd) (K : Int → Prop) : Prop :=
  match o with
  | none => K dflt
  | some x => match ev t x with | .int _ n => K n | _ => False

def lenD (h : List Ent) : D → Option Nat
  | .list _ xs => some xs.length
  | .lit _ xs => some xs.length
  | .nil => some 0
  | .arr k g => match find h k g with | some (.arr _ xs) => some xs.length | _ => none
  | .row k g x => match rowAt h k g x with | some (_, ys) => some ys.length | none => none
  | _ => none

def scal : D → Bool
  | .bool _ | .int .. | .str _ => true
  | _ => false

def scalK (xs : List D) (off : Nat) (K : D → Prop) : Prop := off < xs.length ∧ scal (xs.getD off .junk) = true ∧ K (xs.getD off .junk)

/-- A list of the run's own that is never written again from here on ('2'). -/
def frz (fl : Nat) (K : D → List Ent → Nat → Prop) : D → List Ent → Nat → Prop :=
  match fl with
  | 2 => fun d h g => match d with
    | .arr j γ => match find h j γ with
      | some (.arr sz xs) => K (.list sz (xs.map (imm 5))) (hdel h j) g
      | _ => False
    | _ => False
  | _ => K

/-- A list of the run's own laid into an empty cell of another one. -/
def moveK (j g sz : Nat) (xs : List D) (off : Nat) (v : D) (σ : St) (K : D → List Ent → Nat → Prop) : Prop :=
  match v with
  | .arr j' g' => match find σ.h j' g' with
    | some (.arr s ys) => j' ≠ j ∧ isNilD (xs.getD off .junk) = true ∧ K .undef (hset (hdel σ.h j') j g (.arr sz (xs.set off (.olist s ys)))) σ.g
    | _ => False
  | _ => False

/-- A list in a cell of the run's own, looked at ('1') or taken out as what is never written again ('2'). -/
def rowK (fl j g : Nat) (xs : List D) (off : Nat) (σ : St) (K : D → List Ent → Nat → Prop) : Prop :=
  match xs[off]? with
  | some (.olist s ys) => match fl with
    | 1 => K (.row j g off) σ.h σ.g
    | _ => K (.list s (ys.map (imm 5))) (hset σ.h j g (.arr 1 (xs.set off (.list s (ys.map (imm 5)))))) σ.g
  | _ => False

/-- A list in a cell of the run's own, written to. -/
def rowSet (xs : List D) (x s : Nat) (ys : List D) (y : Nat) (v : D) : Blk := .arr 1 (xs.set x (.olist s (ys.set y v)))

/-- Every operation but a call. 'k': the key for what the operation makes. -/
def opK (tt : Nat → Ty) (k : Nat) (a : AOper) (σ : St) (K : D → List Ent → Nat → Prop) : Prop :=
  match a.o with
  | .mv x =>
    match a.fl with
    | 0 => K (ev σ.t x) σ.h σ.g
    | 1 => match ev σ.t x, esz tt a.T with
      | .nil, some sz => K (.arr k σ.g) (⟨k, σ.g, .arr sz []⟩ :: hdel σ.h k) (σ.g + 1)
      | _, _ => False
    | _ => match ev σ.t x with
      | .arr j g => match find σ.h j g with
        | some (.arr sz xs) => K (.list sz (xs.map (imm 5))) (hdel σ.h j) σ.g
        | _ => False
      | _ => False
  | .pick c x y => match ev σ.t c with | .bool b => K (if b then ev σ.t x else ev σ.t y) σ.h σ.g | _ => False
  | .box T x =>
    match a.fl with
    | 0 => pureD 5 (ev σ.t x) = true ∧ fitsT (tt T) (ev σ.t x) ∧ K (.iptr (ev σ.t x)) σ.h σ.g
    | _ => fitsT (tt T) (ev σ.t x) ∧ K (.ptr k σ.g 0) (⟨k, σ.g, .cells (cellsD (ev σ.t x))⟩ :: hdel σ.h k) (σ.g + 1)
  | .alloc T =>
    match (tt T).zero with
    | some z => fitsT (tt T) z ∧ K (.ptr k σ.g 0) (⟨k, σ.g, .cells (cellsD z)⟩ :: hdel σ.h k) (σ.g + 1)
    | none => False
  | .build T ps =>
    match (tt T).kd, (tt T).zero with
    | .struct fs, some (.agg zs) => match fillP tt fs σ.t zs ps with | some cs => K (.agg cs) σ.h σ.g | none => False
    | _, _ => False
  | .bslice T n ps =>
    match elemT tt T with
    | some E =>
      ps.map Prod.fst = List.range n ∧ n ≤ 1000 ∧ E.sz ≤ 16 ∧ E.zero.isSome = true ∧ (∀ x ∈ ps.map (fun p => ev σ.t p.2), fitsT E x) ∧
      match a.fl with
      | 0 => (∀ x ∈ ps.map (fun p => ev σ.t p.2), pureD 5 x = true) ∧ K (.list E.sz (ps.map fun p => ev σ.t p.2)) σ.h σ.g
      | 1 => (∀ x ∈ ps.map (fun p => ev σ.t p.2), pureD 5 x = true) ∧ K (.arr k σ.g) (⟨k, σ.g, .arr E.sz (ps.map fun p => ev σ.t p.2)⟩ :: hdel σ.h k) (σ.g + 1)
      | _ => K (.lit E.sz (ps.map fun p => ev σ.t p.2)) σ.h σ.g
    | none => False
  | .load T x =>
    match ev σ.t x with
    | .iptr d => fitsT (tt T) d ∧ K d σ.h σ.g
    | .ptr j g off => match find σ.h j g with
      | some (.cells cs) => if (tt T).isStruct then off + (tt T).sz ≤ cs.length ∧ K (.agg ((cs.drop off).take (tt T).sz)) σ.h σ.g else (tt T).flat = true ∧ off < cs.length ∧ K (cs.getD off .junk) σ.h σ.g
      | some (.arr sz xs) => sz = 1 ∧ (tt T).flat = true ∧ match a.fl with
        | 0 => scalK xs off fun d => K d σ.h σ.g
        | fl => rowK fl j g xs off σ K
      | none => False
    | .rptr j g x y => match rowAt σ.h j g x with
      | some (s, ys) => s = 1 ∧ (tt T).flat = true ∧ scalK ys y fun d => K d σ.h σ.g
      | none => False
    | _ => False
  | .store T x v =>
    match ev σ.t x with
    | .ptr j g off => fitsT (tt T) (ev σ.t v) ∧ match find σ.h j g with
      | some (.cells cs) => off + (cellsD (ev σ.t v)).length ≤ cs.length ∧ K .undef (hset σ.h j g (.cells (cs.take off ++ cellsD (ev σ.t v) ++ cs.drop (off + (cellsD (ev σ.t v)).length)))) σ.g
      | some (.arr sz xs) => sz = 1 ∧ (tt T).flat = true ∧ off < xs.length ∧ match a.fl with
        | 0 => pureD 5 (ev σ.t v) = true ∧ (isNilD (ev σ.t v) = false ∨ isNilD (xs.getD off .junk) = true) ∧ K .undef (hset σ.h j g (.arr sz (xs.set off (ev σ.t v)))) σ.g
        | _ => moveK j g sz xs off (ev σ.t v) σ K
      | none => False
    | .rptr j g x y => fitsT (tt T) (ev σ.t v) ∧ match find σ.h j g with
      | some (.arr sz xs) => match rowB (.arr sz xs) x with
        | some (s, ys) => sz = 1 ∧ s = 1 ∧ (tt T).flat = true ∧ y < ys.length ∧ pureD 5 (ev σ.t v) = true ∧ K .undef (hset σ.h j g (rowSet xs x s ys y (ev σ.t v))) σ.g
        | none => False
      | _ => False
    | _ => False
  | .nilck x => match ev σ.t x with | .iptr d => K (.iptr d) σ.h σ.g | .fn f c => K (.fn f c) σ.h σ.g | .ptr j g o => (find σ.h j g).isSome = true ∧ K (.ptr j g o) σ.h σ.g | _ => False
  | .bin op T x y => binK (tt T).kd op (ev σ.t x) (ev σ.t y) fun d => K d σ.h σ.g
  | .un op x =>
    match op, ev σ.t x with
    | .not, .bool b => K (.bool !b) σ.h σ.g
    | .neg, .int kd n => K (.int kd (kd.wrap (0 - n))) σ.h σ.g
    | _, _ => False
  | .conv S T x =>
    match (tt T).kd, ev σ.t x with
    | .int kd, .int _ n => (tt S).flat = true ∧ K (.int kd (kd.wrap n)) σ.h σ.g
    | _, _ => False
  | .mkfn f caps => K (.fn f (evL σ.t caps)) σ.h σ.g
  | .make T l c =>
    match elemT tt T, ezero tt T, ev σ.t l, ev σ.t c with
    | some E, some z, .int _ n, .int _ m => 0 ≤ n ∧ n = m ∧ n ≤ big ∧ fitsT E z ∧ pureD 5 z = true ∧ K (.arr k σ.g) (⟨k, σ.g, .arr E.sz (List.replicate n.toNat z)⟩ :: hdel σ.h k) (σ.g + 1)
    | _, _, _, _ => False
  | .slice T x lo hi =>
    match ev σ.t x with
    | .arr j g => match find σ.h j g with
      | some (.arr sz xs) => a.fl = 2 ∧ some sz = esz tt T ∧ optI σ.t 0 lo fun l => optI σ.t xs.length hi fun u => 0 ≤ l ∧ l ≤ u ∧ u ≤ xs.length ∧ K (.list sz (((xs.map (imm 5)).take u.toNat).drop l.toNat)) (hdel σ.h j) σ.g
      | _ => False
    | .list sz xs => some sz = esz tt T ∧ optI σ.t 0 lo fun l => optI σ.t xs.length hi fun u => 0 ≤ l ∧ l ≤ u ∧ u ≤ xs.length ∧ K (.list sz ((xs.take u.toNat).drop l.toNat)) σ.h σ.g
    | .str s => (match (tt T).kd with | .str => True | _ => False) ∧ optI σ.t 0 lo fun l => optI σ.t s.length hi fun u => 0 ≤ l ∧ l ≤ u ∧ u ≤ s.length ∧ K (.str ((s.take u.toNat).drop l.toNat)) σ.h σ.g
    | _ => False
  | .faddr T x i =>
    match (tt T).kd with
    | .struct fs => match fs[i]? with
      | some (off, E) => (tt E).sz = 1 ∧ (tt E).flat = true ∧ match ev σ.t x with
        | .iptr (.agg ds) => off < ds.length ∧ K (.iptr (ds.getD off .junk)) σ.h σ.g
        | .ptr j g o => (find σ.h j g).isSome = true ∧ K (.ptr j g (o + off)) σ.h σ.g
        | _ => False
      | none => False
    | _ => False
  | .field T x i =>
    match (tt T).kd with
    | .struct fs => match fs[i]? with
      | some (off, E) => (tt E).sz = 1 ∧ (tt E).flat = true ∧ match ev σ.t x with
        | .agg ds => off < ds.length ∧ K (ds.getD off .junk) σ.h σ.g
        | _ => False
      | none => False
    | _ => False
  | .iaddr T x i =>
    match ev σ.t i with
    | .int _ n => match ev σ.t x with
      | .list sz xs => some sz = esz tt T ∧ idxK xs n fun d => K (.iptr d) σ.h σ.g
      | .arr j g => match find σ.h j g with
        | some (.arr sz xs) => sz = 1 ∧ esz tt T = some 1 ∧ 0 ≤ n ∧ n < xs.length ∧ K (.ptr j g n.toNat) σ.h σ.g
        | _ => False
      | .row j g r => match rowAt σ.h j g r with
        | some (s, ys) => s = 1 ∧ esz tt T = some 1 ∧ 0 ≤ n ∧ n < ys.length ∧ K (.rptr j g r n.toNat) σ.h σ.g
        | none => False
      | _ => False
    | _ => False
  | .index T x i =>
    match ev σ.t x, ev σ.t i, (tt T).kd with
    | .str s, .int _ n, .str => 0 ≤ n ∧ n < s.length ∧ K (.int .u8 ((s.getD n.toNat 0).toNat : Int)) σ.h σ.g
    | _, _, _ => False
  | .ext x i => match ev σ.t x with | .tup xs => i < xs.length ∧ K (xs.getD i .junk) σ.h σ.g | _ => False
  | .len T x =>
    match (tt T).kd with
    | .str => match ev σ.t x with | .str s => K (.int .i64 s.length) σ.h σ.g | _ => False
    | .slice _ => match lenD σ.h (ev σ.t x) with | some n => K (.int .i64 n) σ.h σ.g | none => False
    | _ => False
  | .app T S x y =>
    match esz tt T with
    | none => False
    | some sz => S = T ∧ (ezero tt T).isSome = true ∧
      match ev σ.t y with
      | .nil => appK k sz σ (ev σ.t x) [] [] (frz a.fl K)
      | .list s ys => s = sz ∧ appK k sz σ (ev σ.t x) ys [] (frz a.fl K)
      | .lit s ys => s = sz ∧ ((ys.map (keys 5)).flatten).Nodup ∧ appK k sz σ (ev σ.t x) (ys.map (own σ.h 5)) ((ys.map (keys 5)).flatten) (frz a.fl K)
      | .arr j g => match find σ.h j g with
        | some (.arr s ys) => s = sz ∧ (∀ d ∈ ys, scal d = true) ∧ (match ev σ.t x with | .arr j' _ => j' ≠ j | _ => True) ∧ appK k sz σ (ev σ.t x) ys [] (frz a.fl K)
        | _ => False
      | _ => False
  | .max x y => match ev σ.t x, ev σ.t y with | .int kd n, .int _ m => K (.int kd (if m > n then m else n)) σ.h σ.g | _, _ => False
  | .min x y => match ev σ.t x, ev σ.t y with | .int kd n, .int _ m => K (.int kd (if m < n then m else n)) σ.h σ.g | _, _ => False
  | .copy T S x y => False
  | .clear T x => False
  | .call f args => False
where
  /-- 'append': what is appended ('es'), and the keys of what of it was the run's own ('ks'). -/
  appK (k sz : Nat) (σ : St) (x : D) (es : List D) (ks : List Nat) (K : D → List Ent → Nat → Prop) : Prop :=
    match x with
    | .nil => es.length ≤ big ∧ K (.arr k σ.g) (⟨k, σ.g, .arr sz es⟩ :: hdel (hdels σ.h ks) k) (σ.g + 1)
    | .arr j g => match find σ.h j g with
      | some (.arr s' xs) => s' = sz ∧ j ∉ ks ∧ xs.length + es.length ≤ big ∧ K (.arr j σ.g) (hset (hdels σ.h ks) j σ.g (.arr sz (xs ++ es))) (σ.g + 1)
      | _ => False
    | _ => False

def put (t : List (Nat × D)) (d : Option Nat) (v : D) : List (Nat × D) :=
  match d with
  | none => t
  | some k => (k, v) :: t

/-- The key and number of the one block that a call is handed to write to. -/
def ioOf : List D → Option (Nat × Nat)
  | [] => none
  | .ptr k g 0 :: _ => some (k, g)
  | _ :: l => ioOf l

def dio (k g : Nat) : D → D
  | .ptr j g' 0 => if j = k ∧ g' = g then .ptr 0 0 0 else .junk
  | d => derS 5 d

def pureL (cs : List D) : Prop := ∀ c ∈ cs, pureD 5 c = true

/-- A call. 'fl': 0 it hands back what is new; 1 that becomes the caller's own; 2 it may hand back what it was given; 3 by the table, it changes nothing; 8, 9, 10 the same where it is handed a block to write to. 16: its text is run here. -/
def callK (C : Ctx) (k : Nat) (inlK : Nat → List D → List Ent → Nat → (D → List Ent → Nat → Prop) → Prop) (fl : Nat) (f : D) (args : List D) (σ : St) (K : D → List Ent → Nat → Prop) : Prop :=
  match f with
  | .fn id caps =>
    match fl with
    | 0 => ∃ R, PC C.P id ((args ++ caps).map (der σ.h 5)) none true R ∧ ∀ r cs, R r cs → K (imm 5 r) σ.h σ.g
    | 1 => ∃ R, PC C.P id ((args ++ caps).map (der σ.h 5)) none true R ∧ ∀ r cs, R r cs → K (thaw 5 k σ.g r).1 ((thaw 5 k σ.g r).2.1 ++ hdels σ.h ((thaw 5 k σ.g r).2.1.map Ent.k)) (thaw 5 k σ.g r).2.2.2
    | 2 => ∃ R, PC C.P id ((args ++ caps).map (derS 5)) none false R ∧ ∀ r cs, R r cs → K (imm 5 r) σ.h σ.g
    | 3 => ∃ v, inlK id (args ++ caps) σ.h σ.g (fun d h g => d = v ∧ h = σ.h ∧ g = σ.g) ∧ K v σ.h σ.g
    | 16 => inlK id (args ++ caps) σ.h σ.g K
    | fl => match ioOf (args ++ caps) with
      | some (j, g) => match find σ.h j g with
        | some (.cells cs) => pureL cs ∧
          match fl with
          | 8 => ∃ R, PC C.P id ((args ++ caps).map (dio j g)) (some cs) true R ∧ ∀ r cs', R r cs' → K (imm 5 r) (hset σ.h j g (.cells cs')) σ.g
          | 9 => False
          | _ => ∃ R, PC C.P id ((args ++ caps).map (dio j g)) (some cs) false R ∧ ∀ r cs', R r cs' → K (imm 5 r) (hset σ.h j g (.cells cs')) σ.g
        | _ => False
      | none => False
  | _ => False

def opC (C : Ctx) (kb : Nat) (inlK : Nat → List D → List Ent → Nat → (D → List Ent → Nat → Prop) → Prop) (a : AOper) (σ : St) (K : D → List Ent → Nat → Prop) : Prop :=
  match a.o with
  | .call f args => callK C (kb + 8 * a.d.getD 0) inlK a.fl (ev σ.t f) (evL σ.t args) σ K
  | _ => opK C.tt (kb + 8 * a.d.getD 0) a σ K

def guardK (gd : Option (Nat × Bool)) (t : List (Nat × D)) (K1 K2 : List (Nat × D) → Prop) : Prop :=
  match gd with
  | none => K1 t
  | some (j, want) => match getT t j with
    | .bool b => (b = want → K1 ((j, .bool want) :: t)) ∧ (b = !want → K2 ((j, .bool !want) :: t))
    | .undef => K2 t
    | _ => False

def opsK (C : Ctx) (kb : Nat) (inlK : Nat → List D → List Ent → Nat → (D → List Ent → Nat → Prop) → Prop) : List AOper → St → (St → Prop) → Prop
  | [], σ, Q => Q σ
  | a :: as, σ, Q => guardK a.gd σ.t
      (fun t => opC C kb inlK a ⟨t, σ.h, σ.g⟩ fun d h g => opsK C kb inlK as ⟨put t a.d d, h, g⟩ Q)
      (fun t => opsK C kb inlK as ⟨put t a.d .undef, σ.h, σ.g⟩ Q)

def callOf : AOp → Option (Opd × List Opd)
  | .call f as => some (f, as)
  | _ => none

/-- A call that gives one thing. -/
def callD (C : Ctx) (k : Nat) (inlK : Nat → List D → List Ent → Nat → (D → List Ent → Nat → Prop) → Prop) (fl : Nat) (f : D) (args : List D) (σ : St) (K : D → List Ent → Nat → Prop) : Prop :=
  ∃ d h g, callK C k inlK fl f args σ (fun d' h' g' => d' = d ∧ h' = h ∧ g' = g) ∧ ((fl != 0 && fl != 2 && fl != 3) = true ∨ (h = σ.h ∧ g = σ.g)) ∧ K d h g

/-- The same as a run: each operation but a call gives one thing anyway. -/
def opsKc (C : Ctx) (kb : Nat) (inlK : Nat → List D → List Ent → Nat → (D → List Ent → Nat → Prop) → Prop) : List AOper → St → (St → Prop) → Prop
  | [], σ, Q => Q σ
  | a :: as, σ, Q => guardK a.gd σ.t
      (fun t => match callOf a.o with
        | some (f, args) => callD C (kb + 8 * a.d.getD 0) inlK a.fl (ev t f) (evL t args) ⟨t, σ.h, σ.g⟩ fun d h g => opsKc C kb inlK as ⟨put t a.d d, h, g⟩ Q
        | none => opK C.tt (kb + 8 * a.d.getD 0) a ⟨t, σ.h, σ.g⟩ fun d h g => opsKc C kb inlK as ⟨put t a.d d, h, g⟩ Q)
      (fun t => opsKc C kb inlK as ⟨put t a.d .undef, σ.h, σ.g⟩ Q)

def opdT : Opd → List Nat
  | .t n => [n]
  | _ => []

def optT : Option Opd → List Nat
  | some x => opdT x
  | none => []

def aopT : AOp → List Nat
  | .mv x | .box _ x | .load _ x | .nilck x | .un _ x | .conv _ _ x | .faddr _ x _ | .field _ x _ | .ext x _ | .len _ x => opdT x
  | .pick c a b => opdT c ++ opdT a ++ opdT b
  | .alloc _ => []
  | .build _ ps | .bslice _ _ ps => (ps.map fun p => opdT p.2).flatten
  | .store _ x y | .bin _ _ x y | .make _ x y | .iaddr _ x y | .index _ x y | .app _ _ x y | .max x y | .min x y | .copy _ _ x y => opdT x ++ opdT y
  | .mkfn _ cs => (cs.map opdT).flatten
  | .slice _ x lo hi => opdT x ++ optT lo ++ optT hi
  | .clear _ x => opdT x
  | .call f as => opdT f ++ (as.map opdT).flatten

def gdT : Option (Nat × Bool) → List Nat
  | some (j, _) => [j]
  | none => []

/-- The slots that an operation reads. -/
def rd (a : AOper) : List Nat := aopT a.o ++ gdT a.gd

/-- May it change what is the run's own? -/
def wr (a : AOper) : Bool :=
  match a.o with
  | .mv _ | .box _ _ => a.fl != 0
  | .bslice _ _ _ => a.fl == 1
  | .load _ _ => a.fl != 0 && a.fl != 1
  | .slice _ _ _ _ => a.fl != 0
  | .alloc _ | .store _ _ _ | .make _ _ _ | .app _ _ _ _ | .copy _ _ _ _ | .clear _ _ => true
  | .call _ _ => a.fl != 0 && a.fl != 2 && a.fl != 3
  | _ => false

/-- May it look at what is the run's own? -/
def acc (a : AOper) : Bool :=
  match a.o with
  | .mv _ | .box _ _ => a.fl != 0
  | .bslice _ _ _ => a.fl == 1
  | .slice _ _ _ _ => a.fl != 0
  | .pick _ _ _ | .bin _ _ _ _ | .un _ _ | .conv _ _ _ | .mkfn _ _ | .field _ _ _ | .index _ _ _ | .ext _ _ | .max _ _ | .min _ _ | .build _ _ => false
  | _ => true

/-- What one operation gives. -/
def Eq3 (d : D) (h : List Ent) (g : Nat) : D → List Ent → Nat → Prop := fun d' h' g' => d' = d ∧ h' = h ∧ g' = g

/-- The same where the region may be carried out in another order: each operation gives one thing. -/
def opsKd (C : Ctx) (kb : Nat) (inlK : Nat → List D → List Ent → Nat → (D → List Ent → Nat → Prop) → Prop) : List AOper → St → (St → Prop) → Prop
  | [], σ, Q => Q σ
  | a :: as, σ, Q => guardK a.gd σ.t
      (fun t => ∃ d h g, opC C kb inlK a ⟨t, σ.h, σ.g⟩ (Eq3 d h g) ∧ (wr a = true ∨ (h = σ.h ∧ g = σ.g)) ∧ opsKd C kb inlK as ⟨put t a.d d, h, g⟩ Q)
      (fun t => opsKd C kb inlK as ⟨put t a.d .undef, σ.h, σ.g⟩ Q)

def keepT (ks : List Nat) (t : List (Nat × D)) : List (Nat × D) := ks.map fun k => (k, getT t k)

def keepO : Option (List Nat) → List (Nat × D) → List (Nat × D)
  | none, t => t
  | some ks, t => keepT ks t

def keepH : List Nat → List Ent → List Ent
  | [], _ => []
  | k :: ks, h => if k = 999999999 then h else match h.find? (fun e => e.k == k) with | some e => e :: keepH ks (hdel h k) | none => keepH ks h

inductive AExit where
  | normal
  | exit (id : Nat)
  | ret

def thenQ (next : St → Prop) (Q : AExit → St → Prop) : AExit → St → Prop
  | .normal, σ => next σ
  | e, σ => Q e σ

def inBlockQ (id : Nat) (Q : AExit → St → Prop) : AExit → St → Prop
  | .exit id', σ => if id' = id then Q .normal σ else Q (.exit id') σ
  | e, σ => Q e σ

def iter (body : (AExit → St → Prop) → St → Prop) (keep kh : List Nat) (Q : AExit → St → Prop) : Nat → St → Prop
  | 0, _ => False
  | n + 1, σ => body (thenQ (iter body keep kh Q n) Q) ⟨keepT keep σ.t, keepH kh σ.h, σ.g⟩

def exO (C : Ctx) (kb : Nat) (inlK : Nat → List D → List Ent → Nat → (D → List Ent → Nat → Prop) → Prop) (o : Option AOper) (σ : St) (K : St → Prop) : Prop :=
  match o with
  | some a => opsKc C kb inlK [a] σ K
  | none => False

/-- Does an operation look at what is never written again? -/
def isImm (a : AOper) (t : List (Nat × D)) : Prop :=
  match a.o with
  | .load _ x => a.fl = 0 ∧ (match ev t x with | .iptr _ => True | _ => False)
  | .faddr _ x _ => (match ev t x with | .iptr _ => True | _ => False)
  | .len _ x => (match ev t x with | .list _ _ => True | _ => False)
  | .iaddr _ x _ => (match ev t x with | .list _ _ => True | _ => False)
  | _ => False
def isImmO (o : Option AOper) (t : List (Nat × D)) : Prop := match o with | some a => isImm a t | none => False

/-- A region in all the orders that a tree tells. -/
def exT (C : Ctx) (kb : Nat) (inlK : Nat → List D → List Ent → Nat → (D → List Ent → Nat → Prop) → Prop) (ops : List AOper) (Q : St → Prop) : Ex → St → Prop
  | .fin, σ => Q σ
  | .one i t, σ => exO C kb inlK ops[i]? σ (exT C kb inlK ops Q t)
  | .imm i t, σ => isImmO ops[i]? σ.t ∧ exO C kb inlK ops[i]? σ (exT C kb inlK ops Q t)
  | .alt i t r, σ => exO C kb inlK ops[i]? σ (exT C kb inlK ops Q t) ∧ exT C kb inlK ops Q r σ
  | .stop, _ => True

def run (C : Ctx) (kb : Nat) (inlK : Nat → List D → List Ent → Nat → (D → List Ent → Nat → Prop) → Prop) : AC → (AExit → St → Prop) → St → Prop
  | .skip, Q, σ => Q .normal σ
  | .ret, Q, σ => Q .ret σ
  | .exit id, Q, σ => Q (.exit id) σ
  | .region false ops keep, Q, σ => opsK C kb inlK ops σ fun σ' => Q .normal ⟨keepO keep σ'.t, σ'.h, σ'.g⟩
  | .region true ops keep, Q, σ => opsKc C kb inlK ops σ fun σ' => Q .normal ⟨keepO keep σ'.t, σ'.h, σ'.g⟩
  | .seq a b, Q, σ => run C kb inlK a (thenQ (run C kb inlK b Q) Q) σ
  | .cond c a b, Q, σ => match ev σ.t c with
    | .bool t => (t = true → run C kb inlK a Q σ) ∧ (t = false → run C kb inlK b Q σ)
    | _ => False
  | .block id a, Q, σ => run C kb inlK a (inBlockQ id Q) σ
  | .loop keep kh a, Q, σ => ∃ n, iter (run C kb inlK a) keep kh Q n σ
  | .expl ops tr ks kh, Q, σ => exT C kb inlK ops (fun σ' => Q .normal ⟨keepT ks σ'.t, keepH kh σ'.h, σ'.g⟩) tr σ
  | .bad, _, _ => False

def resK1 (tt : Nat → Ty) (σ : St) (K : D → Prop) : RV → Prop
  | .t r => K (getT σ.t r)
  | .c r T => match getT σ.t r with
    | .ptr j g 0 => match find σ.h j g with
      | some (.cells cs) => (tt T).isStruct = true ∧ (tt T).sz = cs.length ∧ K (.agg cs)
      | _ => False
    | _ => False

def resL (tt : Nat → Ty) (σ : St) : List RV → (List D → Prop) → Prop
  | [], K => K []
  | r :: rs, K => resK1 tt σ (fun d => resL tt σ rs fun ds => K (d :: ds)) r

/-- What a function hands back. -/
def resK (tt : Nat → Ty) (res : List RV) (σ : St) (K : D → Prop) : Prop :=
  match res with
  | [r] => resK1 tt σ K r
  | rs => resL tt σ rs fun ds => K (.tup ds)

def args0 : Nat → List D → List (Nat × D)
  | _, [] => []
  | n, d :: ds => (n, d) :: args0 (n + 1) ds

/-- The text of a function run in place, to the depth 'n'. -/
def inl (C : Ctx) : Nat → Nat → Nat → List D → List Ent → Nat → (D → List Ent → Nat → Prop) → Prop
  | 0, _, _, _, _, _, _ => False
  | n + 1, kb, f, ds, h, g, K => match C.inl f with
    | none => False
    | some fa => run C (kb + 4000) (inl C n (kb + 4000)) fa.ac (fun e σ => match e with
        | .exit _ => False
        | _ => resK C.tt fa.res σ fun d => K d σ.h σ.g) ⟨args0 0 ds, h, g⟩

def endK (fresh : Bool) (R : D → List D → Prop) (cs : List D) (h : List Ent) (d : D) : Prop :=
  match fresh with
  | true => (keys 5 d).Nodup ∧ OwnedD (own h 5 d) ∧ R (own h 5 d) cs
  | false => R (derS 5 d) cs

def retK (tt : Nat → Ty) (fresh : Bool) (res : List RV) (R : D → List D → Prop) (cs : List D) (σ : St) : Prop :=
  resK tt res σ (endK fresh R cs σ.h)

/-- The end of a call that is proved for all callers. -/
def retQ (tt : Nat → Ty) (fresh : Bool) (res : List RV) (R : D → List D → Prop) (io : Bool) : AExit → St → Prop
  | .exit _, _ => False
  | _, σ => match io with
    | false => retK tt fresh res R [] σ
    | true => match find σ.h 0 0 with
      | some (.cells cs) => pureL cs ∧ retK tt fresh res R cs σ
      | _ => False

/-- The run's own at a call's start. -/
def hio : Option (List D) → List Ent
  | none => []
  | some cs => [⟨0, 0, .cells cs⟩]

end Go.PS
end

section
-- The blocks that are the run's own: how they are kept, taken out, laid in.
set_option linter.unusedVariables false
set_option linter.unusedSimpArgs false
namespace Go.PS

/-- One block of the run's own. -/
def EOk (w : World) (F : Nat → Prop) (h : List Ent) (μ : Nat → Value) (G lo : Nat) (B : Option Nat) (e : Ent) (o : List Nat) : Prop :=
  e.g < G ∧ match e.b with
  | .cells cs => ∃ (b : Nat) (vs : List Value) (E : TypeId), μ e.g = .pointer (some ⟨b, 0, none⟩) ∧ w.heap[b]? = some (.cells vs.toArray E (0, 0)) ∧ vs.length = cs.length ∧ Ones vs ∧
      (∀ (i : Nat) (d : D) (v : Value), cs[i]? = some d → vs[i]? = some v → VRep w F h μ G d v) ∧ o = [b] ∧ (lo ≤ b ∨ B = some b)
  | .arr sz xs => ORep w F lo (.olist sz xs) (μ e.g) o

def HOk (w : World) (F : Nat → Prop) (h : List Ent) (μ : Nat → Value) (G lo : Nat) (B : Option Nat) : List Ent → List Nat → Prop
  | [], o => o = []
  | e :: es, o => ∃ o1 o2, o = o1 ++ o2 ∧ EOk w F h μ G lo B e o1 ∧ HOk w F h μ G lo B es o2

theorem EOk.evo {w w' : World} {F F' : Nat → Prop} {h h' : List Ent} {μ μ' : Nat → Value} {G G' lo : Nat} {B : Option Nat} {e : Ent} {o : List Nat}
    (r : EOk w F h μ G lo B e o) (ev : Evo w F h μ G w' F' h' μ' G') (hk : ∀ b ∈ o, w'.heap[b]? = w.heap[b]?) : EOk w' F' h' μ' G' lo B e o := by
  obtain ⟨hg, r⟩ := r
  refine ⟨Nat.lt_of_lt_of_le hg ev.gen, ?_⟩
  cases hb : e.b with
  | cells cs =>
    rw [hb] at r
    obtain ⟨b, vs, E, h1, h2, h3, h4, h5, h6, h7⟩ := r
    refine ⟨b, vs, E, (ev.mu _ hg).trans h1, (hk b (by simp [h6])).trans h2, h3, h4, fun i d v hd hv => (h5 i d v hd hv).evo ev, h6, h7⟩
  | arr sz xs =>
    rw [hb] at r
    simp only at r ⊢
    rw [ev.mu _ hg]
    exact r.evo ev.mm hk (fun b hb => (r.lt b hb).1)

theorem HOk.evo {w w' : World} {F F' : Nat → Prop} {h h' : List Ent} {μ μ' : Nat → Value} {G G' lo : Nat} {B : Option Nat} (ev : Evo w F h μ G w' F' h' μ' G') :
    ∀ (l : List Ent) (o : List Nat), HOk w F h μ G lo B l o → (∀ b ∈ o, w'.heap[b]? = w.heap[b]?) → HOk w' F' h' μ' G' lo B l o
  | [], o, r, _ => r
  | e :: es, o, ⟨o1, o2, h1, h2, h3⟩, hk => by
    subst h1
    exact ⟨o1, o2, rfl, h2.evo ev (fun b hb => hk b (by simp [hb])), HOk.evo ev es o2 h3 (fun b hb => hk b (by simp [hb]))⟩

theorem EOk.lt {w : World} {F : Nat → Prop} {h : List Ent} {μ : Nat → Value} {G lo : Nat} {B : Option Nat} {e : Ent} {o : List Nat}
    (r : EOk w F h μ G lo B e o) : ∀ b ∈ o, (lo ≤ b ∨ B = some b) ∧ b < w.heap.size := by
  obtain ⟨hg, r⟩ := r
  intro c hc
  cases hb : e.b with
  | cells cs =>
    rw [hb] at r
    obtain ⟨b, vs, E, h1, h2, h3, h4, h5, h6, h7⟩ := r
    subst h6
    obtain rfl : c = b := by simpa using hc
    exact ⟨h7, (Array.getElem?_eq_some_iff.1 h2).1⟩
  | arr sz xs =>
    rw [hb] at r
    exact ⟨.inl (r.lt c hc).1, (r.lt c hc).2⟩

theorem HOk.lt {w : World} {F : Nat → Prop} {h : List Ent} {μ : Nat → Value} {G lo : Nat} {B : Option Nat} :
    ∀ (l : List Ent) (o : List Nat), HOk w F h μ G lo B l o → ∀ b ∈ o, (lo ≤ b ∨ B = some b) ∧ b < w.heap.size
  | [], o, r => by cases r; simp
  | e :: es, o, ⟨o1, o2, h1, h2, h3⟩ => by
    subst h1
    intro b hb
    rcases List.mem_append.1 hb with hb | hb
    · exact h2.lt b hb
    · exact HOk.lt es o2 h3 b hb

theorem HOk.gen {w : World} {F : Nat → Prop} {h : List Ent} {μ : Nat → Value} {G lo : Nat} {B : Option Nat} :
    ∀ (l : List Ent) (o : List Nat), HOk w F h μ G lo B l o → ∀ e ∈ l, e.g < G
  | [], o, r => by simp
  | e :: es, o, ⟨o1, o2, h1, h2, h3⟩ => by
    intro e' he
    rcases List.mem_cons.1 he with rfl | he
    · exact h2.1
    · exact HOk.gen es o2 h3 e' he

/-- An entry taken out. -/
theorem HOk.take {w : World} {F : Nat → Prop} {h : List Ent} {μ : Nat → Value} {G lo : Nat} {B : Option Nat} {k g : Nat} {b : Blk} :
    ∀ (l : List Ent) (o : List Nat), HOk w F h μ G lo B l o → find l k g = some b → o.Nodup →
      ∃ o1 rest, EOk w F h μ G lo B ⟨k, g, b⟩ o1 ∧ HOk w F h μ G lo B (hdel l k) rest ∧ (o1 ++ rest).Nodup ∧ ∀ c, c ∈ o ↔ c ∈ o1 ++ rest
  | [], o, r, hf, _ => by simp [find] at hf
  | e :: es, o, ⟨o1, o2, h1, h2, h3⟩, hf, hn => by
    subst h1
    simp only [find] at hf
    by_cases hk : e.k = k
    · rw [if_pos hk] at hf
      by_cases hg : e.g = g
      · rw [if_pos hg] at hf
        obtain rfl : e.b = b := by simpa using hf
        obtain rfl : k = e.k := hk.symm
        obtain rfl : g = e.g := hg.symm
        exact ⟨o1, o2, h2, by simpa [hdel] using h3, hn, fun c => Iff.rfl⟩
      · rw [if_neg hg] at hf; cases hf
    · rw [if_neg hk] at hf
      obtain ⟨p, q, hp, hq, hnd, hmem⟩ := HOk.take es o2 h3 hf (List.nodup_append.1 hn).2.1
      refine ⟨p, o1 ++ q, hp, ?_, ?_, ?_⟩
      · simp only [hdel, if_neg hk]
        exact ⟨o1, q, rfl, h2, hq⟩
      · have hpm : (o1 ++ (p ++ q)).Nodup := by
          rw [List.nodup_append] at hn ⊢
          exact ⟨hn.1, hnd, fun a ha b hb => hn.2.2 a ha b ((hmem b).2 hb)⟩
        have hperm : (o1 ++ (p ++ q)).Perm (p ++ (o1 ++ q)) := by
          rw [← List.append_assoc, ← List.append_assoc]
          exact (List.perm_append_comm).append_right q
        exact hperm.nodup_iff.1 hpm
      · intro c
        simp only [List.mem_append, hmem c]
        constructor
        · rintro (h | h | h)
          · exact .inr (.inl h)
          · exact .inl h
          · exact .inr (.inr h)
        · rintro (h | h | h)
          · exact .inr (.inl h)
          · exact .inl h
          · exact .inr (.inr h)

/-- An entry dropped. -/
theorem HOk.del {w : World} {F : Nat → Prop} {h : List Ent} {μ : Nat → Value} {G lo : Nat} {B : Option Nat} (k : Nat) :
    ∀ (l : List Ent) (o : List Nat), HOk w F h μ G lo B l o → o.Nodup → ∃ rest, HOk w F h μ G lo B (hdel l k) rest ∧ rest.Nodup ∧ ∀ c ∈ rest, c ∈ o
  | [], o, r, hn => ⟨o, r, hn, fun c hc => hc⟩
  | e :: es, o, ⟨o1, o2, h1, h2, h3⟩, hn => by
    subst h1
    by_cases hk : e.k = k
    · simp only [hdel, if_pos hk]
      exact ⟨o2, h3, (List.nodup_append.1 hn).2.1, fun c hc => by simp [hc]⟩
    · obtain ⟨q, hq, hnd, hmem⟩ := HOk.del k es o2 h3 (List.nodup_append.1 hn).2.1
      simp only [hdel, if_neg hk]
      refine ⟨o1 ++ q, ⟨o1, q, rfl, h2, hq⟩, ?_, ?_⟩
      · rw [List.nodup_append] at hn ⊢
        exact ⟨hn.1, hnd, fun a ha b hb => hn.2.2 a ha b (hmem b hb)⟩
      · intro c hc
        rcases List.mem_append.1 hc with hc | hc
        · simp [hc]
        · simp [hmem c hc]

theorem find_hdel_ne {k j g : Nat} (hne : j ≠ k) : ∀ (l : List Ent), find (hdel l k) j g = find l j g
  | [] => rfl
  | e :: es => by
    by_cases hk : e.k = k
    · simp only [hdel, if_pos hk, find]
      rw [if_neg (by omega)]
    · simp only [hdel, if_neg hk, find]
      rw [find_hdel_ne hne es]

theorem find_hdel_some {k j g : Nat} : ∀ (l : List Ent), (l.map Ent.k).Nodup → find (hdel l k) j g ≠ none → find l j g ≠ none
  | [], _ => fun h => h
  | e :: es, hn => by
    intro hf
    by_cases hk : e.k = k
    · simp only [hdel, if_pos hk] at hf
      simp only [find]
      split
      · rename_i hj
        -- 'j' is e's key: it stands nowhere else
        exfalso
        apply hf
        have hnot : j ∉ es.map Ent.k := by
          have := (List.nodup_cons.1 (by simpa using hn : (e.k :: es.map Ent.k).Nodup)).1
          rwa [hj] at this
        clear hf hn
        induction es with
        | nil => rfl
        | cons a as ih =>
          simp only [List.map_cons, List.mem_cons, not_or] at hnot
          simp only [find]
          rw [if_neg (fun h => hnot.1 h.symm)]
          exact ih hnot.2
      · exact hf
    · simp only [hdel, if_neg hk, find] at hf ⊢
      split
      · rename_i hj; rw [if_pos hj] at hf; exact hf
      · rename_i hj; rw [if_neg hj] at hf
        exact find_hdel_some es (by simpa using (List.nodup_cons.1 (by simpa using hn : (e.k :: es.map Ent.k).Nodup)).2) hf

theorem mem_keys_hdel {k j : Nat} : ∀ (l : List Ent), j ∈ (hdel l k).map Ent.k → j ∈ l.map Ent.k
  | [] => fun h => h
  | e :: es => by
    intro h
    by_cases hk : e.k = k
    · simp only [hdel, if_pos hk] at h
      exact List.mem_cons_of_mem _ h
    · simp only [hdel, if_neg hk, List.map_cons, List.mem_cons] at h ⊢
      rcases h with h | h
      · exact .inl h
      · exact .inr (mem_keys_hdel es h)

theorem nodup_hdel {k : Nat} : ∀ (l : List Ent), (l.map Ent.k).Nodup → ((hdel l k).map Ent.k).Nodup
  | [], h => h
  | e :: es, h => by
    have h' : (e.k :: es.map Ent.k).Nodup := by simpa using h
    by_cases hk : e.k = k
    · simp only [hdel, if_pos hk]; exact (List.nodup_cons.1 h').2
    · simp only [hdel, if_neg hk, List.map_cons]
      exact List.nodup_cons.2 ⟨fun hm => (List.nodup_cons.1 h').1 (mem_keys_hdel es hm), nodup_hdel es (List.nodup_cons.1 h').2⟩

theorem not_mem_hdel {k : Nat} : ∀ (l : List Ent), (l.map Ent.k).Nodup → k ∉ (hdel l k).map Ent.k
  | [], _ => by simp [hdel]
  | e :: es, h => by
    have h' : (e.k :: es.map Ent.k).Nodup := by simpa using h
    by_cases hk : e.k = k
    · simp only [hdel, if_pos hk]; rw [← hk]; exact (List.nodup_cons.1 h').1
    · simp only [hdel, if_neg hk, List.map_cons, List.mem_cons, not_or]
      exact ⟨fun e => hk e.symm, not_mem_hdel es (List.nodup_cons.1 h').2⟩

theorem find_mem {k g : Nat} : ∀ (l : List Ent), find l k g ≠ none → k ∈ l.map Ent.k
  | [], h => by simp [find] at h
  | e :: es, h => by
    simp only [find] at h
    by_cases hk : e.k = k
    · simp [hk]
    · rw [if_neg hk] at h
      exact List.mem_cons_of_mem _ (find_mem es h)

theorem find_hdel_eq {k j g : Nat} (l : List Ent) (hn : (l.map Ent.k).Nodup) (hf : find (hdel l k) j g ≠ none) : find l j g = find (hdel l k) j g := by
  by_cases hj : j = k
  · subst hj; exact absurd (find_mem _ hf) (not_mem_hdel l hn)
  · exact (find_hdel_ne hj l).symm

theorem cellAt_find {h : List Ent} {k g x : Nat} {d : D} (hr : cellAt h k g x = some d) : find h k g ≠ none := by
  intro e; unfold cellAt at hr; rw [e] at hr; cases hr

theorem cellAt_eq {h h' : List Ent} {k g x : Nat} (e : find h k g = find h' k g) : cellAt h k g x = cellAt h' k g x := by
  unfold cellAt; rw [e]

/-- What is the same. -/
theorem row_same {w w' : World} {h h' : List Ent} {μ : Nat → Value} {k g x : Nat} {d' : D} (h1 : cellAt h' k g x = some d') (h2 : find h k g = find h' k g) (h3 : ∀ b n c : Nat, μ g = .slice (some ⟨b, 0, none⟩) n c → w'.cell? ⟨b, x, none⟩ = w.cell? ⟨b, x, none⟩) :
    ∃ d, cellAt h k g x = some d ∧ (isNilD d = false → isNilD d' = false ∧ (isOl d' = true → isOl d = true ∧ ∀ b n c : Nat, μ g = .slice (some ⟨b, 0, none⟩) n c → w'.cell? ⟨b, x, none⟩ = w.cell? ⟨b, x, none⟩)) :=
  ⟨d', by rw [cellAt_eq h2]; exact h1, fun hn => ⟨hn, fun ho => ⟨ho, h3⟩⟩⟩

section
variable {w : World} {F : Nat → Prop} {h : List Ent} {μ : Nat → Value} {G : Nat}
theorem HOk.has {lo : Nat} {B : Option Nat} {k g : Nat} {b : Blk} : ∀ (l : List Ent) (o : List Nat), HOk w F h μ G lo B l o → find l k g = some b → ∃ o1, EOk w F h μ G lo B ⟨k, g, b⟩ o1 ∧ ∀ c ∈ o1, c ∈ o
  | [], o, r, hf => by simp [find] at hf
  | e :: es, o, ⟨o1, o2, h1, h2, h3⟩, hf => by
    subst h1
    simp only [find] at hf
    by_cases hk : e.k = k
    · rw [if_pos hk] at hf
      by_cases hg : e.g = g
      · rw [if_pos hg] at hf
        obtain rfl : e.b = b := by simpa using hf
        obtain rfl : k = e.k := hk.symm
        obtain rfl : g = e.g := hg.symm
        exact ⟨o1, h2, fun c hc => by simp [hc]⟩
      · rw [if_neg hg] at hf; cases hf
    · rw [if_neg hk] at hf
      obtain ⟨o', h', hm⟩ := HOk.has es o2 h3 hf
      exact ⟨o', h', fun c hc => by simp [hm c hc]⟩


/-- The block of a list of lists. -/
theorem HOk.rowBlk {lo : Nat} {B : Option Nat} {l : List Ent} {o : List Nat} (hok : HOk w F h μ G lo B l o) {k g x : Nat} {d : D} (hr : cellAt l k g x = some d) {b n c : Nat} (hm : μ g = .slice (some ⟨b, 0, none⟩) n c) : b ∈ o ∧ b < w.heap.size := by
  unfold cellAt at hr
  split at hr
  · rename_i blk hf
    obtain ⟨o1, he, hin⟩ := hok.has l o hf
    cases blk with
    | cells cs => simp [cellB] at hr
    | arr sz xs =>
      have ho := he.2
      simp only at ho
      rw [hm] at ho
      cases ho with
      | base _ _ r => cases r
      | olist _ _ vs os _ cap cur E h1 h2 h3 h4 h5 h6 h7 h8 h9 => exact ⟨hin b (by simp), (Array.getElem?_eq_some_iff.1 h4).1⟩
  · cases hr
end

/-- An entry laid in where one of its key stands. -/
theorem HOk.set {w : World} {F : Nat → Prop} {h : List Ent} {μ : Nat → Value} {G lo : Nat} {B : Option Nat} {k g g' : Nat} {b b' : Blk} {o' : List Nat} (he : EOk w F h μ G lo B ⟨k, g', b'⟩ o') :
    ∀ (l : List Ent) (rest : List Nat), find l k g = some b → HOk w F h μ G lo B (hdel l k) rest → (o' ++ rest).Nodup →
      ∃ o, HOk w F h μ G lo B (hset l k g' b') o ∧ o.Nodup ∧ ∀ c, c ∈ o ↔ c ∈ o' ++ rest
  | [], rest, hf, r, _ => by simp [find] at hf
  | e :: es, rest, hf, r, hn => by
    simp only [find] at hf
    by_cases hk : e.k = k
    · simp only [hdel, if_pos hk] at r
      simp only [hset, if_pos hk]
      exact ⟨o' ++ rest, ⟨o', rest, rfl, he, r⟩, hn, fun c => Iff.rfl⟩
    · rw [if_neg hk] at hf
      simp only [hdel, if_neg hk] at r
      obtain ⟨o1, o2, rfl, h2, h3⟩ := r
      have hn2 : (o' ++ o2).Nodup := by
        rw [List.nodup_append] at hn ⊢
        exact ⟨hn.1, (List.nodup_append.1 hn.2.1).2.1, fun a ha b hb => hn.2.2 a ha b (by simp [hb])⟩
      obtain ⟨o, ho, hnd, hmem⟩ := HOk.set he es o2 hf h3 hn2
      simp only [hset, if_neg hk]
      refine ⟨o1 ++ o, ⟨o1, o, rfl, h2, ho⟩, ?_, ?_⟩
      · rw [List.nodup_append]
        refine ⟨(List.nodup_append.1 (List.nodup_append.1 hn).2.1).1, hnd, fun a ha b hb => ?_⟩
        rcases List.mem_append.1 ((hmem b).1 hb) with hb | hb
        · exact fun e => (List.nodup_append.1 hn).2.2 b hb a (by simp [ha]) e.symm
        · exact (List.nodup_append.1 (List.nodup_append.1 hn).2.1).2.2 a ha b hb
      · intro c
        simp only [List.mem_append, hmem c]
        constructor
        · rintro (h | h | h)
          · exact .inr (.inl h)
          · exact .inl h
          · exact .inr (.inr h)
        · rintro (h | h | h)
          · exact .inr (.inl h)
          · exact .inl h
          · exact .inr (.inr h)

theorem map_k_hset {k g' : Nat} {b' : Blk} : ∀ (l : List Ent), (hset l k g' b').map Ent.k = l.map Ent.k
  | [] => rfl
  | e :: es => by
    by_cases hk : e.k = k
    · simp [hset, if_pos hk, hk]
    · simp [hset, if_neg hk, map_k_hset es]

/-- What is known of memory between two operations. -/
structure HInv (w0 : World) (Fo : Nat → Prop) (B : Option Nat) (w : World) (h : List Ent) (μ : Nat → Value) (G : Nat) (o : List Nat) : Prop where
  grown : w0.grownBy w B
  out : ∀ b, Fo b → b < w0.heap.size
  hok : HOk w (fun b => b ∈ o ∨ Fo b) h μ G w0.heap.size B h o
  nodup : o.Nodup
  keys : (h.map Ent.k).Nodup

abbrev FF (o : List Nat) (Fo : Nat → Prop) : Nat → Prop := fun b => b ∈ o ∨ Fo b

/-- From one moment of the run to a later one. -/
def Out (w0 : World) (Fo : Nat → Prop) (B : Option Nat) (w : World) (h : List Ent) (μ : Nat → Value) (G : Nat) (o : List Nat) (w' : World) (h' : List Ent) (μ' : Nat → Value) (G' : Nat) (o' : List Nat) : Prop :=
  HInv w0 Fo B w' h' μ' G' o' ∧ Evo w (FF o Fo) h μ G w' (FF o' Fo) h' μ' G'

theorem Out.trans {w0 : World} {Fo : Nat → Prop} {B : Option Nat} {w w' w'' : World} {h h' h'' : List Ent} {μ μ' μ'' : Nat → Value} {G G' G'' : Nat} {o o' o'' : List Nat}
    (a : Out w0 Fo B w h μ G o w' h' μ' G' o') (b : Out w0 Fo B w' h' μ' G' o' w'' h'' μ'' G'' o'') : Out w0 Fo B w h μ G o w'' h'' μ'' G'' o'' :=
  ⟨b.1, a.2.trans b.2⟩

theorem grownBy.trans {w w' w'' : World} {B : Option Nat} (a : w.grownBy w' B) (b : w'.grownBy w'' B) : w.grownBy w'' B :=
  ⟨b.os.trans a.os, b.tape.trans a.tape, b.output.trans a.output, Nat.le_trans a.size b.size, fun k hk hn => (b.block k (Nat.lt_of_lt_of_le hk a.size) hn).trans (a.block k hk hn)⟩

theorem grownBy.weak {w w' : World} {B : Option Nat} (a : w.grownBy w' none) : w.grownBy w' B :=
  ⟨a.os, a.tape, a.output, a.size, fun k hk _ => a.block k hk (by simp)⟩

section
variable {w0 : World} {Fo : Nat → Prop} {B : Option Nat} {w : World} {h : List Ent} {μ : Nat → Value} {G : Nat} {o : List Nat}

theorem HInv.refl (I : HInv w0 Fo B w h μ G o) : Out w0 Fo B w h μ G o w h μ G o := ⟨I, .refl ..⟩

theorem HInv.blk (I : HInv w0 Fo B w h μ G o) : ∀ b, FF o Fo b → b < w.heap.size := fun b hb => by
  rcases hb with hb | hb
  · exact (I.hok.lt _ _ b hb).2
  · exact Nat.lt_of_lt_of_le (I.out b hb) I.grown.size

/-- Nothing that was there has turned. -/
theorem HInv.quiet (I : HInv w0 Fo B w h μ G o) {w' : World} (g : w.grownBy w' none) : Out w0 Fo B w h μ G o w' h μ G o := by
  have ev : Evo w (FF o Fo) h μ G w' (FF o Fo) h μ G :=
    ⟨⟨fun _ h _ => h, fun b hb _ => g.block b hb (by simp), g.size⟩, Nat.le_refl _, fun _ _ => rfl, fun _ _ _ h => h,
      fun _ _ _ _ _ hr => row_same hr rfl (fun b _ _ hm => cell?_of_heap (g.block b (I.hok.rowBlk hr hm).2 (by simp)))⟩
  exact ⟨⟨grownBy.trans I.grown (grownBy.weak g), I.out, HOk.evo ev _ _ I.hok (fun b hb => g.block b (I.hok.lt _ _ b hb).2 (by simp)), I.nodup, I.keys⟩, ev⟩

theorem HInv.drop (I : HInv w0 Fo B w h μ G o) (k : Nat) : ∃ o', Out w0 Fo B w h μ G o w (hdel h k) μ G o' ∧ ∀ c ∈ o', c ∈ o := by
  obtain ⟨rest, hr, hnd, hmem⟩ := HOk.del k h o I.hok I.nodup
  have ev : Evo w (FF o Fo) h μ G w (FF rest Fo) (hdel h k) μ G :=
    ⟨⟨fun b hb _ => hb.imp (hmem b) id, fun _ _ _ => rfl, Nat.le_refl _⟩, Nat.le_refl _, fun _ _ => rfl, fun _ _ _ hf => find_hdel_some h I.keys hf,
      fun _ _ _ _ _ hr => row_same hr (find_hdel_eq h I.keys (cellAt_find hr)) (fun _ _ _ _ => rfl)⟩
  exact ⟨rest, ⟨⟨I.grown, I.out, HOk.evo ev _ _ hr (fun _ _ => rfl), hnd, nodup_hdel h I.keys⟩, ev⟩, hmem⟩

theorem HInv.drops : ∀ (ks : List Nat) {h : List Ent} {o : List Nat}, HInv w0 Fo B w h μ G o → ∃ o', Out w0 Fo B w h μ G o w (hdels h ks) μ G o' ∧ ∀ c ∈ o', c ∈ o
  | [], h, o, I => ⟨o, I.refl, fun _ h => h⟩
  | k :: ks, h, o, I => by
    obtain ⟨o1, h1, m1⟩ := I.drop k
    obtain ⟨o2, h2, m2⟩ := HInv.drops ks h1.1
    exact ⟨o2, Out.trans h1 h2, fun c hc => m1 c (m2 c hc)⟩

def upd (μ : Nat → Value) (g : Nat) (v : Value) : Nat → Value := fun x => if x = g then v else μ x

theorem upd_self (μ : Nat → Value) (g : Nat) (v : Value) : upd μ g v g = v := by simp [upd]
theorem upd_lt {μ : Nat → Value} {g x : Nat} (v : Value) (h : x < g) : upd μ g v x = μ x := by simp [upd, Nat.ne_of_lt h]

theorem HOk.append {w : World} {F : Nat → Prop} {h : List Ent} {μ : Nat → Value} {G lo : Nat} {B : Option Nat} :
    ∀ (a b : List Ent) (o1 o2 : List Nat), HOk w F h μ G lo B a o1 → HOk w F h μ G lo B b o2 → HOk w F h μ G lo B (a ++ b) (o1 ++ o2)
  | [], b, o1, o2, h1, h2 => by cases h1; simpa using h2
  | e :: a, b, o1, o2, ⟨p, q, h1, h2, h3⟩, hb => by
    subst h1
    exact ⟨p, q ++ o2, by simp, h2, HOk.append a b q o2 h3 hb⟩

theorem find_append {k g : Nat} : ∀ (a b : List Ent), (∀ e ∈ a, e.g ≠ g) → find (a ++ b) k g ≠ none → find b k g ≠ none ∧ find (a ++ b) k g = find b k g
  | [], b, _ => fun h => ⟨h, rfl⟩
  | e :: a, b, hg => by
    intro hf
    simp only [List.cons_append, find] at hf ⊢
    split at hf
    · rw [if_neg (hg e (by simp))] at hf; exact absurd rfl hf
    · rename_i hk
      rw [if_neg hk]
      exact find_append a b (fun e he => hg e (by simp [he])) hf

/-- New blocks of the run's own, in front of what is kept of the elder ones ('hA'). -/
theorem HInv.adds (I : HInv w0 Fo B w h μ G o) {hA : List Ent} {rest : List Nat} (hok : HOk w (FF o Fo) h μ G w0.heap.size B hA rest) (hro : ∀ c ∈ rest, c ∈ o)
    (hsub : ∀ j γ, find hA j γ ≠ none → find h j γ = find hA j γ) {w' : World} (gr : w0.grownBy w' B) (hsz : w.heap.size ≤ w'.heap.size)
    (hkeep : ∀ c, c < w.heap.size → c ∉ o → w'.heap[c]? = w.heap[c]?) (hkeep2 : ∀ c ∈ rest, w'.heap[c]? = w.heap[c]?)
    (es : List Ent) (own1 : List Nat) (hkeys : ((es ++ hA).map Ent.k).Nodup) (hnd : (own1 ++ rest).Nodup) (hfr : ∀ c ∈ own1, c ∈ o ∨ w.heap.size ≤ c)
    (μ' : Nat → Value) (G' : Nat) (hG : G ≤ G') (hμ : ∀ x, x < G → μ' x = μ x) (hgen : ∀ e ∈ es, G ≤ e.g)
    (he : Evo w (FF o Fo) h μ G w' (FF (own1 ++ rest) Fo) (es ++ hA) μ' G' → HOk w' (FF (own1 ++ rest) Fo) (es ++ hA) μ' G' w0.heap.size B es own1) :
    Out w0 Fo B w h μ G o w' (es ++ hA) μ' G' (own1 ++ rest) := by
  have ev : Evo w (FF o Fo) h μ G w' (FF (own1 ++ rest) Fo) (es ++ hA) μ' G' := by
    refine ⟨⟨fun c hc hl => ?_, fun c hl hn => hkeep c hl (fun h1 => hn (.inl h1)), hsz⟩, hG, hμ, fun j g hg hf => by
      have h1 := (find_append es hA (fun e he => by have := hgen e he; omega) hf).1
      rw [hsub j g h1]; exact h1, fun j g x d' hg hr => ?_⟩
    case refine_2 =>
      obtain ⟨h1, h2⟩ := find_append es hA (fun e he => by have := hgen e he; omega) (cellAt_find hr)
      refine row_same hr ((hsub j g h1).trans h2.symm) (fun b n c hm => ?_)
      rw [cellAt_eq h2] at hr
      exact cell?_of_heap (hkeep2 b (hok.rowBlk hr hm).1)
    rcases hc with hc | hc
    · rcases List.mem_append.1 hc with hc | hc
      · rcases hfr c hc with h1 | h1
        · exact .inl h1
        · omega
      · exact .inl (hro c hc)
    · exact .inr hc
  exact ⟨⟨gr, I.out, HOk.append _ _ _ _ (he ev) (HOk.evo ev _ _ hok hkeep2), hnd, hkeys⟩, ev⟩

theorem find_hset_ne {k g g' j γ G : Nat} {b b' : Blk} (hg' : g' = g ∨ g' = G) (hγ : γ < G) : ∀ l : List Ent, find l k g = some b → find (hset l k g' b') j γ ≠ none → find l j γ ≠ none
  | [] => fun h => by simp [find] at h
  | e :: es => by
    intro hfl
    simp only [find] at hfl
    by_cases hk : e.k = k
    · rw [if_pos hk] at hfl
      have hge : e.g = g := by
        by_cases hge : e.g = g
        · exact hge
        · rw [if_neg hge] at hfl; cases hfl
      simp only [hset, if_pos hk, find]
      by_cases hj : k = j
      · rw [if_pos hj, if_pos (hk.trans hj)]
        intro h1
        by_cases hgg : g' = γ
        · rcases hg' with h2 | h2
          · rw [if_pos (by omega)]; simp
          · omega
        · rw [if_neg hgg] at h1; exact absurd rfl h1
      · rw [if_neg hj, if_neg (by omega)]; exact id
    · rw [if_neg hk] at hfl
      simp only [hset, if_neg hk, find]
      split
      · exact id
      · exact find_hset_ne hg' hγ es hfl

theorem find_hset_self {k g g' γ : Nat} {b b' : Blk} : ∀ l : List Ent, find l k g = some b → find (hset l k g' b') k γ = if g' = γ then some b' else none
  | [], h => by simp [find] at h
  | e :: es, h => by
    by_cases hk : e.k = k
    · simp [hset, if_pos hk, find]
    · simp only [find, if_neg hk] at h
      simp only [hset, if_neg hk, find]
      exact find_hset_self es h

theorem find_hset_other {k j g' γ : Nat} {b' : Blk} (hj : j ≠ k) : ∀ l : List Ent, find (hset l k g' b') j γ = find l j γ
  | [] => rfl
  | e :: es => by
    by_cases hk : e.k = k
    · simp only [hset, if_pos hk, find]
      rw [if_neg (by omega), if_neg (by omega)]
    · simp only [hset, if_neg hk, find]
      rw [find_hset_other hj es]

/-- A block of the run's own is laid anew: in its place, or with a new number. -/
theorem HInv.replace (I : HInv w0 Fo B w h μ G o) {hA : List Ent} (hkA : (hA.map Ent.k).Nodup) (hsub : ∀ j γ, find hA j γ ≠ none → find h j γ = find hA j γ) {k g : Nat} {b : Blk} (hf : find hA k g = some b) {rest : List Nat}
    (hrest : HOk w (FF o Fo) h μ G w0.heap.size B (hdel hA k) rest) (hro : ∀ c ∈ rest, c ∈ o)
    {w' : World} (gr : w0.grownBy w' B) (hsz : w.heap.size ≤ w'.heap.size) (hkeep : ∀ c, c < w.heap.size → c ∉ o → w'.heap[c]? = w.heap[c]?) (hkeep2 : ∀ c ∈ rest, w'.heap[c]? = w.heap[c]?)
    (b' : Blk) (o' : List Nat) (hnd : (o' ++ rest).Nodup) (hfr : ∀ c ∈ o', c ∈ o ∨ w.heap.size ≤ c) (g' G' : Nat) (μ' : Nat → Value)
    (hg : (g' = g ∧ G' = G ∧ μ' = μ ∧ ∀ x d', cellB b' x = some d' → ∃ d, cellB b x = some d ∧ (isNilD d = false → isNilD d' = false ∧ (isOl d' = true → isOl d = true ∧ ∀ bb n c : Nat, μ g = .slice (some ⟨bb, 0, none⟩) n c → w'.cell? ⟨bb, x, none⟩ = w.cell? ⟨bb, x, none⟩))) ∨ ∃ v, g' = G ∧ G' = G + 1 ∧ μ' = upd μ G v)
    (he : ∀ o'', (∀ c, c ∈ o'' ↔ c ∈ o' ++ rest) → Evo w (FF o Fo) h μ G w' (FF o'' Fo) (hset hA k g' b') μ' G' →
      EOk w' (FF o'' Fo) (hset hA k g' b') μ' G' w0.heap.size B ⟨k, g', b'⟩ o') :
    ∃ o'', (∀ c, c ∈ o'' ↔ c ∈ o' ++ rest) ∧ Out w0 Fo B w h μ G o w' (hset hA k g' b') μ' G' o'' := by
  have hEvo : ∀ o'', (∀ c, c ∈ o'' ↔ c ∈ o' ++ rest) → Evo w (FF o Fo) h μ G w' (FF o'' Fo) (hset hA k g' b') μ' G' := by
    intro o'' hm
    refine ⟨⟨fun c hc hl => ?_, fun c hl hn => hkeep c hl (fun h1 => hn (.inl h1)), hsz⟩, ?_, ?_, ?_, ?_⟩
    · rcases hc with hc | hc
      · rcases List.mem_append.1 ((hm c).1 hc) with hc | hc
        · rcases hfr c hc with h1 | h1
          · exact .inl h1
          · omega
        · exact .inl (hro c hc)
      · exact .inr hc
    · rcases hg with ⟨_, rfl, _⟩ | ⟨v, _, rfl, _⟩ <;> omega
    · rcases hg with ⟨_, _, rfl, _⟩ | ⟨v, _, _, rfl⟩
      · exact fun _ _ => rfl
      · exact fun x hx => upd_lt v hx
    · intro j γ hγ hne
      have hg' : g' = g ∨ g' = G := by rcases hg with ⟨h1, _⟩ | ⟨_, h1, _⟩ <;> simp [h1]
      have h1 := find_hset_ne hg' hγ hA hf hne
      rw [hsub j γ h1]; exact h1
    · intro j γ x d' hγ hr
      by_cases hj : j = k
      · subst hj
        have e1 : find (hset hA j g' b') j γ = if g' = γ then some b' else none := find_hset_self hA hf
        rcases hg with ⟨h1, _, _, h4⟩ | ⟨_, h1, _⟩
        · subst h1
          by_cases hgg : g' = γ
          · subst hgg
            rw [if_pos rfl] at e1
            have hr' : cellB b' x = some d' := by unfold cellAt at hr; rw [e1] at hr; exact hr
            obtain ⟨d, h5, h6⟩ := h4 x d' hr'
            refine ⟨d, ?_, h6⟩
            unfold cellAt
            rw [hsub j g' (by rw [hf]; simp), hf]
            exact h5
          · rw [if_neg hgg] at e1
            exact absurd e1 (cellAt_find hr)
        · rw [if_neg (by omega)] at e1
          exact absurd e1 (cellAt_find hr)
      · have e1 : find (hset hA k g' b') j γ = find hA j γ := find_hset_other hj hA
        have hf1 := cellAt_find hr
        rw [e1] at hf1
        refine row_same hr ((hsub j γ hf1).trans e1.symm) (fun bb n c hm => ?_)
        rw [cellAt_eq (e1.trans (find_hdel_ne hj hA).symm)] at hr
        exact cell?_of_heap (hkeep2 bb (hrest.rowBlk hr hm).1)
  obtain ⟨o'', ho, hnd'', hm⟩ := HOk.set (w := w') (F := FF (o' ++ rest) Fo) (h := hset hA k g' b') (μ := μ') (G := G') (lo := w0.heap.size) (B := B) (k := k) (g := g) (g' := g') (b := b) (b' := b') (o' := o')
    (he (o' ++ rest) (fun c => Iff.rfl) (hEvo _ (fun c => Iff.rfl))) hA rest hf (HOk.evo (hEvo (o' ++ rest) (fun c => Iff.rfl)) _ _ hrest hkeep2) hnd
  refine ⟨o'', hm, ⟨⟨gr, I.out, ?_, hnd'', by rw [map_k_hset]; exact hkA⟩, hEvo o'' hm⟩⟩
  have e : FF (o' ++ rest) Fo = FF o'' Fo := by
    funext c; simp only [FF, hm c]
  have ho2 := ho
  rw [e] at ho2
  exact ho2

/-- An entry taken out of the run's own: what it owned is nobody's. -/
theorem HInv.takeOut (I : HInv w0 Fo B w h μ G o) {k g : Nat} {b : Blk} (hf : find h k g = some b) :
    ∃ o1 rest, EOk w (FF o Fo) h μ G w0.heap.size B ⟨k, g, b⟩ o1 ∧ HOk w (FF o Fo) h μ G w0.heap.size B (hdel h k) rest ∧ (o1 ++ rest).Nodup ∧ (∀ c ∈ o1 ++ rest, c ∈ o) ∧
      Out w0 Fo B w h μ G o w (hdel h k) μ G rest := by
  obtain ⟨o1, rest, he, hr, hnd, hmem⟩ := HOk.take h o I.hok hf I.nodup
  have ev : Evo w (FF o Fo) h μ G w (FF rest Fo) (hdel h k) μ G :=
    ⟨⟨fun b hb _ => hb.imp (fun hb => (hmem b).2 (by simp [hb])) id, fun _ _ _ => rfl, Nat.le_refl _⟩, Nat.le_refl _, fun _ _ => rfl, fun _ _ _ hf => find_hdel_some h I.keys hf,
      fun _ _ _ _ _ hr => row_same hr (find_hdel_eq h I.keys (cellAt_find hr)) (fun _ _ _ _ => rfl)⟩
  exact ⟨o1, rest, he, hr, hnd, fun c hc => (hmem c).2 hc, ⟨I.grown, I.out, HOk.evo ev _ _ hr (fun _ _ => rfl), (List.nodup_append.1 hnd).2.1, nodup_hdel h I.keys⟩, ev⟩

end

end Go.PS
end

section
-- The machine's operations against the clean ones: what the types are, how an operation of the program reads as a clean one, numbers.
set_option linter.unusedVariables false
set_option linter.unusedSimpArgs false
namespace Go.PS

/-- The clean table of types says the truth of the program. -/
structure TyOk (P : Program) (tt : Nat → Ty) : Prop where
  int : ∀ T k, (tt T).kd = .int k → P.underlying T = some (.int k)
  bool : ∀ T, (tt T).kd = .bool → P.underlying T = some .bool
  str : ∀ T, (tt T).kd = .str → P.underlying T = some .string
  slice : ∀ T e, (tt T).kd = .slice e → P.underlying T = some (.slice e)
  ptr : ∀ T e, (tt T).kd = .ptr e → P.underlying T = some (.pointer e)
  func : ∀ T, (tt T).kd = .func → ∃ ps rs v, P.underlying T = some (.func ps rs v)
  struct : ∀ T fs, (tt T).kd = .struct fs → ∃ fields : Array Field, P.underlying T = some (.struct fields) ∧ (∀ i : Nat, (fields[i]?).map (fun f => (f.offset, f.type)) = fs[i]?) ∧
    fields.toList.mapM (fun f => (P.info? f.type).map fun i => (f.offset, i.size)) = some (fs.map fun p => (p.1, (tt p.2).sz))
  info : ∀ T, (tt T).kd ≠ .other → ∃ i, P.info? T = some i ∧ i.size = (tt T).sz ∧ i.bytes = (tt T).bytes ∧ (tt T).bytes ≤ 64 ∧ ∀ z, (tt T).zero = some z → (∃ zv, i.zero = some zv ∧ ∀ (w : World) (F : Nat → Prop), Rep w F z zv) ∧ fitsT (tt T) z ∧ pureD 5 z = true

def cv : Value → D
  | .bool b => .bool b
  | .int k n => .int k n
  | .string s => .str s.data.toList
  | .slice none 0 0 => .nil
  | .tuple vs => if vs.size = 0 then .undef else .junk
  | _ => .junk

def co : Operand → Opd
  | .tmp t => .t t
  | .const v => .c (cv v)
  | .func f => .f f
  | .global _ => .c .junk

def ccall : Callee → List Operand → List TypeId → Option AOp
  | .builtin .len, [x], [T] => some (.len T (co x))
  | .builtin .append, [x, y], [T, S] => some (.app T S (co x) (co y))
  | .builtin .max, [x, y], _ => some (.max (co x) (co y))
  | .builtin .min, [x, y], _ => some (.min (co x) (co y))
  | .value f, args, _ => some (.call (co f) (args.map co))
  | _, _, _ => none

def cop : Op → Option AOp
  | .move x | .assign x => some (.mv (co x))
  | .pick c a b => some (.pick (co c) (co a) (co b))
  | .alloc T => some (.alloc T)
  | .box T x => some (.box T (co x))
  | .build T ps => some (.build T (ps.toList.map fun p => (p.1, co p.2)))
  | .buildSlice T n ps => some (.bslice T n (ps.toList.map fun p => (p.1, co p.2)))
  | .load T x => some (.load T (co x))
  | .store T x v => some (.store T (co x) (co v))
  | .nilCheck x => some (.nilck (co x))
  | .binOp op T x y _ => some (.bin op T (co x) (co y))
  | .unOp op _ x => some (.un op (co x))
  | .convert S T x => some (.conv S T (co x))
  | .makeFunc (.func f) first caps => if first.size = 0 then some (.mkfn f (caps.toList.map co)) else none
  | .makeSlice T l c => some (.make T (co l) (co c))
  | .slice T x lo hi none => some (.slice T (co x) (lo.map co) (hi.map co))
  | .fieldAddr T x i => some (.faddr T (co x) i)
  | .field T x i => some (.field T (co x) i)
  | .indexAddr T x i => some (.iaddr T (co x) (co i))
  | .index T x i => some (.index T (co x) (co i))
  | .extract x i => some (.ext (co x) i)
  | .call c => ccall c.callee c.args.toList c.argTypes.toList
  | _ => none

def cgd (ops : Array Oper) : Option (Nat × Bool) → Option (Option (Nat × Bool))
  | none => some none
  | some (j, want) => ((ops[j]?).bind (·.dst)).map fun d => some (d, want)

def cper (ops : Array Oper) (nt fl : Nat) (o : Oper) : Option AOper :=
  match cop o.op, cgd ops o.guard with
  | some a, some gd => if (o.dst.all fun d => decide (d < nt)) = true then some ⟨o.dst, a, o.type, gd, fl⟩ else none
  | _, _ => none

def TRel (w : World) (F : Nat → Prop) (h : List Ent) (μ : Nat → Value) (G : Nat) (t : List (Nat × D)) (tmps : Array Value) : Prop :=
  ∀ k, VRep w F h μ G (getT t k) (tmps.getD k undef)

section
variable {w : World} {F : Nat → Prop} {h : List Ent} {μ : Nat → Value} {G : Nat}

theorem VRep.cv (v : Value) : VRep w F h μ G (cv v) v := by
  cases v with
  | bool b => exact .imm _ _ (.bool b)
  | int k n => exact .imm _ _ (.int k n)
  | string s =>
    have := Rep.str (w := w) (F := F) s.data.toList
    exact .imm _ _ (by simpa [PS.cv] using this)
  | slice a n c =>
    cases a with
    | some a => exact .imm _ _ (.junk _)
    | none =>
      cases n with
      | succ n => exact .imm _ _ (.junk _)
      | zero =>
        cases c with
        | succ c => exact .imm _ _ (.junk _)
        | zero => exact .imm _ _ .nil
  | tuple vs =>
    by_cases e : vs.size = 0
    · have : vs = #[] := Array.eq_empty_of_size_eq_zero e
      subst this
      exact .undef
    · simp only [PS.cv, if_neg e]
      exact .imm _ _ (.junk _)
  | _ => exact .imm _ _ (.junk _)

theorem TRel.eval {t : List (Nat × D)} {a : Act} (hT : TRel w F h μ G t a.tmps) (x : Operand) : VRep w F h μ G (ev t (co x)) (a.eval x) := by
  cases x with
  | tmp k => exact hT k
  | const v => exact .cv v
  | global g => exact .imm _ _ (.junk _)
  | func f => exact .imm _ _ (.fn f [] [] rfl (by simp))

theorem TRel.evo {w' : World} {F' : Nat → Prop} {h' : List Ent} {μ' : Nat → Value} {G' : Nat} {t : List (Nat × D)} {tmps : Array Value} (hT : TRel w F h μ G t tmps)
    (e : Evo w F h μ G w' F' h' μ' G') : TRel w' F' h' μ' G' t tmps := fun k => (hT k).evo e

theorem TRel.put {t : List (Nat × D)} {a : Act} (hT : TRel w F h μ G t a.tmps) (dst : Option Nat) (hd : ∀ d, dst = some d → d < a.tmps.size) {d : D} {v : Value} (r : VRep w F h μ G d v) :
    TRel w F h μ G (put t dst d) (a.put dst v).tmps := by
  cases dst with
  | none => exact hT
  | some k =>
    intro j
    simp only [PS.put, Act.put, getT]
    by_cases hj : k = j
    · subst hj
      rw [if_pos rfl]
      have := hd k rfl
      simpa [Array.getD, this] using r
    · rw [if_neg hj]
      have := hT j
      simp only [Array.getD_eq_getD_getElem?] at this ⊢
      rw [Array.getElem?_setIfInBounds_ne hj]
      exact this

/-- One cell. -/
theorem VRep.cell {d : D} {v : Value} (r : VRep w F h μ G d v) (hc : isCell d = true) : v.oneCell' = true ∧ v.cells = #[v] := by
  cases r with
  | imm d v r => cases r <;> first | exact ⟨rfl, rfl⟩ | (simp [isCell] at hc)
  | undef => simp [isCell] at hc
  | lit => exact ⟨rfl, rfl⟩
  | agg => simp [isCell] at hc
  | tup => simp [isCell] at hc
  | fn => exact ⟨rfl, rfl⟩
  | ptr => exact ⟨rfl, rfl⟩
  | arr => exact ⟨rfl, rfl⟩
  | row => exact ⟨rfl, rfl⟩
  | rptr => exact ⟨rfl, rfl⟩

theorem Ones.sub {vs ws : List Value} (h : Ones vs) (hs : ∀ v ∈ ws, v ∈ vs) : Ones ws := fun v hv => h v (hs v hv)

/-- The cells of a value that fits a type. -/
theorem VRep.fits {d : D} {v : Value} {t : Ty} (r : VRep w F h μ G d v) (hf : fitsT t d) : v.cells.size = t.sz ∧ (∀ (j : Nat) (u : Value), v.cells[j]? = some u → u.oneCell' = true) ∧
    (cellsD d).length = v.cells.size ∧ (∀ (j : Nat) (e : D) (u : Value), (cellsD d)[j]? = some e → v.cells[j]? = some u → VRep w F h μ G e u) := by
  by_cases ha : isAgg d = true
  · cases d with
    | agg xs =>
      have key : ∃ vs : List Value, v = .agg vs.toArray ∧ vs.length = xs.length ∧ Ones vs ∧ ∀ (i : Nat) (d : D) (v : Value), xs[i]? = some d → vs[i]? = some v → VRep w F h μ G d v := by
        cases r with
        | imm d v r => cases r with
          | agg xs vs h1 h2 h3 => exact ⟨vs, rfl, h1, h3, fun i d v hd hv => .imm _ _ (h2 i d v hd hv)⟩
        | agg xs vs h1 h2 h3 => exact ⟨vs, rfl, h1, h3, h2⟩
      obtain ⟨vs, rfl, h1, h2, h3⟩ := key
      refine ⟨by simpa [Value.cells, h1] using hf.2, ?_, by simp [cellsD, Value.cells, h1], ?_⟩
      · intro j u hu
        exact h2 u (by simpa [Value.cells] using List.mem_of_getElem? (by simpa [Value.cells] using hu))
      · intro j e u he hu
        exact h3 j e u he (by simpa [Value.cells] using hu)
    | _ => simp [isAgg] at ha
  · have hc : isCell d = true := by cases d <;> simp_all [fitsT, isAgg]
    have hs : t.sz = 1 := by cases d <;> simp_all [fitsT, isAgg]
    obtain ⟨h1, h2⟩ := r.cell hc
    have hcd : cellsD d = [d] := by cases d <;> simp_all [cellsD, isAgg]
    rw [h2, hcd]
    refine ⟨by simp [hs], ?_, by simp, ?_⟩
    · intro j u hu
      cases j with
      | zero => obtain rfl : v = u := by simpa using hu
                exact h1
      | succ j => simp at hu
    · intro j e u he hu
      cases j with
      | zero =>
        obtain rfl : v = u := by simpa using hu
        obtain rfl : d = e := by simpa using he
        exact r
      | succ j => simp at hu

theorem VRep.pure {d : D} {v : Value} : ∀ n, VRep w F h μ G d v → pureD n d = true → Rep w F d v := by
  intro n r
  induction r generalizing n with
  | imm d v r => intro _; exact r
  | undef => intro hp; cases n <;> simp [pureD] at hp
  | lit => intro hp; cases n <;> simp [pureD] at hp
  | agg xs vs h1 h2 h3 ih =>
    intro hp
    cases n with
    | zero => simp [pureD] at hp
    | succ n =>
      simp only [pureD, List.all_eq_true] at hp
      exact .agg xs vs h1 (fun i d v hd hv => ih i d v hd hv n (hp d (List.mem_of_getElem? hd))) h3
  | tup xs vs h1 h2 ih =>
    intro hp
    cases n with
    | zero => simp [pureD] at hp
    | succ n =>
      simp only [pureD, List.all_eq_true] at hp
      exact .tup xs vs h1 (fun i d v hd hv => ih i d v hd hv n (hp d (List.mem_of_getElem? hd)))
  | fn f xs vs h1 h2 ih =>
    intro hp
    cases n with
    | zero => simp [pureD] at hp
    | succ n =>
      simp only [pureD, List.all_eq_true] at hp
      exact .fn f xs vs h1 (fun i d v hd hv => ih i d v hd hv n (hp d (List.mem_of_getElem? hd)))
  | ptr => intro hp; cases n <;> simp [pureD] at hp
  | arr => intro hp; cases n <;> simp [pureD] at hp
  | row => intro hp; cases n <;> simp [pureD] at hp
  | rptr => intro hp; cases n <;> simp [pureD] at hp

end
end Go.PS
end

section
-- How a value reads where it is handed on: as a list, as the caller's own, as what a call has made.
set_option linter.unusedVariables false
set_option linter.unusedSimpArgs false
namespace Go.PS
theorem ORep.olist_inv {w : World} {F : Nat → Prop} {lo sz : Nat} {xs : List D} {v : Value} {o : List Nat} (r : ORep w F lo (.olist sz xs) v o) :
    (v = .slice none 0 0 ∧ xs = [] ∧ o = []) ∨
    ∃ (vs : List Value) (os : List (List Nat)) (b cap : Nat) (cur : Array Value) (E : TypeId), v = .slice (some ⟨b, 0, none⟩) xs.length cap ∧ o = b :: os.flatten ∧ vs.length = xs.length ∧ os.length = xs.length ∧
      (∀ (i : Nat) (d : D) (v : Value) (o : List Nat), xs[i]? = some d → vs[i]? = some v → os[i]? = some o → ORep w F lo d v o) ∧
      w.heap[b]? = some (.cells cur E (0, 0)) ∧ cur.size = cap * sz ∧ xs.length ≤ cap ∧ cap ≤ maxLen ∧ Row w b 0 sz vs ∧ lo ≤ b := by
  cases r with
  | base d v hr => cases hr
  | olistE => exact .inl ⟨rfl, rfl, rfl⟩
  | olist _ _ vs os b cap cur E h1 h2 h3 h4 h5 h6 h7 h8 h9 => exact .inr ⟨vs, os, b, cap, cur, E, rfl, rfl, h1, h2, h3, h4, h5, h6, h7, h8, h9⟩

section
variable {w : World} {F : Nat → Prop}

theorem getElem?_map_some {α β : Type} {f : α → β} {xs : List α} {i : Nat} {b : β} (h : (xs.map f)[i]? = some b) : ∃ a, xs[i]? = some a ∧ f a = b := by
  rw [List.getElem?_map] at h
  cases hx : xs[i]? with
  | none => rw [hx] at h; cases h
  | some a => rw [hx] at h; exact ⟨a, rfl, by simpa using h⟩

theorem Rep.imm {d : D} {v : Value} (r : Rep w F d v) : ∀ n, Rep w F (imm n d) v := by
  induction r with
  | junk v => intro n; cases n <;> exact .junk v
  | bool b => intro n; cases n <;> exact .bool b
  | int k m => intro n; cases n <;> exact .int k m
  | str s => intro n; cases n <;> exact .str s
  | nil => intro n; cases n <;> exact .nil
  | listE sz a cap => intro n; cases n <;> exact .listE sz a cap
  | list sz xs vs b o cap h1 h2 h3 h4 h5 h6 h7 => intro n; cases n <;> exact .list sz xs vs b o cap h1 h2 h3 h4 h5 h6 h7
  | agg xs vs h1 h2 h3 ih =>
    intro n
    cases n with
    | zero => exact .junk _
    | succ n => exact .agg _ vs (by simpa using h1) (fun i d v hd hv => by obtain ⟨e, he, rfl⟩ := getElem?_map_some hd; exact ih i e v he hv n) h3
  | tup xs vs h1 h2 ih =>
    intro n
    cases n with
    | zero => exact .junk _
    | succ n => exact .tup _ vs (by simpa using h1) (fun i d v hd hv => by obtain ⟨e, he, rfl⟩ := getElem?_map_some hd; exact ih i e v he hv n)
  | fn f xs vs h1 h2 ih => intro n; cases n <;> exact .fn f xs vs h1 h2
  | iptr d v b o h1 h2 h3 h4 => intro n; cases n <;> exact .iptr d v b o h1 h2 h3 h4

theorem ORep.imm {lo : Nat} {d : D} {v : Value} {o : List Nat} (r : ORep w F lo d v o) {F' : Nat → Prop} (hF : ∀ b, F' b → b < w.heap.size → F b) :
    (∀ b ∈ o, ¬ F' b) → ∀ n, Rep w F' (imm n d) v := by
  induction r with
  | base d v hr => intro _ n; exact (hr.weak hF).imm n
  | olistE sz => intro _ n; cases n <;> first | exact .junk _ | exact .listE sz none 0
  | olist sz xs vs os b cap cur E h1 h2 h3 h4 h5 h6 h7 h8 h9 ih =>
    intro ho n
    cases n with
    | zero => exact .junk _
    | succ n =>
      have hlt : b < w.heap.size := (Array.getElem?_eq_some_iff.1 h4).1
      have := Rep.list (w := w) (F := F') sz (xs.map (PS.imm n)) vs b 0 cap (by simpa using h1) (by simpa using h6) (by simpa using Nat.le_trans h6 h7) (fun i d v hd hv => by
        obtain ⟨e, he, rfl⟩ := getElem?_map_some hd
        have hi : i < xs.length := (List.getElem?_eq_some_iff.1 he).1
        exact ih i e v (os[i]'(by omega)) he hv (List.getElem?_eq_getElem _) (fun c hc => ho c (List.mem_cons_of_mem _ (mem_flatten_of (List.getElem?_eq_getElem (by omega)) hc))) n) h8 hlt (ho b (by simp))
      rw [List.length_map] at this
      exact this
  | agg xs vs os h1 h2 h3 h4 ih =>
    intro ho n
    cases n with
    | zero => exact .junk _
    | succ n => exact .agg _ vs (by simpa using h1) (fun i d v hd hv => by
        obtain ⟨e, he, rfl⟩ := getElem?_map_some hd
        have hi : i < xs.length := (List.getElem?_eq_some_iff.1 he).1
        exact ih i e v (os[i]'(by omega)) he hv (List.getElem?_eq_getElem _) (fun c hc => ho c (mem_flatten_of (List.getElem?_eq_getElem (by omega)) hc)) n) h4
  | tup xs vs os h1 h2 h3 ih =>
    intro ho n
    cases n with
    | zero => exact .junk _
    | succ n => exact .tup _ vs (by simpa using h1) (fun i d v hd hv => by
        obtain ⟨e, he, rfl⟩ := getElem?_map_some hd
        have hi : i < xs.length := (List.getElem?_eq_some_iff.1 he).1
        exact ih i e v (os[i]'(by omega)) he hv (List.getElem?_eq_getElem _) (fun c hc => ho c (mem_flatten_of (List.getElem?_eq_getElem (by omega)) hc)) n)

theorem Rep.der (h : List Ent) {d : D} {v : Value} (r : Rep w F d v) : ∀ n, Rep w F (der h n d) v := by
  induction r with
  | junk v => intro n; cases n <;> exact .junk v
  | bool b => intro n; cases n <;> exact .bool b
  | int k m => intro n; cases n <;> exact .int k m
  | str s => intro n; cases n <;> exact .str s
  | nil => intro n; cases n <;> exact .listE 1 none 0
  | listE sz a cap => intro n; cases n <;> exact .listE sz a cap
  | list sz xs vs b o cap h1 h2 h3 h4 h5 h6 h7 => intro n; cases n <;> exact .list sz xs vs b o cap h1 h2 h3 h4 h5 h6 h7
  | agg xs vs h1 h2 h3 ih =>
    intro n
    cases n with
    | zero => exact .junk _
    | succ n => exact .agg _ vs (by simpa using h1) (fun i d v hd hv => by obtain ⟨e, he, rfl⟩ := getElem?_map_some hd; exact ih i e v he hv n) h3
  | tup xs vs h1 h2 ih =>
    intro n
    cases n with
    | zero => exact .junk _
    | succ n => exact .tup _ vs (by simpa using h1) (fun i d v hd hv => by obtain ⟨e, he, rfl⟩ := getElem?_map_some hd; exact ih i e v he hv n)
  | fn f xs vs h1 h2 ih =>
    intro n
    cases n with
    | zero => exact .junk _
    | succ n => exact .fn f _ vs (by simpa using h1) (fun i d v hd hv => by obtain ⟨e, he, rfl⟩ := getElem?_map_some hd; exact ih i e v he hv n)
  | iptr d v b o h1 h2 h3 h4 => intro n; cases n <;> exact .iptr d v b o h1 h2 h3 h4

theorem Rep.derS {d : D} {v : Value} (r : Rep w F d v) : ∀ n, Rep w F (derS n d) v := by
  induction r with
  | junk v => intro n; cases n <;> exact .junk v
  | bool b => intro n; cases n <;> exact .bool b
  | int k m => intro n; cases n <;> exact .int k m
  | str s => intro n; cases n <;> exact .str s
  | nil => intro n; cases n <;> exact .listE 1 none 0
  | listE sz a cap => intro n; cases n <;> exact .listE sz a cap
  | list sz xs vs b o cap h1 h2 h3 h4 h5 h6 h7 => intro n; cases n <;> exact .list sz xs vs b o cap h1 h2 h3 h4 h5 h6 h7
  | agg xs vs h1 h2 h3 ih =>
    intro n
    cases n with
    | zero => exact .junk _
    | succ n => exact .agg _ vs (by simpa using h1) (fun i d v hd hv => by obtain ⟨e, he, rfl⟩ := getElem?_map_some hd; exact ih i e v he hv n) h3
  | tup xs vs h1 h2 ih =>
    intro n
    cases n with
    | zero => exact .junk _
    | succ n => exact .tup _ vs (by simpa using h1) (fun i d v hd hv => by obtain ⟨e, he, rfl⟩ := getElem?_map_some hd; exact ih i e v he hv n)
  | fn f xs vs h1 h2 ih =>
    intro n
    cases n with
    | zero => exact .junk _
    | succ n => exact .fn f _ vs (by simpa using h1) (fun i d v hd hv => by obtain ⟨e, he, rfl⟩ := getElem?_map_some hd; exact ih i e v he hv n)
  | iptr d v b o h1 h2 h3 h4 => intro n; cases n <;> exact .iptr d v b o h1 h2 h3 h4

theorem Rep.pure_of_cell {v : Value} (hv : v.oneCell' = true) : v.cells = #[v] := by cases v <;> first | rfl | (simp [Value.oneCell'] at hv)

variable {h : List Ent} {μ : Nat → Value} {G : Nat}

theorem VRep.derS {d : D} {v : Value} (r : VRep w F h μ G d v) : ∀ n, Rep w F (derS n d) v := by
  induction r with
  | imm d v r => intro n; exact r.derS n
  | undef => intro n; cases n <;> exact .junk _
  | lit sz xs vs b cap h1 h2 h3 _ h5 h6 h7 ih =>
    intro n
    cases n with
    | zero => exact .junk _
    | succ n =>
      have := Rep.list (w := w) (F := F) sz (xs.map (PS.derS n)) vs b 0 cap (by simpa using h1) (by simpa using h2) (by simpa using h3) (fun i d v hd hv => by
        obtain ⟨e, he, rfl⟩ := getElem?_map_some hd; exact ih i e v he hv n) h5 h6 h7
      rw [List.length_map] at this
      exact this
  | agg xs vs h1 h2 h3 ih =>
    intro n
    cases n with
    | zero => exact .junk _
    | succ n => exact .agg _ vs (by simpa using h1) (fun i d v hd hv => by obtain ⟨e, he, rfl⟩ := getElem?_map_some hd; exact ih i e v he hv n) h3
  | tup xs vs h1 h2 ih =>
    intro n
    cases n with
    | zero => exact .junk _
    | succ n => exact .tup _ vs (by simpa using h1) (fun i d v hd hv => by obtain ⟨e, he, rfl⟩ := getElem?_map_some hd; exact ih i e v he hv n)
  | fn f xs vs h1 h2 ih =>
    intro n
    cases n with
    | zero => exact .junk _
    | succ n => exact .fn f _ vs (by simpa using h1) (fun i d v hd hv => by obtain ⟨e, he, rfl⟩ := getElem?_map_some hd; exact ih i e v he hv n)
  | ptr => intro n; cases n <;> exact .junk _
  | arr => intro n; cases n <;> exact .junk _
  | row => intro n; cases n <;> exact .junk _
  | rptr => intro n; cases n <;> exact .junk _


theorem EOk.cellsOf {lo : Nat} {B : Option Nat} {k g : Nat} {cs : List D} {o : List Nat} (he : EOk w F h μ G lo B ⟨k, g, .cells cs⟩ o) :
    ∃ (b : Nat) (vs : List Value) (E : TypeId), μ g = .pointer (some ⟨b, 0, none⟩) ∧ w.heap[b]? = some (.cells vs.toArray E (0, 0)) ∧ vs.length = cs.length ∧ Ones vs ∧
      (∀ (i : Nat) (d : D) (v : Value), cs[i]? = some d → vs[i]? = some v → VRep w F h μ G d v) ∧ o = [b] ∧ (lo ≤ b ∨ B = some b) := he.2

theorem EOk.arrOf {lo : Nat} {B : Option Nat} {k g sz : Nat} {xs : List D} {o : List Nat} (he : EOk w F h μ G lo B ⟨k, g, .arr sz xs⟩ o) : ORep w F lo (.olist sz xs) (μ g) o := he.2

/-- A row of one-cell values is what a block's cells say. -/
theorem row_of_cells {b : Nat} {vs : List Value} {E : TypeId} {fz : Nat × Nat} (hb : w.heap[b]? = some (.cells vs.toArray E fz)) (h1 : Ones vs) : Row w b 0 1 vs := by
  intro i v hv
  have ho := h1 v (List.mem_of_getElem? hv)
  rw [Rep.pure_of_cell ho]
  refine ⟨rfl, fun j u hu => ?_⟩
  cases j with
  | zero =>
    obtain rfl : v = u := by simpa using hu
    exact ⟨ho, by simp [World.cell?, hb, hv]⟩
  | succ j => simp at hu

/-- A list of the run's own holds its row: what the row's cell says stands for it. -/
theorem HOk.rowOf {lo : Nat} {B : Option Nat} {l : List Ent} {o : List Nat} (hok : HOk w F h μ G lo B l o) {k g x s : Nat} {ys : List D} (hr : rowAt l k g x = some (s, ys)) {b n c : Nat} (hm : μ g = .slice (some ⟨b, 0, none⟩) n c) :
    ∃ o1, (∀ v, w.cell? ⟨b, x, none⟩ = some v → ORep w F lo (.olist s ys) v o1) ∧ ∀ c ∈ o1, c ∈ o := by
  unfold rowAt at hr
  split at hr
  · rename_i blk hf
    obtain ⟨o1, he, hin⟩ := hok.has l o hf
    cases blk with
    | cells cs => simp [rowB] at hr
    | arr sz xs =>
      have ho := he.2
      simp only at ho
      rw [hm] at ho
      simp only [rowB] at hr
      split at hr
      · rename_i s' ys' hx
        injection hr with hr
        injection hr with h1 h2
        subst h1; subst h2
        cases ho with
        | base _ _ r => cases r
        | olist _ _ vs os _ cap cur E h1 h2 h3 h4 h5 h6 h7 h8 h9 =>
          have hlt : x < xs.length := (List.getElem?_eq_some_iff.1 hx).1
          have hv : vs[x]? = some (vs[x]'(by omega)) := List.getElem?_eq_getElem _
          have hos : os[x]? = some (os[x]'(by omega)) := List.getElem?_eq_getElem _
          have hO := h3 x _ _ _ hx hv hos
          refine ⟨os[x]'(by omega), fun v hc => ?_, fun c hc => hin c (List.mem_cons_of_mem _ (mem_flatten_of hos hc))⟩
          have hone : (vs[x]'(by omega)).cells = #[vs[x]'(by omega)] := by
            rcases hO.olist_inv with ⟨e, _⟩ | ⟨_, _, _, _, _, _, e, _⟩ <;> rw [e] <;> rfl
          obtain ⟨g1, g2⟩ := h8 x _ hv
          have g3 := g2 0 (vs[x]'(by omega)) (by rw [hone]; rfl)
          rw [hone] at g1
          have hsz : sz = 1 := by simpa using g1.symm
          subst hsz
          have e : w.cell? ⟨b, x, none⟩ = some (vs[x]'(by omega)) := by simpa using g3.2
          rw [e] at hc
          injection hc with hc
          rw [← hc]; exact hO
      · cases hr
  · cases hr

theorem VRep.der {lo : Nat} {B : Option Nat} {o : List Nat} (hok : HOk w F h μ G lo B h o) : ∀ (n : Nat) (d : D) (v : Value), VRep w F h μ G d v → Rep w (fun _ => False) (der h n d) v := by
  intro n
  induction n with
  | zero =>
    intro d v r
    cases r with
    | imm d v r => exact (r.weak (fun _ hf _ => hf.elim)).der h 0
    | _ => exact .junk _
  | succ n ih =>
    intro d v r
    have ihl : ∀ (xs : List D) (vs : List Value), (∀ (i : Nat) (d : D) (v : Value), xs[i]? = some d → vs[i]? = some v → VRep w F h μ G d v) →
        ∀ (i : Nat) (d : D) (v : Value), (xs.map (PS.der h n))[i]? = some d → vs[i]? = some v → Rep w (fun _ => False) d v := fun xs vs hx i d v hd hv => by
      obtain ⟨e, he, rfl⟩ := getElem?_map_some hd; exact ih e v (hx i e v he hv)
    cases r with
    | imm d v r => exact (r.weak (fun _ hf _ => hf.elim)).der h (n + 1)
    | undef => exact .junk _
    | lit sz xs vs b cap h1 h2 h3 h4 h5 h6 h7 =>
      have := Rep.list (w := w) (F := fun _ => False) sz (xs.map (PS.der h n)) vs b 0 cap (by simpa using h1) (by simpa using h2) (by simpa using h3) (ihl xs vs h4) h5 h6 (fun f => f)
      rw [List.length_map] at this
      exact this
    | agg xs vs h1 h2 h3 => exact .agg _ vs (by simpa using h1) (ihl xs vs h2) h3
    | tup xs vs h1 h2 => exact .tup _ vs (by simpa using h1) (ihl xs vs h2)
    | fn f xs vs h1 h2 => exact .fn f _ vs (by simpa using h1) (ihl xs vs h2)
    | ptr k g off a hg hp =>
      cases off with
      | succ off => exact .junk _
      | zero =>
        cases hf : find h k g with
        | none => simp only [PS.der, hf]; exact .junk _
        | some blk =>
          obtain ⟨b, hb, rfl⟩ := hp (by rw [hf]; simp)
          obtain ⟨o1, he, _⟩ := hok.has h o hf
          cases blk with
          | arr sz xs => simp only [PS.der, hf]; exact .junk _
          | cells cs =>
            obtain ⟨b', vs, E, hm, hh, hl, h1, hr, _, _⟩ := he.cellsOf
            have hbb : b' = b := by
              rcases hb with hb | ⟨n', c', hb⟩
              · rw [hm] at hb; injection hb with hb; injection hb with hb; injection hb
              · rw [hm] at hb; cases hb
            subst hbb
            have hlt : b' < w.heap.size := (Array.getElem?_eq_some_iff.1 hh).1
            have many : Rep w (fun _ => False) (.iptr (.agg (cs.map (PS.der h n)))) (.pointer (some ⟨b', 0, none⟩)) := by
              refine .iptr _ (.agg vs.toArray) b' 0 (.agg _ vs (by simpa using hl) (ihl cs vs hr) h1) (fun j u hu => ?_) hlt (fun f => f)
              have hu' : vs[j]? = some u := by simpa [Value.cells] using hu
              exact ⟨h1 u (List.mem_of_getElem? hu'), by simp [World.cell?, hh, hu']⟩
            cases cs with
            | nil => simp only [PS.der, hf]; exact many
            | cons c cs =>
              cases cs with
              | nil =>
                simp only [PS.der, hf]
                cases vs with
                | nil => simp at hl
                | cons u us =>
                  have hu : u.oneCell' = true := h1 u (by simp)
                  refine .iptr _ u b' 0 (ih c u (hr 0 c u rfl rfl)) (fun j x hx => ?_) hlt (fun f => f)
                  rw [Rep.pure_of_cell hu] at hx
                  cases j with
                  | zero => obtain rfl : u = x := by simpa using hx
                            exact ⟨hu, by simp [World.cell?, hh]⟩
                  | succ j => simp at hx
              | cons c' cs => simp only [PS.der, hf]; exact many
    | arr k g a m c hg hp =>
      cases hf : find h k g with
      | none => simp only [PS.der, hf]; exact .junk _
      | some blk =>
        have hv := hp (by rw [hf]; simp)
        obtain ⟨o1, he, _⟩ := hok.has h o hf
        cases blk with
        | cells cs => simp only [PS.der, hf]; exact .junk _
        | arr sz xs =>
          simp only [PS.der, hf]
          rw [hv]
          have := he.arrOf.imm (F' := fun _ => False) (fun _ hf _ => hf.elim) (fun _ _ hf => hf) (n + 1)
          simpa [PS.imm] using this
    | row k g x a m c hg hp =>
      simp only [PS.der]
      cases hr : rowAt h k g x with
      | none => exact .junk _
      | some q =>
        obtain ⟨s, ys⟩ := q
        obtain ⟨b, n', c', hm, hc⟩ := (hp _ (rowAt_cell hr)).2 rfl
        obtain ⟨o1, hrow, _⟩ := hok.rowOf hr hm
        have := (hrow _ hc).imm (F' := fun _ => False) (fun _ hf _ => hf.elim) (fun _ _ hf => hf) (n + 1)
        simpa [PS.imm, rowD] using this
    | rptr => exact .junk _

end

theorem hdels_append : ∀ (h : List Ent) (a b : List Nat), hdels h (a ++ b) = hdels (hdels h a) b
  | h, [], b => rfl
  | h, k :: a, b => by simp only [List.cons_append, hdels]; exact hdels_append (hdel h k) a b

theorem find_hdels_ne {j g : Nat} : ∀ (ks : List Nat) (l : List Ent), j ∉ ks → find (hdels l ks) j g = find l j g
  | [], l, _ => rfl
  | k :: ks, l, hn => by
    simp only [List.mem_cons, not_or] at hn
    simp only [hdels]
    rw [find_hdels_ne ks _ hn.2, find_hdel_ne hn.1]

theorem nodup_hdels : ∀ (ks : List Nat) (l : List Ent), (l.map Ent.k).Nodup → ((hdels l ks).map Ent.k).Nodup
  | [], l, h => h
  | k :: ks, l, h => nodup_hdels ks _ (nodup_hdel l h)

theorem mem_keys_hdels {j : Nat} : ∀ (ks : List Nat) (l : List Ent), j ∈ (hdels l ks).map Ent.k → j ∈ l.map Ent.k
  | [], l, h => h
  | k :: ks, l, h => mem_keys_hdel l (mem_keys_hdels ks _ h)

theorem not_mem_hdels {j : Nat} : ∀ (ks : List Nat) (l : List Ent), (l.map Ent.k).Nodup → j ∈ ks → j ∉ (hdels l ks).map Ent.k
  | [], l, _, h => by cases h
  | k :: ks, l, hn, h => by
    simp only [hdels]
    rcases List.mem_cons.1 h with rfl | h
    · exact fun hm => not_mem_hdel l hn (mem_keys_hdels ks _ hm)
    · exact not_mem_hdels ks _ (nodup_hdel l hn) h

section
variable {w : World} {F : Nat → Prop} {h : List Ent} {μ : Nat → Value} {G lo : Nat} {B : Option Nat}

/-- What is handed on with what it owns: a value, taken out of the run's own. -/
def OwnAt (w : World) (F : Nat → Prop) (h : List Ent) (μ : Nat → Value) (G lo : Nat) (B : Option Nat) (n : Nat) (d : D) (v : Value) : Prop :=
  ∀ (l : List Ent) (o : List Nat), HOk w F h μ G lo B l o → o.Nodup → (∀ k ∈ keys n d, ∀ g, find l k g = find h k g) → (keys n d).Nodup →
    ∃ o1 rest, ORep w F lo (own h n d) v o1 ∧ HOk w F h μ G lo B (hdels l (keys n d)) rest ∧ (o1 ++ rest).Nodup ∧ ∀ c ∈ o1 ++ rest, c ∈ o

theorem ownL_at {n : Nat} : ∀ (xs : List D) (vs : List Value), vs.length = xs.length → (∀ (i : Nat) (d : D) (v : Value), xs[i]? = some d → vs[i]? = some v → OwnAt w F h μ G lo B n d v) →
    ∀ (l : List Ent) (o : List Nat), HOk w F h μ G lo B l o → o.Nodup → (∀ k ∈ (xs.map (keys n)).flatten, ∀ g, find l k g = find h k g) → ((xs.map (keys n)).flatten).Nodup →
    ∃ (os : List (List Nat)) (rest : List Nat), os.length = xs.length ∧ (∀ (i : Nat) (d : D) (v : Value) (o : List Nat), (xs.map (own h n))[i]? = some d → vs[i]? = some v → os[i]? = some o → ORep w F lo d v o) ∧
      HOk w F h μ G lo B (hdels l (xs.map (keys n)).flatten) rest ∧ (os.flatten ++ rest).Nodup ∧ ∀ c ∈ os.flatten ++ rest, c ∈ o
  | [], vs, hl, _, l, o, hk, hn, _, _ => ⟨[], o, rfl, by simp, hk, by simpa using hn, by simp⟩
  | x :: xs, [], hl, _, l, o, hk, hn, _, _ => by simp at hl
  | x :: xs, v :: vs, hl, hx, l, o, hk, hn, hfind, hnd => by
    simp only [List.map_cons, List.flatten_cons] at hfind hnd ⊢
    obtain ⟨hnd1, hnd2, hdis⟩ := List.nodup_append.1 hnd
    obtain ⟨o1, r1, hr1, hk1, hn1, hm1⟩ := hx 0 x v rfl rfl l o hk hn (fun k hk g => hfind k (by simp [hk]) g) hnd1
    obtain ⟨os, r2, hlen, hr2, hk2, hn2, hm2⟩ := ownL_at xs vs (by simpa using hl) (fun i d u hd hu => hx (i + 1) d u (by simpa using hd) (by simpa using hu)) (hdels l (keys n x)) r1 hk1
      (List.nodup_append.1 hn1).2.1 (fun k hk g => by rw [find_hdels_ne _ _ (fun hkx => hdis k hkx k hk rfl)]; exact hfind k (by simp [hk]) g) hnd2
    refine ⟨o1 :: os, r2, by simp [hlen], ?_, by rw [hdels_append]; exact hk2, ?_, ?_⟩
    · intro i d u p hd hu hp
      cases i with
      | zero =>
        obtain rfl : own h n x = d := by simpa using hd
        obtain rfl : v = u := by simpa using hu
        obtain rfl : o1 = p := by simpa using hp
        exact hr1
      | succ i => exact hr2 i d u p (by simpa using hd) (by simpa using hu) (by simpa using hp)
    · rw [List.flatten_cons, List.append_assoc, List.nodup_append]
      refine ⟨(List.nodup_append.1 hn1).1, hn2, fun a ha b hb => (List.nodup_append.1 hn1).2.2 a ha b (hm2 b hb)⟩
    · intro c hc
      rw [List.flatten_cons, List.append_assoc] at hc
      rcases List.mem_append.1 hc with hc | hc
      · exact hm1 c (by simp [hc])
      · exact hm1 c (by simp [hm2 c hc])

theorem own_none {d : D} {v : Value} {l : List Ent} {o : List Nat} (hr : Rep w F d v) (hk : HOk w F h μ G lo B l o) (hn : o.Nodup) :
    ∃ o1 rest, ORep w F lo d v o1 ∧ HOk w F h μ G lo B (hdels l []) rest ∧ (o1 ++ rest).Nodup ∧ ∀ c ∈ o1 ++ rest, c ∈ o :=
  ⟨[], o, .base d v hr, hk, by simpa using hn, by simp⟩

theorem own_at : ∀ (n : Nat) (d : D) (v : Value), VRep w F h μ G d v → OwnAt w F h μ G lo B n d v := by
  intro n
  induction n with
  | zero =>
    intro d v r l o hk hn _ _
    cases r with
    | imm d v r => cases r with
      | nil => exact ⟨[], o, .olistE 1, hk, by simpa using hn, by simp⟩
      | junk v => exact own_none (.junk _) hk hn
      | bool b => exact own_none (.bool _) hk hn
      | int k m => exact own_none (.int _ _) hk hn
      | str s => exact own_none (.str _) hk hn
      | listE sz a cap => exact own_none (.listE _ _ _) hk hn
      | list sz xs vs b o cap h1 h2 h3 h4 h5 h6 h7 => exact own_none (.list sz xs vs b o cap h1 h2 h3 h4 h5 h6 h7) hk hn
      | agg => exact own_none (.junk _) hk hn
      | tup => exact own_none (.junk _) hk hn
      | fn => exact own_none (.junk _) hk hn
      | iptr d v b o h1 h2 h3 h4 => exact own_none (.iptr d v b o h1 h2 h3 h4) hk hn
    | _ => exact own_none (.junk _) hk hn
  | succ n ih =>
    intro d v r l o hk hn hfind hnd
    have aggC : ∀ (xs : List D) (vs : List Value), vs.length = xs.length → (∀ (i : Nat) (d : D) (v : Value), xs[i]? = some d → vs[i]? = some v → VRep w F h μ G d v) → Ones vs →
        (∀ k ∈ keys (n + 1) (.agg xs), ∀ g, find l k g = find h k g) → (keys (n + 1) (.agg xs)).Nodup →
        ∃ o1 rest, ORep w F lo (own h (n + 1) (.agg xs)) (.agg vs.toArray) o1 ∧ HOk w F h μ G lo B (hdels l (keys (n + 1) (.agg xs))) rest ∧ (o1 ++ rest).Nodup ∧ ∀ c ∈ o1 ++ rest, c ∈ o := by
      intro xs vs h1 h2 h3 hf' hn'
      obtain ⟨os, rest, hl, hr, hk', hn2, hm⟩ := ownL_at xs vs h1 (fun i d v hd hv => ih d v (h2 i d v hd hv)) l o hk hn hf' hn'
      exact ⟨os.flatten, rest, .agg _ vs os (by simpa using h1) (by simpa using hl) hr h3, hk', hn2, hm⟩
    have tupC : ∀ (xs : List D) (vs : List Value), vs.length = xs.length → (∀ (i : Nat) (d : D) (v : Value), xs[i]? = some d → vs[i]? = some v → VRep w F h μ G d v) →
        (∀ k ∈ keys (n + 1) (.tup xs), ∀ g, find l k g = find h k g) → (keys (n + 1) (.tup xs)).Nodup →
        ∃ o1 rest, ORep w F lo (own h (n + 1) (.tup xs)) (.tuple vs.toArray) o1 ∧ HOk w F h μ G lo B (hdels l (keys (n + 1) (.tup xs))) rest ∧ (o1 ++ rest).Nodup ∧ ∀ c ∈ o1 ++ rest, c ∈ o := by
      intro xs vs h1 h2 hf' hn'
      obtain ⟨os, rest, hl, hr, hk', hn2, hm⟩ := ownL_at xs vs h1 (fun i d v hd hv => ih d v (h2 i d v hd hv)) l o hk hn hf' hn'
      exact ⟨os.flatten, rest, .tup _ vs os (by simpa using h1) (by simpa using hl) hr, hk', hn2, hm⟩
    cases r with
    | imm d v r => cases r with
      | nil => exact ⟨[], o, .olistE 1, hk, by simpa using hn, by simp⟩
      | junk v => exact own_none (.junk _) hk hn
      | bool b => exact own_none (.bool _) hk hn
      | int k m => exact own_none (.int _ _) hk hn
      | str s => exact own_none (.str _) hk hn
      | listE sz a cap => exact own_none (.listE _ _ _) hk hn
      | list sz xs vs b o cap h1 h2 h3 h4 h5 h6 h7 => exact own_none (.list sz xs vs b o cap h1 h2 h3 h4 h5 h6 h7) hk hn
      | agg xs vs h1 h2 h3 => exact aggC xs vs h1 (fun i d v hd hv => .imm _ _ (h2 i d v hd hv)) h3 hfind hnd
      | tup xs vs h1 h2 => exact tupC xs vs h1 (fun i d v hd hv => .imm _ _ (h2 i d v hd hv)) hfind hnd
      | fn => exact own_none (.junk _) hk hn
      | iptr d v b o h1 h2 h3 h4 => exact own_none (.iptr d v b o h1 h2 h3 h4) hk hn
    | undef => exact own_none (.junk _) hk hn
    | lit => exact own_none (.junk _) hk hn
    | agg xs vs h1 h2 h3 => exact aggC xs vs h1 h2 h3 hfind hnd
    | tup xs vs h1 h2 => exact tupC xs vs h1 h2 hfind hnd
    | fn => exact own_none (.junk _) hk hn
    | ptr => exact own_none (.junk _) hk hn
    | rptr => exact own_none (.junk _) hk hn
    | row k g x a m c hg hp =>
      have hfk := hfind k (by simp [keys]) g
      cases hr : rowAt h k g x with
      | none =>
        obtain ⟨rest, hr', hn', hm⟩ := HOk.del k l o hk hn
        exact ⟨[], rest, by simp only [PS.own, hr]; exact .base _ _ (.junk _), hr', by simpa using hn', by simpa using hm⟩
      | some q =>
        obtain ⟨s, ys⟩ := q
        obtain ⟨b, n', c', hm, hc⟩ := (hp _ (rowAt_cell hr)).2 rfl
        have hr2 := hr
        unfold rowAt at hr2
        split at hr2
        · rename_i blk hf
          obtain ⟨o1, rest, he, hr', hn', hmm⟩ := HOk.take l o hk (hfk.trans hf) hn
          cases blk with
          | cells cs => simp [rowB] at hr2
          | arr sz xs =>
            have ho := he.2
            simp only at ho
            simp only [rowB] at hr2
            split at hr2
            · rename_i s' ys' hx
              injection hr2 with hr2
              injection hr2 with e1 e2
              subst e1; subst e2
              rcases ho.olist_inv with ⟨e, _⟩ | ⟨vs, os, b', cap, cur, E, hm', ho1, h1, h2, h3, h4, h5, h6, h7, h8, h9⟩
              · rw [hm] at e; cases e
              · have hbb : b' = b := by rw [hm'] at hm; injection hm with q; injection q with q; injection q
                subst hbb
                have hlt : x < xs.length := (List.getElem?_eq_some_iff.1 hx).1
                have hv : vs[x]? = some (vs[x]'(by omega)) := List.getElem?_eq_getElem _
                have hos : os[x]? = some (os[x]'(by omega)) := List.getElem?_eq_getElem _
                have hO := h3 x _ _ _ hx hv hos
                have hone : (vs[x]'(by omega)).cells = #[vs[x]'(by omega)] := by
                  rcases hO.olist_inv with ⟨e, _⟩ | ⟨_, _, _, _, _, _, e, _⟩ <;> rw [e] <;> rfl
                obtain ⟨g1, g2⟩ := h8 x _ hv
                have g3 := g2 0 (vs[x]'(by omega)) (by rw [hone]; rfl)
                rw [hone] at g1
                have hsz : sz = 1 := by simpa using g1.symm
                subst hsz
                have e : w.cell? ⟨b', x, none⟩ = some (vs[x]'(by omega)) := by simpa using g3.2
                rw [e] at hc
                injection hc with hc
                have hsub : (os[x]'(by omega) ++ rest).Sublist (o1 ++ rest) := by
                  refine List.Sublist.append ?_ (List.Sublist.refl _)
                  rw [ho1]
                  exact (List.sublist_flatten_of_mem (List.mem_of_getElem? hos)).trans (List.sublist_cons_self _ _)
                refine ⟨os[x]'(by omega), rest, ?_, hr', hsub.nodup hn', fun c hc => (hmm c).2 (hsub.subset hc)⟩
                simp only [PS.own, hr]
                rw [← hc]
                exact hO
            · cases hr2
        · cases hr2
    | arr k g a m c hg hp =>
      have hfk := hfind k (by simp [keys]) g
      cases hf : find h k g with
      | none =>
        obtain ⟨rest, hr, hn', hm⟩ := HOk.del k l o hk hn
        exact ⟨[], rest, by simp only [PS.own, hf]; exact .base _ _ (.junk _), hr, by simpa using hn', by simpa using hm⟩
      | some blk =>
        have hv := hp (by rw [hf]; simp)
        cases blk with
        | cells cs =>
          obtain ⟨rest, hr, hn', hm⟩ := HOk.del k l o hk hn
          exact ⟨[], rest, by simp only [PS.own, hf]; exact .base _ _ (.junk _), hr, by simpa using hn', by simpa using hm⟩
        | arr sz xs =>
          obtain ⟨o1, rest, he, hr, hn', hm⟩ := HOk.take l o hk (hfk.trans hf) hn
          refine ⟨o1, rest, ?_, hr, hn', fun c hc => (hm c).2 hc⟩
          simp only [PS.own, hf]
          rw [hv]
          exact he.arrOf

end
end Go.PS
end

section
-- Rows of cells: what a list's elements are in memory, and appending.
set_option linter.unusedVariables false
set_option linter.unusedSimpArgs false
namespace Go.PS

def flat (vs : List Value) : List Value := (vs.map fun v => v.cells.toList).flatten

theorem flat_nil : flat [] = [] := rfl
theorem flat_cons (v : Value) (vs : List Value) : flat (v :: vs) = v.cells.toList ++ flat vs := by simp [flat]
theorem flat_append (a b : List Value) : flat (a ++ b) = flat a ++ flat b := by simp [flat]

theorem flat_length {sz : Nat} : ∀ (vs : List Value), (∀ v ∈ vs, v.cells.size = sz) → (flat vs).length = vs.length * sz
  | [], _ => by simp [flat]
  | v :: vs, h => by
    rw [flat_cons, List.length_append, flat_length vs (fun u hu => h u (by simp [hu])), Array.length_toList, h v (by simp), List.length_cons, Nat.add_mul]
    omega

theorem flat_get {sz : Nat} : ∀ (vs : List Value), (∀ v ∈ vs, v.cells.size = sz) → ∀ (i j : Nat) (v u : Value), vs[i]? = some v → v.cells[j]? = some u → (flat vs)[i * sz + j]? = some u
  | [], _, i, j, v, u, hv, _ => by simp at hv
  | w :: vs, h, i, j, v, u, hv, hu => by
    have hw := h w (by simp)
    have hj : j < v.cells.size := (Array.getElem?_eq_some_iff.1 hu).1
    rw [flat_cons]
    cases i with
    | zero =>
      obtain rfl : w = v := by simpa using hv
      rw [Nat.zero_mul, Nat.zero_add, List.getElem?_append_left (by simpa using hj)]
      simpa using hu
    | succ i =>
      rw [List.getElem?_append_right (by rw [Array.length_toList, hw, Nat.add_mul]; omega), Array.length_toList, hw, Nat.add_mul]
      rw [show i * sz + 1 * sz + j - sz = i * sz + j from by omega]
      exact flat_get vs (fun u hu => h u (by simp [hu])) i j v u (by simpa using hv) hu

theorem flat_inv {sz : Nat} : ∀ (vs : List Value), (∀ v ∈ vs, v.cells.size = sz) → ∀ (k : Nat) (u : Value), (flat vs)[k]? = some u → ∃ i j v, k = i * sz + j ∧ vs[i]? = some v ∧ v.cells[j]? = some u
  | [], _, k, u, h => by simp [flat] at h
  | w :: vs, h, k, u, hk => by
    have hw := h w (by simp)
    rw [flat_cons] at hk
    by_cases hlt : k < sz
    · rw [List.getElem?_append_left (by rw [Array.length_toList, hw]; exact hlt)] at hk
      exact ⟨0, k, w, by simp, rfl, by simpa using hk⟩
    · rw [List.getElem?_append_right (by rw [Array.length_toList, hw]; omega), Array.length_toList, hw] at hk
      obtain ⟨i, j, v, he, hv, hu⟩ := flat_inv vs (fun u hu => h u (by simp [hu])) (k - sz) u hk
      exact ⟨i + 1, j, v, by rw [Nat.add_mul]; omega, by simpa using hv, hu⟩

theorem Row.size {w : World} {b o sz : Nat} {vs : List Value} (h : Row w b o sz vs) : ∀ v ∈ vs, v.cells.size = sz := fun v hv => by
  obtain ⟨i, hi⟩ := List.mem_iff_getElem?.1 hv
  exact (h i v hi).1

theorem Row.flat {w : World} {b o sz : Nat} {vs : List Value} (h : Row w b o sz vs) (k : Nat) (u : Value) (hk : (flat vs)[k]? = some u) : u.oneCell' = true ∧ w.cell? ⟨b, o + k, none⟩ = some u := by
  obtain ⟨i, j, v, rfl, hv, hu⟩ := flat_inv vs h.size k u hk
  have := (h i v hv).2 j u hu
  rwa [Nat.add_assoc] at this

theorem Row.of_flat {w : World} {b o sz : Nat} {vs : List Value} (hs : ∀ v ∈ vs, v.cells.size = sz) (h : ∀ (k : Nat) (u : Value), (PS.flat vs)[k]? = some u → u.oneCell' = true ∧ w.cell? ⟨b, o + k, none⟩ = some u) : Row w b o sz vs :=
  fun i v hv => ⟨hs v (List.mem_of_getElem? hv), fun j u hu => by
    have := h (i * sz + j) u (flat_get vs hs i j v u hv hu)
    rwa [← Nat.add_assoc] at this⟩

theorem Row.nil {w : World} {b o sz : Nat} : Row w b o sz [] := fun i v hv => by simp at hv

theorem Row.drop {w : World} {b o sz : Nat} {vs : List Value} (h : Row w b o sz vs) (l : Nat) : Row w b (o + l * sz) sz (vs.drop l) := fun i v hv => by
  rw [List.getElem?_drop] at hv
  refine ⟨(h _ v hv).1, fun j u hu => ?_⟩
  have := (h _ v hv).2 j u hu
  rw [Nat.add_mul, ← Nat.add_assoc o] at this
  exact this

theorem Row.take {w : World} {b o sz : Nat} {vs : List Value} (h : Row w b o sz vs) (n : Nat) : Row w b o sz (vs.take n) := fun i v hv => by
  rw [List.getElem?_take] at hv
  split at hv
  · exact h i v hv
  · cases hv

/-- What 'append' and 'copy' read of their source. -/
def Src (P : Program) (w : World) (sz : Nat) (v : Value) (m : Nat) (vs : List Value) : Prop :=
  (∃ a c, v = .slice a m c) ∧ vs.length = m ∧ (∀ u ∈ vs, u.cells.size = sz) ∧ (∀ u ∈ flat vs, u.oneCell' = true) ∧ ∀ W : World, W.heap = w.heap → (Builtin.firstCells sz m v).run P W = .ok (flat vs).toArray W

theorem Src.of_row {P : Program} {w : World} {sz b o cap : Nat} {vs : List Value} (h : Row w b o sz vs) : Src P w sz (.slice (some ⟨b, o, none⟩) vs.length cap) vs.length vs := by
  refine ⟨⟨_, _, rfl⟩, rfl, h.size, fun u hu => ?_, ?_⟩
  · obtain ⟨k, hk⟩ := List.mem_iff_getElem?.1 hu
    exact (h.flat k u hk).1
  · intro W hW
    refine run_firstCells_some W sz vs.length ⟨b, o, none⟩ vs.length cap (flat vs) (flat_length vs h.size) (fun j v hv => ?_)
    rw [Addr.add_lit, cell?_of_heap (w := w) (by rw [hW])]
    exact (h.flat j v hv).2

theorem Src.empty {P : Program} {w : World} {sz : Nat} (a : Option Addr) (c : Nat) : Src P w sz (.slice a 0 c) 0 [] := by
  refine ⟨⟨_, _, rfl⟩, rfl, by simp, by simp [flat], fun W _ => ?_⟩
  cases a with
  | none => exact run_firstCells_none W sz 0 0 c
  | some a => exact run_firstCells_some W sz 0 a 0 c [] (by simp) (by simp)

section
variable {P : Program} {w : World}

theorem run_append_roomE (t ty e : TypeId) (i : TypeInfo) (ht : P.underlying t = some (.slice e)) (hi : P.info? e = some i)
    (g sLen sCap : Nat) (cur : Array Value) (E : TypeId) (hg : w.heap[g]? = some (.cells cur E (0, 0)))
    (x : Value) (m : Nat) (vs : List Value) (hs : Src P w i.size x m vs)
    (hroom : sLen + m ≤ sCap) (hfit : sLen * i.size + (flat vs).length ≤ cur.size) :
    (Builtin.append_ #[t, t] ty #[.slice (some ⟨g, 0, none⟩) sLen sCap, x]).run P w =
      .ok (.slice (some ⟨g, 0, none⟩) (sLen + m) sCap) (w.setRow g (cur.toList.take (sLen * i.size) ++ flat vs ++ cur.toList.drop (sLen * i.size + (flat vs).length)).toArray) := by
  obtain ⟨⟨a, c, rfl⟩, _, _, h1, hf⟩ := hs
  have hf := hf w rfl
  have hst := run_storeCells_at P g (sLen * i.size) E (flat vs) 0 cur w hg (by simpa using hfit) h1
  simp only [Nat.add_zero] at hst
  simp [Builtin.append_, run_underlying ht, sizeOf, typeInfo, hi, Builtin.lenOf, hroom, hf, Addr.add_lit, hst]

theorem run_append_growE (t ty e : TypeId) (i : TypeInfo) (z : Value) (ht : P.underlying t = some (.slice e)) (hi : P.info? e = some i) (hz : i.zero = some z)
    (a0 : Option Addr) (sLen sCap : Nat) (vs0 : List Value) (hs0 : Src P w i.size (.slice a0 sLen sCap) sLen vs0)
    (x : Value) (m : Nat) (vs : List Value) (hs : Src P w i.size x m vs) (hgrow : sCap < sLen + m) (h63 : sLen + m ≤ 9223372036854775807) (hb : (sLen + m) * i.bytes ≤ 140737488355328) :
    (Builtin.append_ #[t, t] ty #[.slice a0 sLen sCap, x]).run P w =
      .ok (.slice (some ⟨w.heap.size, 0, none⟩) (sLen + m) (grownCap w (sLen + m) sCap e))
        (w.drew.alloc (.cells ((flat vs0).toArray ++ (flat vs).toArray ++ Builtin.zeroCells z.cells (grownCap w (sLen + m) sCap e - (sLen + m))) e)) := by
  obtain ⟨⟨a, c, rfl⟩, _, _, _, hf⟩ := hs
  obtain ⟨_, _, _, _, hf0⟩ := hs0
  have hfit := growslice_fits hgrow hb
  have hn : ¬ (sLen + m ≤ sCap) := by omega
  have h63' : ¬ (9223372036854775807 < ((sLen : Int) + (m : Int))) := by omega
  have h48' : ¬ (281474976710656 < Builtin.nextslicecap (sLen + m) sCap * i.bytes) := by omega
  have hf1 := hf w.drew rfl
  have hf2 := hf0 w.drew rfl
  simp [Builtin.append_, run_underlying ht, sizeOf, typeInfo, zeroValue, hi, hz, Builtin.lenOf, hn, h63', h48', Question.forced, hf1, hf2, newRow, grownCap]
  congr 2
  apply Array.ext'
  simp [List.append_assoc]

end
end Go.PS
end

section
-- Appending, with what is owned.
set_option linter.unusedVariables false
set_option linter.unusedSimpArgs false
namespace Go.PS

/-- From one world to a later one: the streams as they were, only blocks of 'o' touched. -/
structure Touch (w w' : World) (o : List Nat) : Prop where
  os : w'.os = w.os
  tape : w'.tape = w.tape
  output : w'.output = w.output
  size : w.heap.size ≤ w'.heap.size
  block : ∀ c, c < w.heap.size → c ∉ o → w'.heap[c]? = w.heap[c]?

theorem Touch.of_grown {w w' : World} (g : w.grownBy w' none) (o : List Nat) : Touch w w' o := ⟨g.os, g.tape, g.output, g.size, fun c hc _ => g.block c hc (by simp)⟩

theorem Touch.grown {w0 w w' : World} {o : List Nat} {B : Option Nat} (t : Touch w w' o) (g : w0.grownBy w B) (ho : ∀ c ∈ o, w0.heap.size ≤ c ∨ B = some c) : w0.grownBy w' B :=
  ⟨t.os.trans g.os, t.tape.trans g.tape, t.output.trans g.output, Nat.le_trans g.size t.size, fun k hk hn =>
    (t.block k (Nat.lt_of_lt_of_le hk g.size) (fun hm => by rcases ho k hm with h | h <;> first | omega | exact hn h.symm)).trans (g.block k hk hn)⟩

theorem grown_alloc (w : World) (o : Obj) : w.grownBy (w.alloc o) none := World.grownBy_alloc w o none
theorem grown_drew_alloc (w : World) (o : Obj) : w.grownBy (w.drew.alloc o) none := ⟨rfl, rfl, rfl, by simp, fun k hk _ => heap_alloc_old w.drew o k hk⟩
theorem grown_drew (w : World) : w.grownBy w.drew none := ⟨rfl, rfl, rfl, Nat.le_refl _, fun _ _ _ => rfl⟩

theorem row_alloc {w : World} {vs : List Value} {sz : Nat} {E : TypeId} (hs : ∀ v ∈ vs, v.cells.size = sz) (h1 : ∀ u ∈ flat vs, u.oneCell' = true) (rest : Array Value) :
    Row (w.alloc (.cells ((flat vs).toArray ++ rest) E)) w.heap.size 0 sz vs := by
  refine .of_flat hs (fun k u hk => ⟨h1 u (List.mem_of_getElem? hk), ?_⟩)
  rw [Nat.zero_add, World.cell?_alloc_new]
  rw [Array.getElem?_append_left (by simpa using (List.getElem?_eq_some_iff.1 hk).1)]
  simpa using hk

theorem mem_flat {vs : List Value} {u : Value} (h : u ∈ flat vs) : ∃ v ∈ vs, u ∈ v.cells.toList := by
  unfold flat at h
  obtain ⟨l, hl, hu⟩ := List.mem_flatten.1 h
  obtain ⟨v, hv, rfl⟩ := List.mem_map.1 hl
  exact ⟨v, hv, hu⟩

theorem Row.ones {w : World} {b o sz : Nat} {vs : List Value} (h : Row w b o sz vs) : ∀ u ∈ PS.flat vs, u.oneCell' = true := fun u hu => by
  obtain ⟨k, hk⟩ := List.mem_iff_getElem?.1 hu
  exact (h.flat k u hk).1

/-- Elements one after the other, with what each owns. -/
def OReps (w : World) (F : Nat → Prop) (lo : Nat) (xs : List D) (vs : List Value) (os : List (List Nat)) : Prop :=
  ∀ (i : Nat) (d : D) (v : Value) (o : List Nat), xs[i]? = some d → vs[i]? = some v → os[i]? = some o → ORep w F lo d v o

theorem OReps.append {w : World} {F : Nat → Prop} {lo : Nat} {xs ys : List D} {vs us : List Value} {os ps : List (List Nat)} (h1 : vs.length = xs.length) (h2 : os.length = xs.length)
    (a : OReps w F lo xs vs os) (b : OReps w F lo ys us ps) : OReps w F lo (xs ++ ys) (vs ++ us) (os ++ ps) := by
  intro i d v o hd hv ho
  by_cases hi : i < xs.length
  · rw [List.getElem?_append_left hi] at hd
    rw [List.getElem?_append_left (by omega)] at hv ho
    exact a i d v o hd hv ho
  · rw [List.getElem?_append_right (by omega)] at hd hv ho
    rw [h1] at hv; rw [h2] at ho
    exact b _ d v o hd hv ho

theorem OReps.evo {w w' : World} {F F' : Nat → Prop} {lo : Nat} {xs : List D} {vs : List Value} {os : List (List Nat)} (a : OReps w F lo xs vs os) (e : MemEvo w F w' F')
    (hk : ∀ c ∈ os.flatten, w'.heap[c]? = w.heap[c]?) : OReps w' F' lo xs vs os := fun i d v o hd hv ho =>
  (a i d v o hd hv ho).evo e (fun c hc => hk c (mem_flatten_of ho hc)) (fun c hc => ((a i d v o hd hv ho).lt c hc).1)

theorem setRow_touch (w : World) (b : Nat) (cs : Array Value) (o : List Nat) (hb : b ∈ o) : Touch w (w.setRow b cs) o where
  os := rfl
  tape := rfl
  output := rfl
  size := by simp [World.setRow]
  block := fun c _ hn => setRow_other w b c cs (fun e => hn (e ▸ hb))

/-- 'append' onto what is the run's own. -/
theorem app_own {P : Program} {w : World} {F : Nat → Prop} {lo : Nat} (t ty e : TypeId) (i : TypeInfo) (z : Value) (ht : P.underlying t = some (.slice e)) (hi : P.info? e = some i) (hz : i.zero = some z)
    (hzs : z.cells.size = i.size) (hby : i.bytes ≤ 64) (xs : List D) (sv : Value) (o1 : List Nat) (hx : ORep w F lo (.olist i.size xs) sv o1)
    (y : Value) (es : List D) (vs2 : List Value) (os2 : List (List Nat)) (hl2 : os2.length = es.length) (hsrc : Src P w i.size y es.length vs2)
    (he : OReps w F lo es vs2 os2) (hnd : (o1 ++ os2.flatten).Nodup) (hbig : xs.length + es.length ≤ big) (hlo : lo ≤ w.heap.size) :
    ∃ (v' : Value) (w' : World) (o' : List Nat), (Builtin.append_ #[t, t] ty #[sv, y]).run P w = .ok v' w' ∧ Touch w w' o1 ∧ o'.Nodup ∧ (∀ c ∈ o', c ∈ o1 ∨ c ∈ os2.flatten ∨ w.heap.size ≤ c) ∧
      (∃ a n c, v' = .slice a n c) ∧ ∀ F', MemEvo w F w' F' → ORep w' F' lo (.olist i.size (xs ++ es)) v' o' := by
  have hlv : vs2.length = es.length := hsrc.2.1
  have hbb : (xs.length + es.length) * i.bytes ≤ 140737488355328 := by
    have h1 : (xs.length + es.length) * i.bytes ≤ big * 64 := Nat.mul_le_mul hbig hby
    simp only [big] at h1; omega
  have h63 : xs.length + es.length ≤ 9223372036854775807 := by simp only [big] at hbig; omega
  have hml : xs.length + es.length ≤ maxLen := by simp only [big] at hbig; simp only [maxLen]; omega
  have hlt2 : ∀ c ∈ os2.flatten, c < w.heap.size := by
    intro c hc
    obtain ⟨o, ho, hc⟩ := List.mem_flatten.1 hc
    obtain ⟨k, hk⟩ := List.mem_iff_getElem?.1 ho
    have hkl : k < os2.length := (List.getElem?_eq_some_iff.1 hk).1
    exact ((he k (es[k]'(by omega)) (vs2[k]'(by omega)) o (List.getElem?_eq_getElem _) (List.getElem?_eq_getElem _) hk).lt c hc).2
  -- a new row
  have grown : ∀ (old : Nat) (vs1 : List Value) (os1 : List (List Nat)), vs1.length = xs.length → os1.length = xs.length → OReps w F lo xs vs1 os1 → (∀ v ∈ vs1, v.cells.size = i.size) → (∀ u ∈ flat vs1, u.oneCell' = true) → (os1.flatten ++ os2.flatten).Nodup →
      (∀ c ∈ os1.flatten, c < w.heap.size ∧ c ∈ o1) →
      ∀ (n : Nat), n = xs.length + es.length → ∃ o' : List Nat, o'.Nodup ∧ (∀ c ∈ o', c ∈ o1 ∨ c ∈ os2.flatten ∨ w.heap.size ≤ c) ∧ ∀ F', MemEvo w F (w.drew.alloc (.cells ((flat vs1).toArray ++ (flat vs2).toArray ++ Builtin.zeroCells z.cells (grownCap w (xs.length + es.length) old e - (xs.length + es.length))) e)) F' →
        ORep (w.drew.alloc (.cells ((flat vs1).toArray ++ (flat vs2).toArray ++ Builtin.zeroCells z.cells (grownCap w (xs.length + es.length) old e - (xs.length + es.length))) e)) F' lo (.olist i.size (xs ++ es))
          (.slice (some ⟨w.heap.size, 0, none⟩) n (grownCap w (xs.length + es.length) old e)) o' := by
    intro old vs1 os1 hv1 ho1 hr1 hs1 hc1 hnd1 hlt1 n hn
    have hge := grownCap_ge w (xs.length + es.length) old e
    have hcm : grownCap w (xs.length + es.length) old e ≤ maxLen := grownCap_le_maxLen w _ old e hml
    refine ⟨w.heap.size :: (os1 ++ os2).flatten, ?_, ?_, fun F' hF => ?_⟩
    · rw [List.flatten_append, List.nodup_cons]
      exact ⟨fun hm => (List.mem_append.1 hm).elim (fun hm => Nat.lt_irrefl _ (hlt1 _ hm).1) (fun hm => Nat.lt_irrefl _ (hlt2 _ hm)), hnd1⟩
    · intro c hc
      rw [List.flatten_append] at hc
      rcases List.mem_cons.1 hc with rfl | hc
      · exact .inr (.inr (Nat.le_refl _))
      · rcases List.mem_append.1 hc with hc | hc
        · exact .inl (hlt1 c hc).2
        · exact .inr (.inl hc)
    · have hall : ∀ v ∈ vs1 ++ vs2, v.cells.size = i.size := fun v hv => (List.mem_append.1 hv).elim (hs1 v) (hsrc.2.2.1 v)
      have hones : ∀ u ∈ flat (vs1 ++ vs2), u.oneCell' = true := fun u hu => by rw [flat_append] at hu; exact (List.mem_append.1 hu).elim (hc1 u) (hsrc.2.2.2.1 u)
      have hrow := row_alloc (w := w.drew) (E := e) hall hones (Builtin.zeroCells z.cells (grownCap w (xs.length + es.length) old e - (xs.length + es.length)))
      rw [flat_append] at hrow
      have hee : ((flat vs1 ++ flat vs2).toArray : Array Value) = (flat vs1).toArray ++ (flat vs2).toArray := by simp
      rw [hee] at hrow
      have hreps : OReps w F lo (xs ++ es) (vs1 ++ vs2) (os1 ++ os2) := OReps.append hv1 ho1 hr1 he
      have key := ORep.olist (w := w.drew.alloc (.cells ((flat vs1).toArray ++ (flat vs2).toArray ++ Builtin.zeroCells z.cells (grownCap w (xs.length + es.length) old e - (xs.length + es.length))) e)) (F := F') (lo := lo)
        i.size (xs ++ es) (vs1 ++ vs2) (os1 ++ os2) w.heap.size (grownCap w (xs.length + es.length) old e) _ e (by simp [hv1, hlv]) (by simp [ho1, hl2])
        (hreps.evo hF (fun c hc => heap_alloc_old w.drew _ c (by rw [List.flatten_append] at hc; exact (List.mem_append.1 hc).elim (fun hc => (hlt1 c hc).1) (fun hc => hlt2 c hc))))
        (heap_alloc_new w.drew _) ?_ (by simpa using hge) hcm hrow hlo
      · rw [List.length_append] at key
        rw [hn]
        exact key
      · simp only [Array.size_append, List.size_toArray, size_zeroCells, hzs, flat_length vs1 hs1, flat_length vs2 hsrc.2.2.1, hv1, hlv, ← Nat.add_mul]
        congr 1
        omega
  rcases hx.olist_inv with ⟨rfl, rfl, rfl⟩ | ⟨vs1, os1, b, cap, cur, E, rfl, rfl, h1, h2, h3, h4, h5, h6, h7, h8, h9⟩
  · by_cases hm : es = []
    · subst hm
      refine ⟨.slice none 0 0, w, [], ?_, ⟨rfl, rfl, rfl, Nat.le_refl _, fun _ _ _ => rfl⟩, by simp, by simp, ⟨_, _, _, rfl⟩, fun F' _ => .olistE _⟩
      obtain ⟨⟨a, c, rfl⟩, _, _, _, hf⟩ := hsrc
      have hf := hf w rfl
      have hv2 : vs2 = [] := List.eq_nil_of_length_eq_zero (by simpa using hlv)
      subst hv2
      simp only [flat_nil, List.length_nil] at hf
      simp [Builtin.append_, run_underlying ht, sizeOf, typeInfo, hi, Builtin.lenOf, hf]
    · have hm0 : 0 < es.length := List.length_pos_iff.2 hm
      have hr := run_append_growE (P := P) (w := w) t ty e i z ht hi hz none 0 0 [] (Src.empty none 0) y es.length vs2 hsrc (by omega) (by simpa using h63) (by simpa using hbb)
      obtain ⟨o', hn', hm', hF⟩ := grown 0 [] [] rfl rfl (fun i d v o hd => by simp at hd) (by simp) (by simp [flat]) (by simpa using hnd) (by simp) (0 + es.length) (by simp)
      simp only [List.length_nil] at hF
      exact ⟨_, _, o', hr, .of_grown (grown_drew_alloc w _) _, hn', hm', ⟨_, _, _, rfl⟩, hF⟩
  · have hndp := List.nodup_append.1 hnd
    by_cases hroom : xs.length + es.length ≤ cap
    · have hfl : (flat vs2).length = es.length * i.size := by rw [flat_length vs2 hsrc.2.2.1, hlv]
      have hfit : xs.length * i.size + (flat vs2).length ≤ cur.size := by rw [hfl, h5, ← Nat.add_mul]; exact Nat.mul_le_mul_right _ hroom
      have hr := run_append_roomE (P := P) (w := w) t ty e i ht hi b xs.length cap cur E h4 y es.length vs2 hsrc hroom hfit
      have hcell : ∀ k, (w.setRow b (cur.toList.take (xs.length * i.size) ++ flat vs2 ++ cur.toList.drop (xs.length * i.size + (flat vs2).length)).toArray).cell? ⟨b, k, none⟩ = (cur.toList.take (xs.length * i.size) ++ flat vs2 ++ cur.toList.drop (xs.length * i.size + (flat vs2).length))[k]? := by
        intro k
        rw [cell_of_row _ b k _ E (0, 0) (setRow_heap w b cur _ E _ h4)]
        simp
      have hle : xs.length * i.size ≤ cur.toList.length := by
        show xs.length * i.size ≤ cur.size
        rw [h5]; exact Nat.mul_le_mul_right _ h6
      have hlt : (cur.toList.take (xs.length * i.size)).length = xs.length * i.size := by rw [List.length_take]; exact Nat.min_eq_left hle
      refine ⟨_, _, b :: (os1 ++ os2).flatten, hr, setRow_touch w b _ _ (by simp), ?_, ?_, ⟨_, _, _, rfl⟩, fun F' hF => ?_⟩
      · rw [List.flatten_append]; exact hnd
      · intro c hc
        rw [List.flatten_append] at hc
        rcases List.mem_cons.1 hc with rfl | hc
        · exact .inl (by simp)
        · rcases List.mem_append.1 hc with hc | hc
          · exact .inl (by simp [hc])
          · exact .inr (.inl hc)
      · have hrow : Row (w.setRow b (cur.toList.take (xs.length * i.size) ++ flat vs2 ++ cur.toList.drop (xs.length * i.size + (flat vs2).length)).toArray) b 0 i.size (vs1 ++ vs2) := by
          refine .of_flat (fun v hv => (List.mem_append.1 hv).elim (h8.size v) (hsrc.2.2.1 v)) (fun k u hk => ?_)
          rw [flat_append] at hk
          rw [Nat.zero_add, hcell k, List.append_assoc]
          have hl1 : (flat vs1).length = xs.length * i.size := by rw [flat_length vs1 h8.size, h1]
          by_cases hk1 : k < xs.length * i.size
          · rw [List.getElem?_append_left (by omega)] at hk
            have := h8.flat k u hk
            rw [Nat.zero_add, cell_of_row w b k cur E (0, 0) h4] at this
            refine ⟨this.1, ?_⟩
            rw [List.getElem?_append_left (by omega), List.getElem?_take, if_pos hk1]
            simpa using this.2
          · rw [List.getElem?_append_right (by omega), hl1] at hk
            have hk2 : k - xs.length * i.size < (flat vs2).length := (List.getElem?_eq_some_iff.1 hk).1
            refine ⟨hsrc.2.2.2.1 u (List.mem_of_getElem? hk), ?_⟩
            rw [List.getElem?_append_right (by omega), hlt, List.getElem?_append_left hk2]
            exact hk
        have hreps : OReps w F lo (xs ++ es) (vs1 ++ vs2) (os1 ++ os2) := OReps.append h1 h2 h3 he
        have key := ORep.olist (F := F') (lo := lo) i.size (xs ++ es) (vs1 ++ vs2) (os1 ++ os2) b cap _ E (by simp [h1, hlv]) (by simp [h2, hl2])
          (hreps.evo hF (fun c hc => setRow_other w b c _ (fun eb => by
            subst eb
            rw [List.flatten_append] at hc
            rcases List.mem_append.1 hc with hc | hc
            · exact (List.nodup_cons.1 hndp.1).1 hc
            · exact hndp.2.2 c (by simp) c hc rfl)))
          (setRow_heap w b cur _ E _ h4) (by
            simp only [List.size_toArray, List.length_append, List.length_take, List.length_drop, Array.length_toList]
            omega) (by simpa using hroom) h7 hrow h9
        rw [List.length_append] at key
        exact key
    · have hs0 : Src P w i.size (.slice (some ⟨b, 0, none⟩) xs.length cap) xs.length vs1 := by
        have := Src.of_row (P := P) (cap := cap) h8
        rwa [h1] at this
      have hr := run_append_growE (P := P) (w := w) t ty e i z ht hi hz (some ⟨b, 0, none⟩) xs.length cap vs1 hs0 y es.length vs2 hsrc (by omega) h63 hbb
      obtain ⟨o', hn', hm', hF⟩ := grown cap vs1 os1 h1 h2 h3 h8.size h8.ones (by
          have := hnd; rw [List.cons_append, List.nodup_cons] at this; exact this.2) (fun c hc => ⟨by
          obtain ⟨o, ho, hc⟩ := List.mem_flatten.1 hc
          obtain ⟨k, hk⟩ := List.mem_iff_getElem?.1 ho
          have hkl : k < os1.length := (List.getElem?_eq_some_iff.1 hk).1
          exact ((h3 k (xs[k]'(by omega)) (vs1[k]'(by omega)) o (List.getElem?_eq_getElem _) (List.getElem?_eq_getElem _) hk).lt c hc).2, by simp [hc]⟩) _ rfl
      exact ⟨_, _, o', hr, .of_grown (grown_drew_alloc w _) _, hn', hm', ⟨_, _, _, rfl⟩, hF⟩

end Go.PS
end

section
-- Every operation of the machine against the clean one.
set_option linter.unusedVariables false
set_option linter.unusedSimpArgs false
namespace Go.PS

/-- What an operation comes to. -/
def Res (P : Program) (o : Oper) (ρ : Operand → Value) (w0 : World) (Fo : Nat → Prop) (B : Option Nat) (w : World) (h : List Ent) (μ : Nat → Value) (G : Nat) (own : List Nat) (K : D → List Ent → Nat → Prop) : Prop :=
  ∃ (n : Next) (v : Value) (w' : World) (d : D) (h' : List Ent) (μ' : Nat → Value) (G' : Nat) (o' : List Nat),
    (execOp ρ o).run P w = .ok n w' ∧ (n = .value v ∨ (n = .skip ∧ v = undef)) ∧ K d h' G' ∧ Out w0 Fo B w h μ G own w' h' μ' G' o' ∧ VRep w' (FF o' Fo) h' μ' G' d v

section
variable {P : Program} {tt : Nat → Ty} {o : Oper} {ρ : Operand → Value} {w0 : World} {Fo : Nat → Prop} {B : Option Nat} {w : World} {h : List Ent} {μ : Nat → Value} {G : Nat} {own : List Nat} {K : D → List Ent → Nat → Prop} {t : List (Nat × D)}

theorem Res.same (I : HInv w0 Fo B w h μ G own) {v : Value} {d : D} (hr : (execOp ρ o).run P w = .ok (.value v) w) (hv : VRep w (FF own Fo) h μ G d v) (hk : K d h G) : Res P o ρ w0 Fo B w h μ G own K :=
  ⟨_, v, w, d, h, μ, G, own, hr, .inl rfl, hk, I.refl, hv⟩

theorem Res.quiet (I : HInv w0 Fo B w h μ G own) {w' : World} (g : w.grownBy w' none) {v : Value} {d : D} (hr : (execOp ρ o).run P w = .ok (.value v) w') (hv : VRep w' (FF own Fo) h μ G d v) (hk : K d h G) : Res P o ρ w0 Fo B w h μ G own K :=
  ⟨_, v, w', d, h, μ, G, own, hr, .inl rfl, hk, I.quiet g, hv⟩

/-- A new block of the run's own. -/
theorem Res.addArr (I : HInv w0 Fo B w h μ G own) {w' : World} (g : w.grownBy w' none) (k : Nat) {sz : Nat} {xs : List D} {v : Value} {o1 : List Nat} (hs : ∃ a n c, v = .slice a n c)
    (hr : (execOp ρ o).run P w = .ok (.value v) w') (hnd : o1.Nodup) (hfr : ∀ c ∈ o1, w.heap.size ≤ c) (hrep : ∀ F', MemEvo w (FF own Fo) w' F' → ORep w' F' w0.heap.size (.olist sz xs) v o1)
    (hk : K (.arr k G) (⟨k, G, .arr sz xs⟩ :: hdel h k) (G + 1)) : Res P o ρ w0 Fo B w h μ G own K := by
  obtain ⟨rest, hrest, hnr, hmr⟩ := HOk.del k h own I.hok I.nodup
  have hlt : ∀ c ∈ own, c < w.heap.size := fun c hc => (I.hok.lt _ _ c hc).2
  have out := I.adds (hA := hdel h k) (rest := rest) hrest hmr (fun j γ hf => find_hdel_eq h I.keys hf) (w' := w') (grownBy.trans I.grown (grownBy.weak g)) g.size
    (fun c hc _ => g.block c hc (by simp)) (fun c hc => g.block c (hlt c (hmr c hc)) (by simp)) [⟨k, G, .arr sz xs⟩] o1
    (by simpa using ⟨by simpa using not_mem_hdel h I.keys, nodup_hdel h I.keys⟩)
    (by rw [List.nodup_append]; exact ⟨hnd, hnr, fun a ha b hb e => by have := hfr a ha; have := hlt b (hmr b hb); omega⟩) (fun c hc => .inr (hfr c hc)) (upd μ G v) (G + 1) (Nat.le_succ _) (fun x hx => upd_lt v hx)
    (by simp) (fun ev => ⟨o1, [], by simp, ⟨Nat.lt_succ_self _, by simp only [upd_self]; exact hrep _ ev.mm⟩, rfl⟩)
  obtain ⟨a, n, c, rfl⟩ := hs
  exact ⟨_, _, w', _, _, _, _, _, hr, .inl rfl, hk, out, .arr k G a n c (Nat.lt_succ_self _) (fun _ => by simp [upd_self])⟩

theorem Res.addCells (I : HInv w0 Fo B w h μ G own) (k : Nat) {cs : List D} {vs : List Value} {E : TypeId} (hl : vs.length = cs.length) (h1 : Ones vs)
    (hv : ∀ (i : Nat) (d : D) (v : Value), cs[i]? = some d → vs[i]? = some v → VRep w (FF own Fo) h μ G d v)
    (hr : (execOp ρ o).run P w = .ok (.value (.pointer (some ⟨w.heap.size, 0, none⟩))) (w.alloc (.cells vs.toArray E)))
    (hk : K (.ptr k G 0) (⟨k, G, .cells cs⟩ :: hdel h k) (G + 1)) : Res P o ρ w0 Fo B w h μ G own K := by
  obtain ⟨rest, hrest, hnr, hmr⟩ := HOk.del k h own I.hok I.nodup
  have hlt : ∀ c ∈ own, c < w.heap.size := fun c hc => (I.hok.lt _ _ c hc).2
  have g := grown_alloc w (.cells vs.toArray E)
  have out := I.adds (hA := hdel h k) (rest := rest) hrest hmr (fun j γ hf => find_hdel_eq h I.keys hf) (w' := w.alloc (.cells vs.toArray E)) (grownBy.trans I.grown (grownBy.weak g)) g.size
    (fun c hc _ => g.block c hc (by simp)) (fun c hc => g.block c (hlt c (hmr c hc)) (by simp)) [⟨k, G, .cells cs⟩] [w.heap.size]
    (by simpa using ⟨by simpa using not_mem_hdel h I.keys, nodup_hdel h I.keys⟩)
    (by rw [List.nodup_append]; exact ⟨by simp, hnr, fun a ha b hb e => by have := hlt b (hmr b hb); simp at ha; omega⟩) (fun c hc => .inr (by simp at hc; omega)) (upd μ G (.pointer (some ⟨w.heap.size, 0, none⟩))) (G + 1) (Nat.le_succ _) (fun x hx => upd_lt _ hx)
    (by simp) (fun ev => ⟨[w.heap.size], [], by simp, ⟨Nat.lt_succ_self _, ⟨w.heap.size, vs, E, upd_self _ _ _, heap_alloc_new w _, hl, h1, fun i d v hd hv' => (hv i d v hd hv').evo ev, rfl, .inl I.grown.size⟩⟩, rfl⟩)
  exact ⟨_, _, _, _, _, _, _, _, hr, .inl rfl, hk, out, .ptr k G 0 _ (Nat.lt_succ_self _) (fun _ => ⟨w.heap.size, .inl (by simp [upd_self]), rfl⟩)⟩

variable (hρ : ∀ x, VRep w (FF own Fo) h μ G (ev t (co x)) (ρ x)) (I : HInv w0 Fo B w h μ G own) (hty : TyOk P tt)
include hρ I

omit hρ I in
theorem VRep.asNil {F : Nat → Prop} {v : Value} (r : VRep w F h μ G .nil v) : v = .slice none 0 0 := by
  cases r with
  | imm _ _ r => cases r; rfl

omit hρ I in
theorem VRep.asInt {F : Nat → Prop} {v : Value} {k : IntKind} {n : Int} (r : VRep w F h μ G (.int k n) v) : v = .int k n := by
  cases r with
  | imm _ _ r => cases r; rfl

omit hρ I in
theorem VRep.asBool {F : Nat → Prop} {v : Value} {b : Bool} (r : VRep w F h μ G (.bool b) v) : v = .bool b := by
  cases r with
  | imm _ _ r => cases r; rfl

omit hρ I in
theorem VRep.asStr {F : Nat → Prop} {v : Value} {s : List UInt8} (r : VRep w F h μ G (.str s) v) : v = .string ⟨s.toArray⟩ := by
  cases r with
  | imm _ _ r => cases r; rfl

omit hρ I in
theorem VRep.asTup {F : Nat → Prop} {v : Value} {xs : List D} (r : VRep w F h μ G (.tup xs) v) : ∃ vs : List Value, v = .tuple vs.toArray ∧ vs.length = xs.length ∧ ∀ (i : Nat) (d : D) (v : Value), xs[i]? = some d → vs[i]? = some v → VRep w F h μ G d v := by
  cases r with
  | imm _ _ r => cases r with
    | tup xs vs h1 h2 => exact ⟨vs, rfl, h1, fun i d v hd hv => .imm _ _ (h2 i d v hd hv)⟩
  | tup xs vs h1 h2 => exact ⟨vs, rfl, h1, h2⟩

omit hρ I in
theorem VRep.asAgg {F : Nat → Prop} {v : Value} {xs : List D} (r : VRep w F h μ G (.agg xs) v) : ∃ vs : List Value, v = .agg vs.toArray ∧ vs.length = xs.length ∧ Ones vs ∧ ∀ (i : Nat) (d : D) (v : Value), xs[i]? = some d → vs[i]? = some v → VRep w F h μ G d v := by
  cases r with
  | imm _ _ r => cases r with
    | agg xs vs h1 h2 h3 => exact ⟨vs, rfl, h1, h3, fun i d v hd hv => .imm _ _ (h2 i d v hd hv)⟩
  | agg xs vs h1 h2 h3 => exact ⟨vs, rfl, h1, h3, h2⟩

omit hρ I in
theorem VRep.asIptr {F : Nat → Prop} {v : Value} {d : D} (r : VRep w F h μ G (.iptr d) v) : ∃ (u : Value) (b o : Nat), v = .pointer (some ⟨b, o, none⟩) ∧ Rep w F d u ∧ (∀ (j : Nat) (x : Value), u.cells[j]? = some x → x.oneCell' = true ∧ w.cell? ⟨b, o + j, none⟩ = some x) ∧ b < w.heap.size ∧ ¬ F b := by
  cases r with
  | imm _ _ r => cases r with
    | iptr d u b o h1 h2 h3 h4 => exact ⟨u, b, o, rfl, h1, h2, h3, h4⟩

omit hρ I in
theorem VRep.asArr {F : Nat → Prop} {v : Value} {k g : Nat} (r : VRep w F h μ G (.arr k g) v) : (∃ a n c, v = .slice a n c) ∧ g < G ∧ (find h k g ≠ none → v = μ g) := by
  cases r with
  | imm _ _ r => cases r
  | arr k g a n c h1 h2 => exact ⟨⟨a, n, c, rfl⟩, h1, h2⟩

omit hρ I in
theorem VRep.asRow {F : Nat → Prop} {v : Value} {k g x : Nat} (r : VRep w F h μ G (.row k g x) v) : (∃ a n c, v = .slice a n c) ∧ g < G ∧ (rowAt h k g x ≠ none → ∃ b n' c' : Nat, μ g = .slice (some ⟨b, 0, none⟩) n' c' ∧ w.cell? ⟨b, x, none⟩ = some v) := by
  cases r with
  | imm _ _ r => cases r
  | row k g x a n c h1 h2 =>
    refine ⟨⟨a, n, c, rfl⟩, h1, fun hr => ?_⟩
    obtain ⟨⟨s, ys⟩, hr⟩ := Option.ne_none_iff_exists'.1 hr
    exact (h2 _ (rowAt_cell hr)).2 rfl

omit hρ I in
theorem VRep.row_cells {F : Nat → Prop} {v : Value} {k g x : Nat} (r : VRep w F h μ G (.row k g x) v) : ∀ d, cellAt h k g x = some d → isNilD d = false := by
  cases r with
  | imm _ _ r => cases r
  | row k g x a n c h1 h2 => exact fun d hd => (h2 d hd).1

omit hρ I in
theorem VRep.asRptr {F : Nat → Prop} {v : Value} {k g x y : Nat} (r : VRep w F h μ G (.rptr k g x y) v) : g < G ∧ (rowAt h k g x ≠ none → ∃ b n' c' b' n c : Nat, μ g = .slice (some ⟨b, 0, none⟩) n' c' ∧ w.cell? ⟨b, x, none⟩ = some (.slice (some ⟨b', 0, none⟩) n c) ∧ v = .pointer (some ⟨b', y, none⟩)) := by
  cases r with
  | imm _ _ r => cases r
  | rptr k g x y a h1 h2 =>
    refine ⟨h1, fun hr => ?_⟩
    obtain ⟨⟨s, ys⟩, hr⟩ := Option.ne_none_iff_exists'.1 hr
    obtain ⟨b, n', c', b', n, c, q1, q2, rfl⟩ := (h2 _ (rowAt_cell hr)).2 rfl
    exact ⟨b, n', c', b', n, c, q1, q2, rfl⟩

omit hρ I in
theorem VRep.asPtr {F : Nat → Prop} {v : Value} {k g off : Nat} (r : VRep w F h μ G (.ptr k g off) v) : g < G ∧ (find h k g ≠ none → ∃ b : Nat, (μ g = .pointer (some ⟨b, 0, none⟩) ∨ ∃ n c : Nat, μ g = .slice (some ⟨b, 0, none⟩) n c) ∧ v = .pointer (some ⟨b, off, none⟩)) := by
  cases r with
  | imm _ _ r => cases r
  | ptr k g off a h1 h2 => exact ⟨h1, fun hf => by obtain ⟨b, hb, rfl⟩ := h2 hf; exact ⟨b, hb, rfl⟩⟩

omit hρ I in
theorem VRep.asFn {F : Nat → Prop} {v : Value} {f : Nat} {xs : List D} (r : VRep w F h μ G (.fn f xs) v) : ∃ vs : List Value, v = .func (.func f) #[] vs.toArray ∧ vs.length = xs.length ∧ ∀ (i : Nat) (d : D) (v : Value), xs[i]? = some d → vs[i]? = some v → VRep w F h μ G d v := by
  cases r with
  | imm _ _ r => cases r with
    | fn f xs vs h1 h2 => exact ⟨vs, rfl, h1, fun i d v hd hv => .imm _ _ (h2 i d v hd hv)⟩
  | fn f xs vs h1 h2 => exact ⟨vs, rfl, h1, h2⟩

theorem sound_mv {x : Operand} (hop : o.op = .move x ∨ o.op = .assign x) {a : AOper} (ha : a.o = .mv (co x)) (hT : o.type = a.T) {k : Nat} (hk : opK tt k a ⟨t, h, G⟩ K) : Res P o ρ w0 Fo B w h μ G own K := by
  have hr : (execOp ρ o).run P w = .ok (.value (ρ x)) w := by rcases hop with e | e <;> simp [execOp, e]
  have hx := hρ x
  simp only [opK, ha] at hk
  split at hk
  · exact .same I hr hx hk
  · split at hk
    · rename_i hev hsz
      rw [hev] at hx
      rw [hx.asNil] at hr
      exact .addArr I ⟨rfl, rfl, rfl, Nat.le_refl _, fun _ _ _ => rfl⟩ k ⟨_, _, _, rfl⟩ hr (o1 := []) (by simp) (by simp) (fun F' _ => .olistE _) hk
    · exact hk.elim
  · split at hk
    · rename_i j g hev
      split at hk
      · rename_i sz xs hf
        rw [hev] at hx
        obtain ⟨⟨a1, n1, c1, ha1⟩, _, hm⟩ := hx.asArr
        have hm := hm (by rw [hf]; simp)
        obtain ⟨o1, rest, he, hr', hnd, hmem, out⟩ := I.takeOut hf
        refine ⟨_, ρ x, w, _, _, _, _, _, hr, .inl rfl, hk, out, .imm _ _ ?_⟩
        rw [hm]
        have hok := ORep.imm he.arrOf (F' := FF rest Fo) (fun b hb _ => hb.imp (fun hb => hmem b (by simp [hb])) id) (fun b hb hF => by
          rcases hF with hF | hF
          · exact (List.nodup_append.1 hnd).2.2 b hb b hF rfl
          · have := I.out b hF; have := (he.lt b hb).1
            have h2 := he.arrOf.lt b hb
            omega) 6
        simpa [PS.imm] using hok
      · exact hk.elim
    · exact hk.elim

theorem sound_pick {c x y : Operand} (hop : o.op = .pick c x y) {a : AOper} (ha : a.o = .pick (co c) (co x) (co y)) {k : Nat} (hk : opK tt k a ⟨t, h, G⟩ K) : Res P o ρ w0 Fo B w h μ G own K := by
  simp only [opK, ha] at hk
  split at hk
  · rename_i b hev
    have hc := hρ c
    rw [hev] at hc
    have hc := hc.asBool
    refine .same I (v := if b then ρ x else ρ y) (by simp [execOp, hop, hc, Go.asBool]) ?_ hk
    cases b
    · exact hρ y
    · exact hρ x
  · exact hk.elim

end
end Go.PS
end

section
-- Every operation of the machine against the clean one: memory.
set_option linter.unusedVariables false
set_option linter.unusedSimpArgs false
set_option linter.unusedSectionVars false
namespace Go.PS

theorem TyOk.isAgg {P : Program} {tt : Nat → Ty} (hty : TyOk P tt) (w : World) (T : Nat) (h : (tt T).isStruct = true ∨ (tt T).flat = true) : (Go.isAgg T).run P w = .ok ((tt T).isStruct) w := by
  unfold Go.isAgg
  cases hk : (tt T).kd with
  | int k => simp [run_underlying (hty.int T k hk), Ty.isStruct, hk]
  | bool => simp [run_underlying (hty.bool T hk), Ty.isStruct, hk]
  | str => simp [run_underlying (hty.str T hk), Ty.isStruct, hk]
  | slice e => simp [run_underlying (hty.slice T e hk), Ty.isStruct, hk]
  | ptr e => simp [run_underlying (hty.ptr T e hk), Ty.isStruct, hk]
  | func => obtain ⟨ps, rs, v, hu⟩ := hty.func T hk; simp [run_underlying hu, Ty.isStruct, hk]
  | struct fs => obtain ⟨fields, hu, _⟩ := hty.struct T fs hk; simp [run_underlying hu, Ty.isStruct, hk]
  | other => simp [Ty.isStruct, Ty.flat, hk] at h

theorem TyOk.size {P : Program} {tt : Nat → Ty} (hty : TyOk P tt) (w : World) (T : Nat) (h : (tt T).kd ≠ .other) : (sizeOf T).run P w = .ok ((tt T).sz) w := by
  obtain ⟨i, hi, hs, _⟩ := hty.info T h
  simp [sizeOf, typeInfo, hi, hs]

theorem fitsT_known {t : Ty} {d : D} (h : fitsT t d) : t.isStruct = true ∨ t.flat = true := by
  cases d <;> simp only [fitsT] at h <;> simp [h.1]

theorem known_of {t : Ty} (h : t.known = true) : t.kd ≠ .other := by intro e; simp [Ty.known, e] at h

theorem known_ne {t : Ty} (h : t.isStruct = true ∨ t.flat = true) : t.kd ≠ .other := by
  intro e
  rcases h with h | h
  · simp [Ty.isStruct, e] at h
  · simp [Ty.flat, e] at h

theorem set_nil_sublist : ∀ (os : List (List Nat)) (i : Nat), ((os.set i []).flatten).Sublist os.flatten
  | [], i => by simp
  | p :: ps, 0 => by simp only [List.set_cons_zero, List.flatten_cons, List.nil_append]; exact List.sublist_append_right _ _
  | p :: ps, i + 1 => by simp only [List.set_cons_succ, List.flatten_cons]; exact (List.Sublist.refl p).append (set_nil_sublist ps i)

theorem set_nil_disj : ∀ (os : List (List Nat)) (i : Nat) (p : List Nat), os[i]? = some p → os.flatten.Nodup → ∀ c ∈ p, c ∉ (os.set i []).flatten
  | [], i, p, h, _ => by simp at h
  | q :: os, 0, p, h, hn => by
    obtain rfl : q = p := by simpa using h
    intro c hc hc2
    simp only [List.set_cons_zero, List.flatten_cons, List.nil_append] at hc2
    rw [List.flatten_cons] at hn
    exact (List.nodup_append.1 hn).2.2 c hc c hc2 rfl
  | q :: os, i + 1, p, h, hn => by
    intro c hc hc2
    rw [List.flatten_cons] at hn
    have h' : os[i]? = some p := by simpa using h
    simp only [List.set_cons_succ, List.flatten_cons, List.mem_append] at hc2
    rcases hc2 with hc2 | hc2
    · exact (List.nodup_append.1 hn).2.2 c hc2 c (mem_flatten_of h' hc) rfl
    · exact set_nil_disj os i p h' (List.nodup_append.1 hn).2.1 c hc hc2

/-- The cells after one was laid anew. -/
theorem cellB_set {w w' : World} {μ : Nat → Value} {g sz sz' x off : Nat} {xs : List D} {e d' : D} (hx : cellB (.arr sz (xs.set off e)) x = some d')
    (h1 : isNilD (xs.getD off .junk) = false → isNilD e = false ∧ (isOl e = true → isOl (xs.getD off .junk) = true ∧ ∀ bb n c : Nat, μ g = .slice (some ⟨bb, 0, none⟩) n c → w'.cell? ⟨bb, off, none⟩ = w.cell? ⟨bb, off, none⟩))
    (h2 : x ≠ off → ∀ bb n c : Nat, μ g = .slice (some ⟨bb, 0, none⟩) n c → w'.cell? ⟨bb, x, none⟩ = w.cell? ⟨bb, x, none⟩) :
    ∃ d, cellB (.arr sz' xs) x = some d ∧ (isNilD d = false → isNilD d' = false ∧ (isOl d' = true → isOl d = true ∧ ∀ bb n c : Nat, μ g = .slice (some ⟨bb, 0, none⟩) n c → w'.cell? ⟨bb, x, none⟩ = w.cell? ⟨bb, x, none⟩)) := by
  simp only [cellB] at hx ⊢
  rw [List.getElem?_set] at hx
  by_cases hi : off = x
  · rw [if_pos hi] at hx
    split at hx
    · rename_i hlt
      injection hx with hx
      subst hx
      subst hi
      refine ⟨xs.getD off .junk, by rw [List.getD_eq_getElem?_getD, List.getElem?_eq_getElem hlt]; rfl, h1⟩
    · cases hx
  · rw [if_neg hi] at hx
    exact ⟨d', hx, fun hn => ⟨hn, fun ho => ⟨ho, h2 (fun e => hi e.symm)⟩⟩⟩

section
variable {P : Program} {tt : Nat → Ty} {o : Oper} {ρ : Operand → Value} {w0 : World} {Fo : Nat → Prop} {B : Option Nat} {w : World} {h : List Ent} {μ : Nat → Value} {G : Nat} {own : List Nat} {K : D → List Ent → Nat → Prop} {t : List (Nat × D)}
variable (hρ : ∀ x, VRep w (FF own Fo) h μ G (ev t (co x)) (ρ x)) (I : HInv w0 Fo B w h μ G own) (hty : TyOk P tt)
include hρ I hty

theorem sound_box {T : Nat} {x : Operand} (hop : o.op = .box T x) {a : AOper} (ha : a.o = .box T (co x)) {k : Nat} (hk : opK tt k a ⟨t, h, G⟩ K) : Res P o ρ w0 Fo B w h μ G own K := by
  have hr : (execOp ρ o).run P w = .ok (.value (.pointer (some ⟨w.heap.size, 0, none⟩))) (w.alloc (.cells (ρ x).cells T)) := by
    simp [execOp, hop, Instr.box, newVar, newRow]
  have hx := hρ x
  simp only [opK, ha] at hk
  split at hk
  · obtain ⟨hp, hf, hk⟩ := hk
    obtain ⟨h1, h2, _, _⟩ := hx.fits hf
    refine .quiet I (grown_alloc w _) hr (.imm _ _ (.iptr _ (ρ x) _ 0 ?_ (fun j u hu => ⟨h2 j u hu, by simp [hu]⟩) (by simp) (fun hF => Nat.lt_irrefl _ (I.blk _ hF)))) hk
    exact ((hx.pure 5 hp).evo (I.quiet (grown_alloc w (.cells (ρ x).cells T))).2.mm)
  · obtain ⟨hf, hk⟩ := hk
    obtain ⟨h1, h2, h3, h4⟩ := hx.fits hf
    refine .addCells I k (cs := cellsD (ev t (co x))) (vs := (ρ x).cells.toList) (E := T) (by simp [h3]) (fun v hv => ?_) (fun i d v hd hv => h4 i d v hd (by simpa using hv)) (by simpa using hr) hk
    obtain ⟨j, hj⟩ := List.mem_iff_getElem?.1 hv
    exact h2 j v (by simpa using hj)

theorem sound_alloc {T : Nat} (hop : o.op = .alloc T) {a : AOper} (ha : a.o = .alloc T) {k : Nat} (hk : opK tt k a ⟨t, h, G⟩ K) : Res P o ρ w0 Fo B w h μ G own K := by
  simp only [opK, ha] at hk
  split at hk
  · rename_i z hz
    obtain ⟨hf, hk⟩ := hk
    obtain ⟨i, hi, _, _, _, hzz⟩ := hty.info T (known_ne (fitsT_known hf))
    obtain ⟨⟨zv, hzv, hrep⟩, _, _⟩ := hzz z hz
    obtain ⟨h1, h2, h3, h4⟩ := VRep.fits (w := w) (F := FF own Fo) (h := h) (μ := μ) (G := G) (.imm _ _ (hrep w (FF own Fo))) hf
    refine .addCells I k (cs := cellsD z) (vs := zv.cells.toList) (E := T) (by simp [h3]) (fun v hv => ?_) (fun i d v hd hv => h4 i d v hd (by simpa using hv)) ?_ hk
    · obtain ⟨j, hj⟩ := List.mem_iff_getElem?.1 hv
      exact h2 j v (by simpa using hj)
    · simp [execOp, hop, Instr.alloc, zeroValue, typeInfo, hi, hzv, newVar, newRow]
  · exact hk.elim

theorem loadCells_run {b off n : Nat} {vs : List Value} (hl : vs.length = n) (hc : ∀ (j : Nat) (u : Value), vs[j]? = some u → w.cell? ⟨b, off + j, none⟩ = some u) : (loadCells ⟨b, off, none⟩ n).run P w = .ok vs.toArray w := by
  subst hl
  exact run_loadCells_list w ⟨b, off, none⟩ vs (fun j v hv => by rw [Addr.add_lit]; exact hc j v hv)

omit hρ I hty in
/-- What a list of plain things says of its cells. -/
theorem ORep.scalAt {F : Nat → Prop} {lo y n c b : Nat} {ys : List D} {o : List Nat} (hO : ORep w F lo (.olist 1 ys) (.slice (some ⟨b, 0, none⟩) n c) o) (hlt : y < ys.length) (hsc : scal (ys.getD y .junk) = true) :
    ∃ u, Rep w F (ys.getD y .junk) u ∧ w.cell? ⟨b, y, none⟩ = some u := by
  rcases hO.olist_inv with ⟨h1, _, _⟩ | ⟨vs, os, b', cap, cur, E, hm, _, h1, h2, h3, h4, h5, h6, h7, h8, h9⟩
  · cases h1
  · injection hm with hm; injection hm with hm; injection hm with hm
    subst hm
    have hvs : vs[y]? = some (vs[y]'(by omega)) := List.getElem?_eq_getElem _
    have hxs : ys[y]? = some (ys.getD y .junk) := by rw [List.getD_eq_getElem?_getD, List.getElem?_eq_getElem hlt]; rfl
    have hos : os[y]? = some (os[y]'(by omega)) := List.getElem?_eq_getElem _
    have hrep : Rep w F (ys.getD y .junk) (vs[y]'(by omega)) := by
      have := h3 y _ _ _ hxs hvs hos
      revert this hsc
      generalize ys.getD y .junk = d
      generalize vs[y]'(by omega) = u
      generalize os[y]'(by omega) = p
      intro hsc this
      cases this with
      | base _ _ hr => exact hr
      | _ => simp [scal] at hsc
    have hcell : isCell (ys.getD y .junk) = true := by
      revert hsc; generalize ys.getD y .junk = d; intro hsc; cases d <;> simp_all [scal, isCell]
    obtain ⟨h10, h11⟩ := VRep.cell (h := []) (μ := fun _ => undef) (G := 0) (.imm _ _ hrep) hcell
    have h12 := ((h8 y _ hvs).2 0 (vs[y]'(by omega)) (by rw [h11]; rfl)).2
    simp only [Nat.zero_add, Nat.mul_one, Nat.add_zero] at h12
    exact ⟨_, hrep, h12⟩

/-- A list in a cell of the run's own, looked at or taken out. -/
theorem sound_rowK {T : Nat} {x : Operand} (hop : o.op = .load T x) {fl j g off : Nat} {xs : List D} (hev : ev t (co x) = .ptr j g off) (hf : find h j g = some (.arr 1 xs)) (hfl : (tt T).flat = true)
    (hk : rowK fl j g xs off ⟨t, h, G⟩ K) : Res P o ρ w0 Fo B w h μ G own K := by
  have hx := hρ x
  rw [hev] at hx
  have hs : (tt T).isStruct = false := by simp only [Ty.flat, Ty.isStruct] at hfl ⊢; split at hfl <;> simp_all
  obtain ⟨hg, hp⟩ := hx.asPtr
  obtain ⟨b, hb, hv⟩ := hp (by rw [hf]; simp)
  unfold rowK at hk
  split at hk
  · rename_i s ys hoff
    have hlt : off < xs.length := (List.getElem?_eq_some_iff.1 hoff).1
    obtain ⟨o1, rest, he, hr', hnd, hmem, _⟩ := I.takeOut hf
    rcases he.arrOf.olist_inv with ⟨_, hxs, _⟩ | ⟨vs, os, b', cap, cur, E, hm, ho1, h1, h2, h3, h4, h5, h6, h7, h8, h9⟩
    · rw [hxs] at hlt; simp at hlt
    · have hbb : b' = b := by
        rcases hb with hb | ⟨n', c', hb⟩
        · rw [hm] at hb; cases hb
        · rw [hm] at hb; injection hb with hb; injection hb with hb; injection hb
      subst hbb
      have hvs : vs[off]? = some (vs[off]'(by omega)) := List.getElem?_eq_getElem _
      have hos : os[off]? = some (os[off]'(by omega)) := List.getElem?_eq_getElem _
      have hO := h3 off _ _ _ hoff hvs hos
      have hsl : ∃ a n c, vs[off]'(by omega) = .slice a n c := by
        rcases hO.olist_inv with ⟨e, _⟩ | ⟨_, _, _, _, _, _, e, _⟩ <;> rw [e] <;> exact ⟨_, _, _, rfl⟩
      have hone : (vs[off]'(by omega)).cells = #[vs[off]'(by omega)] := by obtain ⟨a, n, c, e⟩ := hsl; rw [e]; rfl
      have h12 := ((h8 off _ hvs).2 0 (vs[off]'(by omega)) (by rw [hone]; rfl)).2
      simp only [Nat.zero_add, Nat.mul_one, Nat.add_zero] at h12
      have hrun : (execOp ρ o).run P w = .ok (.value (vs[off]'(by omega))) w := by
        simp [execOp, hop, hv, Instr.loadAt, Instr.sureAddr, loadVar, hty.isAgg w T (.inr hfl), hs, h12]
      split at hk
      · refine .same I hrun ?_ hk
        obtain ⟨a, n, c, e⟩ := hsl
        rw [e] at h12 ⊢
        refine .row j g off a n c hg (fun d hd => ?_)
        have : d = .olist s ys := by
          unfold cellAt at hd
          rw [hf] at hd
          simp only [cellB] at hd
          rw [hoff] at hd
          injection hd with hd
          exact hd.symm
        subst this
        exact ⟨rfl, fun _ => ⟨b', _, _, hm, h12⟩⟩
      · subst ho1
        have hsub := set_nil_sublist os off
        have hnd1 := (List.nodup_append.1 hnd).1
        have hnd' : ((b' :: (os.set off []).flatten) ++ rest).Nodup := (((hsub.cons_cons b').append (List.Sublist.refl rest))).nodup hnd
        have hin : ∀ c, c ∈ b' :: (os.set off []).flatten → c ∈ b' :: os.flatten := fun c hc => (hsub.cons_cons b').subset hc
        have hdis : ∀ c ∈ os[off]'(by omega), c ∉ b' :: (os.set off []).flatten := by
          intro c hc hc2
          rcases List.mem_cons.1 hc2 with rfl | hc2
          · exact (List.nodup_cons.1 hnd1).1 (mem_flatten_of hos hc)
          · exact set_nil_disj os off _ hos (List.nodup_cons.1 hnd1).2 c hc hc2
        have hF : ∀ o'' : List Nat, (∀ c, c ∈ o'' ↔ c ∈ (b' :: (os.set off []).flatten) ++ rest) → Rep w (FF o'' Fo) (.list s (ys.map (imm 5))) (vs[off]'(by omega)) := by
          intro o'' ho''
          have := hO.imm (F' := FF o'' Fo) (fun c hc _ => by
            rcases hc with hc | hc
            · rcases List.mem_append.1 ((ho'' c).1 hc) with hc | hc
              · exact .inl (hmem c (List.mem_append_left _ (hin c hc)))
              · exact .inl (hmem c (List.mem_append_right _ hc))
            · exact .inr hc) (fun c hc hF => by
            rcases hF with hF | hF
            · rcases List.mem_append.1 ((ho'' c).1 hF) with hF | hF
              · exact hdis c hc hF
              · exact (List.nodup_append.1 hnd).2.2 c (List.mem_cons_of_mem _ (mem_flatten_of hos hc)) c hF rfl
            · have q1 := I.out c hF
              have q2 := (hO.lt c hc).1
              omega) 6
          simpa [PS.imm] using this
        obtain ⟨o'', hm'', out⟩ := I.replace (hA := h) I.keys (fun _ _ _ => rfl) hf hr' (fun c hc => hmem c (by simp [hc])) I.grown (Nat.le_refl _) (fun _ _ _ => rfl) (fun _ _ => rfl)
          (.arr 1 (xs.set off (.list s (ys.map (imm 5))))) (b' :: (os.set off []).flatten) hnd' (fun c hc => .inl (hmem c (List.mem_append_left _ (hin c hc)))) g G μ
          (.inl ⟨rfl, rfl, rfl, fun x d' hx => cellB_set hx (fun h1 => ⟨by simp [isNilD], fun h2 => by simp [isOl] at h2⟩) (fun _ _ _ _ _ => rfl)⟩)
          (fun o'' hm'' ev' => ⟨he.1, by
            show ORep _ _ _ _ (μ g) _
            rw [hm]
            have key := ORep.olist (w := w) (F := FF o'' Fo) (lo := w0.heap.size) 1 (xs.set off (.list s (ys.map (imm 5)))) vs (os.set off []) b' cap _ E (by simp [h1]) (by simp [h2]) ?_ h4 h5 (by simpa using h6) h7 h8 h9
            · rw [List.length_set] at key; exact key
            · intro i d u q hd hu hq
              rw [List.getElem?_set] at hd hq
              by_cases hi : off = i
              · subst hi
                rw [if_pos rfl, if_pos hlt] at hd
                rw [if_pos rfl, if_pos (by omega)] at hq
                injection hd with hd; injection hq with hq
                subst hd; subst hq
                rw [hvs] at hu
                injection hu with hu
                subst hu
                exact .base _ _ (hF o'' hm'')
              · rw [if_neg hi] at hd hq
                exact (h3 i d u q hd hu hq).evo ev'.mm (fun _ _ => rfl) (fun c hc => ((h3 i d u q hd hu hq).lt c hc).1)⟩)
        exact ⟨_, _, w, _, _, _, _, _, hrun, .inl rfl, hk, out, .imm _ _ (hF o'' hm'')⟩
  · exact hk.elim

theorem sound_load {T : Nat} {x : Operand} (hop : o.op = .load T x) {a : AOper} (ha : a.o = .load T (co x)) {k : Nat} (hk : opK tt k a ⟨t, h, G⟩ K) : Res P o ρ w0 Fo B w h μ G own K := by
  have hx := hρ x
  simp only [opK, ha] at hk
  split at hk
  · rename_i d hev
    obtain ⟨hf, hk⟩ := hk
    rw [hev] at hx
    obtain ⟨u, b, off, hv, hrep, hc, hlt, hnf⟩ := hx.asIptr
    have hkn := fitsT_known hf
    obtain ⟨h1, h2, _, _⟩ := VRep.fits (h := h) (μ := μ) (G := G) (.imm _ _ hrep) hf
    refine .same I (v := u) ?_ (.imm _ _ hrep) hk
    by_cases hs : (tt T).isStruct = true
    · have hagg : ∃ vs : List Value, u = .agg vs.toArray := by
        cases d with
        | agg xs => obtain ⟨vs, e, _⟩ := VRep.asAgg (h := h) (μ := μ) (G := G) (.imm _ _ hrep); exact ⟨vs, e⟩
        | _ =>
          simp only [fitsT, Ty.flat] at hf
          simp only [Ty.isStruct] at hs
          split at hs <;> simp_all
      obtain ⟨vs, rfl⟩ := hagg
      have hl := loadCells_run (P := P) hρ I hty (b := b) (off := off) (n := (tt T).sz) (vs := vs) (by simpa [Value.cells] using h1) (fun j u hu => (hc j u (by simpa [Value.cells] using hu)).2)
      simp [execOp, hop, hv, Instr.loadAt, Instr.sureAddr, loadVar, hty.isAgg w T hkn, hs, hty.size w T (known_ne hkn), hl]
    · have hs : (tt T).isStruct = false := by simpa using hs
      have hcell : isCell d = true := by
        cases d with
        | agg xs => simp only [fitsT] at hf; rw [hs] at hf; cases hf.1
        | _ => simp only [fitsT] at hf; exact hf.2.2
      obtain ⟨h3, h4⟩ := VRep.cell (h := h) (μ := μ) (G := G) (.imm _ _ hrep) hcell
      have h5 := (hc 0 u (by rw [h4]; rfl)).2
      rw [Nat.add_zero] at h5
      simp [execOp, hop, hv, Instr.loadAt, Instr.sureAddr, loadVar, hty.isAgg w T hkn, hs, h5]
  · rename_i j g off hev
    rw [hev] at hx
    split at hk
    · rename_i cs hf
      obtain ⟨_, hp⟩ := hx.asPtr
      obtain ⟨b, hb, hv⟩ := hp (by rw [hf]; simp)
      obtain ⟨o1, he, _⟩ := I.hok.has h own hf
      obtain ⟨b', vs, E, hm, hh, hl, h1, hr, _, _⟩ := he.cellsOf
      have hbb : b' = b := by
        rcases hb with hb | ⟨n', c', hb⟩
        · rw [hm] at hb; injection hb with hb; injection hb with hb; injection hb
        · rw [hm] at hb; cases hb
      subst hbb
      have hc : ∀ (j : Nat) (u : Value), vs[j]? = some u → w.cell? ⟨b', j, none⟩ = some u := fun j u hu => by simp [World.cell?, hh, hu]
      by_cases hs : (tt T).isStruct = true
      · rw [if_pos hs] at hk
        obtain ⟨hle, hk⟩ := hk
        have hlen : ((vs.drop off).take (tt T).sz).length = (tt T).sz := by rw [List.length_take, List.length_drop]; omega
        have hl2 := loadCells_run (P := P) hρ I hty (b := b') (off := off) (n := (tt T).sz) (vs := (vs.drop off).take (tt T).sz) hlen (fun j u hu => by
          rw [List.getElem?_take] at hu
          split at hu
          · rw [List.getElem?_drop] at hu; exact hc _ u hu
          · cases hu)
        refine .same I (v := .agg ((vs.drop off).take (tt T).sz).toArray) (by
          simp [execOp, hop, hv, Instr.loadAt, Instr.sureAddr, loadVar, hty.isAgg w T (.inl hs), hs, hty.size w T (known_ne (.inl hs)), hl2]) ?_ hk
        refine .agg _ _ (by rw [hlen, List.length_take, List.length_drop]; omega) (fun i d v hd hv => ?_) (Ones.sub h1 (fun v hv => List.mem_of_mem_drop (List.mem_of_mem_take hv)))
        rw [List.getElem?_take] at hd hv
        split at hd
        · rename_i hi
          rw [if_pos hi] at hv
          rw [List.getElem?_drop] at hd hv
          exact hr _ d v hd hv
        · cases hd
      · rw [if_neg hs] at hk
        obtain ⟨hfl, hlt, hk⟩ := hk
        have hs : (tt T).isStruct = false := by simpa using hs
        have hvs : vs[off]? = some (vs[off]'(by omega)) := List.getElem?_eq_getElem _
        refine .same I (v := vs[off]'(by omega)) (by
          simp [execOp, hop, hv, Instr.loadAt, Instr.sureAddr, loadVar, hty.isAgg w T (.inr hfl), hs, hc off _ hvs]) ?_ hk
        exact hr off _ _ (by rw [List.getD_eq_getElem?_getD, List.getElem?_eq_getElem hlt]; rfl) hvs
    · rename_i sz xs hf
      obtain ⟨hsz, hfl, hk⟩ := hk
      subst hsz
      split at hk
      case' h_2 => exact sound_rowK hρ I hty hop hev hf hfl hk
      obtain ⟨hlt, hsc, hk⟩ := hk
      obtain ⟨_, hp⟩ := hx.asPtr
      obtain ⟨b, hb, hv⟩ := hp (by rw [hf]; simp)
      obtain ⟨o1, he, _⟩ := I.hok.has h own hf
      have hs : (tt T).isStruct = false := by simp only [Ty.flat, Ty.isStruct] at hfl ⊢; split at hfl <;> simp_all
      rcases he.arrOf.olist_inv with ⟨_, hxs, _⟩ | ⟨vs, os, b', cap, cur, E, hm, _, h1, h2, h3, h4, h5, h6, h7, h8, h9⟩
      · rw [hxs] at hlt; simp at hlt
      · have hbb : b' = b := by
          rcases hb with hb | ⟨n', c', hb⟩
          · rw [hm] at hb; cases hb
          · rw [hm] at hb; injection hb with hb; injection hb with hb; injection hb
        subst hbb
        have hvs : vs[off]? = some (vs[off]'(by omega)) := List.getElem?_eq_getElem _
        have hxs : xs[off]? = some (xs.getD off .junk) := by rw [List.getD_eq_getElem?_getD, List.getElem?_eq_getElem hlt]; rfl
        have hos : os[off]? = some (os[off]'(by omega)) := List.getElem?_eq_getElem _
        have hrep : Rep w (FF own Fo) (xs.getD off .junk) (vs[off]'(by omega)) := by
          have := h3 off _ _ _ hxs hvs hos
          revert this hsc
          generalize xs.getD off .junk = d
          generalize vs[off]'(by omega) = u
          generalize os[off]'(by omega) = p
          intro hsc this
          cases this with
          | base _ _ hr => exact hr
          | _ => simp [scal] at hsc
        have hcell : isCell (xs.getD off .junk) = true := by
          revert hsc; generalize xs.getD off .junk = d; intro hsc; cases d <;> simp_all [scal, isCell]
        obtain ⟨h10, h11⟩ := VRep.cell (h := h) (μ := μ) (G := G) (.imm _ _ hrep) hcell
        have h12 := ((h8 off _ hvs).2 0 (vs[off]'(by omega)) (by rw [h11]; rfl)).2
        simp only [Nat.zero_add, Nat.mul_one, Nat.add_zero] at h12
        refine .same I (v := vs[off]'(by omega)) (by
          simp [execOp, hop, hv, Instr.loadAt, Instr.sureAddr, loadVar, hty.isAgg w T (.inr hfl), hs, h12]) (.imm _ _ hrep) hk
    · exact hk.elim
  · rename_i j g x y hev
    rw [hev] at hx
    split at hk
    · rename_i s ys hr
      obtain ⟨rfl, hfl, hlt, hsc, hk⟩ := hk
      obtain ⟨_, hp⟩ := hx.asRptr
      obtain ⟨b, n', c', b', n, c, hm, hc, hv⟩ := hp (by rw [hr]; simp)
      obtain ⟨o1, hrow, _⟩ := I.hok.rowOf hr hm
      have hO := hrow _ hc
      have hs : (tt T).isStruct = false := by simp only [Ty.flat, Ty.isStruct] at hfl ⊢; split at hfl <;> simp_all
      obtain ⟨u, hu1, hu2⟩ := hO.scalAt hlt hsc
      have hcell : isCell (ys.getD y .junk) = true := by
        revert hsc; generalize ys.getD y .junk = d; intro hsc; cases d <;> simp_all [scal, isCell]
      refine .same I (v := u) (by
          simp [execOp, hop, hv, Instr.loadAt, Instr.sureAddr, loadVar, hty.isAgg w T (.inr hfl), hs, hu2]) (.imm _ _ hu1) hk
    · exact hk.elim
  · exact hk.elim

end
end Go.PS
end

section
-- Every operation of the machine against the clean one: stores, numbers, addresses.
set_option linter.unusedVariables false
set_option linter.unusedSimpArgs false
set_option linter.unusedSectionVars false
namespace Go.PS

theorem splice_rel {α β : Type} {R : α → β → Prop} {cs es : List α} {vs us : List β} {off : Nat} (hl : vs.length = cs.length) (hl2 : us.length = es.length) (hoff : off ≤ cs.length)
    (a : ∀ (i : Nat) (d : α) (v : β), cs[i]? = some d → vs[i]? = some v → R d v) (b : ∀ (i : Nat) (d : α) (v : β), es[i]? = some d → us[i]? = some v → R d v) :
    ∀ (i : Nat) (d : α) (v : β), (cs.take off ++ es ++ cs.drop (off + es.length))[i]? = some d → (vs.take off ++ us ++ vs.drop (off + us.length))[i]? = some v → R d v := by
  intro i d v hd hv
  have l1 : (cs.take off).length = off := by rw [List.length_take]; omega
  have l2 : (vs.take off).length = off := by rw [List.length_take]; omega
  rw [List.append_assoc] at hd hv
  by_cases h1 : i < off
  · rw [List.getElem?_append_left (by omega), List.getElem?_take, if_pos h1] at hd hv
    exact a i d v hd hv
  · rw [List.getElem?_append_right (by omega)] at hd hv
    rw [l1] at hd; rw [l2] at hv
    by_cases h2 : i - off < es.length
    · rw [List.getElem?_append_left (by omega)] at hd hv
      exact b _ d v hd hv
    · rw [List.getElem?_append_right (by omega), List.getElem?_drop] at hd hv
      rw [hl2] at hv
      exact a _ d v hd hv

theorem set_rel {α β : Type} {R : α → β → Prop} {cs : List α} {vs : List β} {off : Nat} {e : α} {u : β} (hl : vs.length = cs.length)
    (a : ∀ (i : Nat) (d : α) (v : β), cs[i]? = some d → vs[i]? = some v → R d v) (b : R e u) :
    ∀ (i : Nat) (d : α) (v : β), (cs.set off e)[i]? = some d → (vs.set off u)[i]? = some v → R d v := by
  intro i d v hd hv
  rw [List.getElem?_set] at hd hv
  by_cases h1 : off = i
  · rw [if_pos h1] at hd hv
    split at hd
    · split at hv
      · injection hd with hd; injection hv with hv; subst hd; subst hv; exact b
      · cases hv
    · cases hd
  · rw [if_neg h1] at hd hv
    exact a i d v hd hv

theorem set_sublist : ∀ (os : List (List Nat)) (i : Nat) (p q : List Nat), os[i]? = some p → q.Sublist p → ((os.set i q).flatten).Sublist os.flatten
  | [], i, p, q, h, _ => by simp at h
  | r :: os, 0, p, q, h, hs => by
    obtain rfl : r = p := by simpa using h
    simp only [List.set_cons_zero, List.flatten_cons]
    exact hs.append (List.Sublist.refl _)
  | r :: os, i + 1, p, q, h, hs => by
    simp only [List.set_cons_succ, List.flatten_cons]
    exact (List.Sublist.refl r).append (set_sublist os i p q (by simpa using h) hs)

theorem flatten_disj : ∀ (os : List (List Nat)) (i j : Nat) (p q : List Nat), i ≠ j → os[i]? = some p → os[j]? = some q → os.flatten.Nodup → ∀ c ∈ p, c ∉ q
  | [], i, j, p, q, _, h, _, _ => by simp at h
  | r :: os, i, j, p, q, hij, hi, hj, hn => by
    rw [List.flatten_cons] at hn
    obtain ⟨n1, n2, n3⟩ := List.nodup_append.1 hn
    intro c hc hc2
    cases i with
    | zero =>
      obtain rfl : r = p := by simpa using hi
      cases j with
      | zero => exact hij rfl
      | succ j => exact n3 c hc c (mem_flatten_of (i := j) (by simpa using hj) hc2) rfl
    | succ i =>
      cases j with
      | zero =>
        obtain rfl : r = q := by simpa using hj
        exact n3 c hc2 c (mem_flatten_of (i := i) (by simpa using hi) hc) rfl
      | succ j => exact flatten_disj os i j p q (by omega) (by simpa using hi) (by simpa using hj) n2 c hc hc2

theorem nodup_of_flatten : ∀ (os : List (List Nat)) (i : Nat) (p : List Nat), os[i]? = some p → os.flatten.Nodup → p.Nodup
  | [], i, p, h, _ => by simp at h
  | r :: os, i, p, h, hn => by
    rw [List.flatten_cons] at hn
    obtain ⟨n1, n2, _⟩ := List.nodup_append.1 hn
    cases i with
    | zero => obtain rfl : r = p := by simpa using h
              exact n1
    | succ i => exact nodup_of_flatten os i p (by simpa using h) n2

theorem set_flatten_perm : ∀ (os : List (List Nat)) (i : Nat) (p : List Nat), os[i]? = some [] → ((os.set i p).flatten).Perm (p ++ os.flatten)
  | [], i, p, h => by simp at h
  | q :: os, 0, p, h => by
    obtain rfl : q = [] := by simpa using h
    simp only [List.set_cons_zero, List.flatten_cons, List.nil_append]
    exact List.Perm.refl _
  | q :: os, i + 1, p, h => by
    have ih := set_flatten_perm os i p (by simpa using h)
    simp only [List.set_cons_succ, List.flatten_cons]
    refine (ih.append_left q).trans ?_
    rw [← List.append_assoc, ← List.append_assoc]
    exact List.perm_append_comm.append_right _

section
variable {P : Program} {tt : Nat → Ty} {o : Oper} {ρ : Operand → Value} {w0 : World} {Fo : Nat → Prop} {B : Option Nat} {w : World} {h : List Ent} {μ : Nat → Value} {G : Nat} {own : List Nat} {K : D → List Ent → Nat → Prop} {t : List (Nat × D)}
variable (hρ : ∀ x, VRep w (FF own Fo) h μ G (ev t (co x)) (ρ x)) (I : HInv w0 Fo B w h μ G own) (hty : TyOk P tt)
include hρ I hty

theorem storeVar_run {T b off : Nat} {v : Value} {cur : Array Value} {E : TypeId} (hk : (tt T).kd ≠ .other) (hh : w.heap[b]? = some (.cells cur E (0, 0))) (hs : v.cells.size = (tt T).sz)
    (h1 : ∀ (j : Nat) (u : Value), v.cells[j]? = some u → u.oneCell' = true) (hfit : off + v.cells.size ≤ cur.size) :
    (storeVar T ⟨b, off, none⟩ v).run P w = .ok () (w.setRow b (cur.toList.take off ++ v.cells.toList ++ cur.toList.drop (off + v.cells.size)).toArray) := by
  have hst := run_storeCells_at P b off E v.cells.toList 0 cur w hh (by simpa using hfit) (fun u hu => by
    obtain ⟨j, hj⟩ := List.mem_iff_getElem?.1 hu
    exact h1 j u (by simpa using hj))
  simp only [Nat.add_zero, Array.length_toList] at hst
  simp [storeVar, hty.size w T hk, hs, hst]

/-- A list of the run's own laid into an empty cell of another one. -/
theorem sound_storeO {T : Nat} {x v : Operand} (hop : o.op = .store T x v) {j g off : Nat} {xs : List D} (hev : ev t (co x) = .ptr j g off) (hfit : fitsT (tt T) (ev t (co v))) (hf : find h j g = some (.arr 1 xs))
    (hfl : (tt T).flat = true) (hlt : off < xs.length) (hk : moveK j g 1 xs off (ev t (co v)) ⟨t, h, G⟩ K) : Res P o ρ w0 Fo B w h μ G own K := by
  have hx := hρ x
  have hv := hρ v
  rw [hev] at hx
  obtain ⟨f1, f2, f3, f4⟩ := hv.fits hfit
  have hkn := known_ne (fitsT_known hfit)
  obtain ⟨_, hp⟩ := hx.asPtr
  obtain ⟨b, hb, hpv⟩ := hp (by rw [hf]; simp)
  unfold moveK at hk
  split at hk
  · rename_i j' g' hevv
    split at hk
    · rename_i s ys hf2
      obtain ⟨hne, hnil, hk⟩ := hk
      rw [hevv] at hv
      obtain ⟨c1, c2⟩ := hv.cell rfl
      obtain ⟨_, _, hmv⟩ := hv.asArr
      have hmv := hmv (by rw [hf2]; simp)
      obtain ⟨o2, rest2, he2, hr2, hnd2, hmem2, _⟩ := I.takeOut hf2
      have hfA : find (hdel h j') j g = some (.arr 1 xs) := by rw [find_hdel_ne (Ne.symm hne)]; exact hf
      obtain ⟨o1, rest, he, hr', hnd, hmem⟩ := HOk.take _ _ hr2 hfA (List.nodup_append.1 hnd2).2.1
      have hO2 := he2.arrOf
      rw [← hmv] at hO2
      rcases he.arrOf.olist_inv with ⟨_, hxs, _⟩ | ⟨vs, os, b', cap, cur, E, hm, ho1, h1, h2, h3, h4, h5, h6, h7, h8, h9⟩
      · rw [hxs] at hlt; simp at hlt
      · have hbb : b' = b := by
          rcases hb with hb | ⟨n', c', hb⟩
          · rw [hm] at hb; cases hb
          · rw [hm] at hb; injection hb with hb; injection hb with hb; injection hb
        subst hbb
        subst ho1
        have hcur : off < cur.size := by omega
        have hrun := storeVar_run (P := P) hρ I hty (b := b') (off := off) (v := ρ v) hkn h4 f1 f2 (by rw [c2]; simp; omega)
        have hset : cur.toList.take off ++ (ρ v).cells.toList ++ cur.toList.drop (off + (ρ v).cells.size) = cur.toList.set off (ρ v) := by
          rw [c2]
          rw [List.set_eq_take_append_cons_drop, if_pos (by simpa using hcur)]
          simp
        rw [hset] at hrun
        have hin1 : ∀ c ∈ b' :: os.flatten, c ∈ own := fun c hc => hmem2 c (List.mem_append_right _ ((hmem c).2 (List.mem_append_left _ hc)))
        have hinr : ∀ c ∈ rest, c ∈ own := fun c hc => hmem2 c (List.mem_append_right _ ((hmem c).2 (List.mem_append_right _ hc)))
        have hin2 : ∀ c ∈ o2, c ∈ own := fun c hc => hmem2 c (List.mem_append_left _ hc)
        have hT : Touch w (w.setRow b' (cur.toList.set off (ρ v)).toArray) (b' :: os.flatten) := setRow_touch w b' _ _ (by simp)
        have hvs : vs[off]? = some (vs[off]'(by omega)) := List.getElem?_eq_getElem _
        have hxo : xs[off]? = some (xs.getD off .junk) := by rw [List.getD_eq_getElem?_getD, List.getElem?_eq_getElem hlt]; rfl
        have hos : os[off]? = some (os[off]'(by omega)) := List.getElem?_eq_getElem _
        have hon : os[off]'(by omega) = [] := by
          have q := h3 off _ _ _ hxo hvs hos
          revert hnil q
          generalize xs.getD off .junk = d
          generalize vs[off]'(by omega) = u
          generalize os[off]'(by omega) = p
          intro hnil q
          cases q with
          | base => rfl
          | _ => simp [isNilD] at hnil
        rw [hon] at hos
        have hperm := set_flatten_perm os off o2 hos
        have hdis : ∀ c ∈ o2, c ∉ (b' :: os.flatten) ++ rest := fun c hc hc2 => (List.nodup_append.1 hnd2).2.2 c hc c ((hmem c).2 hc2) rfl
        have hndf : (b' :: os.flatten).Nodup := (List.nodup_append.1 hnd).1
        have hndo : (b' :: (os.set off o2).flatten).Nodup := by
          rw [List.nodup_cons]
          refine ⟨fun hm => ?_, hperm.nodup_iff.2 ?_⟩
          · rcases List.mem_append.1 (hperm.mem_iff.1 hm) with q | q
            · exact hdis b' q (by simp)
            · exact (List.nodup_cons.1 hndf).1 q
          · rw [List.nodup_append]
            exact ⟨(List.nodup_append.1 hnd2).1, (List.nodup_cons.1 hndf).2, fun a ha c hc e => hdis a ha (by subst e; exact List.mem_append_left _ (List.mem_cons_of_mem _ hc))⟩
        have hmo : ∀ c, c ∈ b' :: (os.set off o2).flatten → c ∈ o2 ∨ c ∈ b' :: os.flatten := fun c hc => by
          rcases List.mem_cons.1 hc with rfl | hc
          · exact .inr (by simp)
          · rcases List.mem_append.1 (hperm.mem_iff.1 hc) with q | q
            · exact .inl q
            · exact .inr (List.mem_cons_of_mem _ q)
        have hnd' : ((b' :: (os.set off o2).flatten) ++ rest).Nodup := by
          rw [List.nodup_append]
          refine ⟨hndo, (List.nodup_append.1 hnd).2.1, fun a ha c hc e => ?_⟩
          subst e
          rcases hmo a ha with q | q
          · exact hdis a q (List.mem_append_right _ hc)
          · exact (List.nodup_append.1 hnd).2.2 a q a hc rfl
        have hino : ∀ c, c ∈ b' :: (os.set off o2).flatten → c ∈ own := fun c hc => (hmo c hc).elim (hin2 c) (hin1 c)
        obtain ⟨o'', hm'', out⟩ := I.replace (hA := hdel h j') (nodup_hdel h I.keys) (fun _ _ hq => find_hdel_eq h I.keys hq) hfA hr' hinr (hT.grown I.grown (fun c hc => (I.hok.lt _ _ c (hin1 c hc)).1.imp id id)) hT.size
          (fun c hc hn => hT.block c hc (fun hc' => hn (hin1 c hc'))) (fun c hc => hT.block c (I.hok.lt _ _ c (hinr c hc)).2 (fun hc' => (List.nodup_append.1 hnd).2.2 c hc' c hc rfl))
          (.arr 1 (xs.set off (.olist s ys))) (b' :: (os.set off o2).flatten) hnd' (fun c hc => .inl (hino c hc)) g G μ (.inl ⟨rfl, rfl, rfl, fun x d' hx => by
            refine cellB_set hx (fun hn => by rw [hnil] at hn; cases hn) (fun hne bb n c hm2 => ?_)
            rw [hm] at hm2
            injection hm2 with hm2; injection hm2 with hm2; injection hm2 with hm2
            subst hm2
            rw [cell_of_row _ b' x _ E (0, 0) (setRow_heap w b' cur _ E _ h4), cell_of_row w b' x cur E (0, 0) h4]
            simp [List.getElem?_set, Ne.symm hne]⟩)
          (fun o'' hm'' ev' => ⟨he.1, by
            show ORep _ _ _ _ (μ g) _
            rw [hm]
            have hmm := ev'.mm
            have hcells : ∀ k, (w.setRow b' (cur.toList.set off (ρ v)).toArray).cell? ⟨b', k, none⟩ = (cur.toList.set off (ρ v))[k]? := by
              intro k
              rw [cell_of_row _ b' k _ E (0, 0) (setRow_heap w b' cur _ E _ h4)]
              simp
            have key := ORep.olist (w := w.setRow b' (cur.toList.set off (ρ v)).toArray) (F := FF o'' Fo) (lo := w0.heap.size) 1 (xs.set off (.olist s ys)) (vs.set off (ρ v)) (os.set off o2) b' cap _ E (by simp [h1]) (by simp [h2]) ?_
              (setRow_heap w b' cur _ E _ h4) (by simpa using h5) (by simpa using h6) h7 ?_ h9
            · rw [List.length_set] at key; exact key
            · intro i d u q hd hu hq
              rw [List.getElem?_set] at hd hu hq
              by_cases hi : off = i
              · rw [if_pos hi] at hd hu hq
                rw [if_pos hlt] at hd
                rw [if_pos (by omega)] at hu hq
                injection hd with hd; injection hu with hu; injection hq with hq
                subst hd; subst hu; subst hq
                exact hO2.evo hmm (fun c hc => setRow_other w b' c _ (fun e => hdis c hc (by subst e; simp))) (fun c hc => (hO2.lt c hc).1)
              · rw [if_neg hi] at hd hu hq
                refine (h3 i d u q hd hu hq).evo hmm (fun c hc => setRow_other w b' c _ (fun e => ?_)) (fun c hc => ((h3 i d u q hd hu hq).lt c hc).1)
                subst e
                exact (List.nodup_cons.1 hndf).1 (mem_flatten_of hq hc)
            · intro i u hu
              rw [List.getElem?_set] at hu
              by_cases hi : off = i
              · subst hi
                rw [if_pos rfl] at hu
                split at hu
                · injection hu with hu; subst hu
                  refine ⟨by rw [c2]; rfl, fun j x hx => ?_⟩
                  rw [c2] at hx
                  cases j with
                  | zero =>
                    obtain rfl : ρ v = x := by simpa using hx
                    refine ⟨c1, ?_⟩
                    have : (0 + off * 1 + 0) = off := by omega
                    rw [this, hcells off, List.getElem?_set, if_pos rfl, if_pos (by simpa using hcur)]
                  | succ j => simp at hx
                · cases hu
              · rw [if_neg hi] at hu
                obtain ⟨g1, g2⟩ := h8 i u hu
                refine ⟨g1, fun j x hx => ⟨(g2 j x hx).1, ?_⟩⟩
                have g3 := (g2 j x hx).2
                have hj : j = 0 := by have := (Array.getElem?_eq_some_iff.1 hx).1; omega
                subst hj
                rw [cell_of_row w b' _ cur E (0, 0) h4] at g3
                rw [hcells, List.getElem?_set, if_neg (by omega)]
                simpa using g3⟩)
        refine ⟨.skip, undef, _, .undef, _, _, _, _, ?_, .inr ⟨rfl, rfl⟩, hk, out, .undef⟩
        simp [execOp, hop, hpv, Instr.storeAt, Instr.sureAddr, hrun]
    · exact hk.elim
  · exact hk.elim

/-- A store into a row of the run's own. -/
theorem sound_rowSet {T : Nat} {x v : Operand} (hop : o.op = .store T x v) {j g r y : Nat} {xs ys : List D} (hev : ev t (co x) = .rptr j g r y) (hfit : fitsT (tt T) (ev t (co v))) (hf : find h j g = some (.arr 1 xs))
    (hrb : rowB (.arr 1 xs) r = some (1, ys)) (hfl : (tt T).flat = true) (hlt : y < ys.length) (hpu : pureD 5 (ev t (co v)) = true)
    (hk : K .undef (hset h j g (rowSet xs r 1 ys y (ev t (co v)))) G) : Res P o ρ w0 Fo B w h μ G own K := by
  have hx := hρ x
  have hv := hρ v
  rw [hev] at hx
  obtain ⟨f1, f2, f3, f4⟩ := hv.fits hfit
  have hkn := known_ne (fitsT_known hfit)
  have hrow : xs[r]? = some (.olist 1 ys) := by
    simp only [rowB] at hrb
    split at hrb
    · rename_i s ys' he
      injection hrb with hrb; injection hrb with e1 e2
      subst e1; subst e2; exact he
    · cases hrb
  have hra : rowAt h j g r = some (1, ys) := by unfold rowAt; rw [hf]; exact hrb
  obtain ⟨_, hp⟩ := hx.asRptr
  obtain ⟨b1, n1, c1, b2, n2, c2', hm1, hc1, hpv⟩ := hp (by rw [hra]; simp)
  obtain ⟨o1, rest, he, hr', hnd, hmem, _⟩ := I.takeOut hf
  have hs1 : (tt T).sz = 1 ∧ isCell (ev t (co v)) = true := by
    have hs : (tt T).isStruct = false := by simp only [Ty.flat, Ty.isStruct] at hfl ⊢; split at hfl <;> simp_all
    revert hfit
    generalize ev t (co v) = d
    intro hfit
    cases d <;> simp_all [fitsT]
  obtain ⟨c1', c2⟩ := hv.cell hs1.2
  have hrl : r < xs.length := (List.getElem?_eq_some_iff.1 hrow).1
  rcases he.arrOf.olist_inv with ⟨_, hxs, _⟩ | ⟨vs, os, b', cap, cur, E, hm, ho1, h1, h2, h3, h4, h5, h6, h7, h8, h9⟩
  · rw [hxs] at hrl; simp at hrl
  · obtain rfl : b' = b1 := by rw [hm] at hm1; injection hm1 with q; injection q with q; injection q
    subst ho1
    have hvs : vs[r]? = some (vs[r]'(by omega)) := List.getElem?_eq_getElem _
    have hos : os[r]? = some (os[r]'(by omega)) := List.getElem?_eq_getElem _
    have hO := h3 r _ _ _ hrow hvs hos
    have hone : (vs[r]'(by omega)).cells = #[vs[r]'(by omega)] := by
      rcases hO.olist_inv with ⟨e, _⟩ | ⟨_, _, _, _, _, _, e, _⟩ <;> rw [e] <;> rfl
    have h12 := ((h8 r _ hvs).2 0 (vs[r]'(by omega)) (by rw [hone]; rfl)).2
    simp only [Nat.zero_add, Nat.mul_one, Nat.add_zero] at h12
    rw [h12] at hc1
    injection hc1 with hc1
    have hmemO : ∀ c ∈ os[r]'(by omega), c ∈ os.flatten := fun c hc => mem_flatten_of hos hc
    rcases hO.olist_inv with ⟨e, _⟩ | ⟨us, ps, b3, cap2, cur2, E2, hm2, ho2, g1, g2, g3, g4, g5, g6, g7, g8, g9⟩
    · rw [hc1] at e; cases e
    · obtain rfl : b3 = b2 := by rw [hc1] at hm2; injection hm2 with q; injection q with q; injection q with q; exact q.symm
      have hcur : y < cur2.size := by omega
      have hrun := storeVar_run (P := P) hρ I hty (b := b3) (off := y) (v := ρ v) hkn g4 f1 f2 (by rw [c2]; simp; omega)
      have hset : cur2.toList.take y ++ (ρ v).cells.toList ++ cur2.toList.drop (y + (ρ v).cells.size) = cur2.toList.set y (ρ v) := by
        rw [c2]
        rw [List.set_eq_take_append_cons_drop, if_pos (by simpa using hcur)]
        simp
      rw [hset] at hrun
      have hnd1 := (List.nodup_append.1 hnd).1
      have hb3 : b3 ∈ os[r]'(by omega) := by rw [ho2]; simp
      have hb3f : b3 ∈ os.flatten := hmemO b3 hb3
      have hbne : b' ≠ b3 := fun e => (List.nodup_cons.1 hnd1).1 (e ▸ hb3f)
      have hT : Touch w (w.setRow b3 (cur2.toList.set y (ρ v)).toArray) (b' :: os.flatten) := by
        have t0 := setRow_touch w b3 (cur2.toList.set y (ρ v)).toArray os.flatten hb3f
        exact ⟨t0.os, t0.tape, t0.output, t0.size, fun c hc hn => t0.block c hc (fun h1 => hn (List.mem_cons_of_mem _ h1))⟩
      have hps := set_nil_sublist ps y
      have hin2 : ∀ c, c ∈ b3 :: (ps.set y []).flatten → c ∈ os[r]'(by omega) := fun c hc => by rw [ho2]; exact (hps.cons_cons b3).subset hc
      have hsub : ((os.set r (b3 :: (ps.set y []).flatten)).flatten).Sublist os.flatten := set_sublist os r _ _ hos (by rw [ho2]; exact hps.cons_cons b3)
      have hnd' : ((b' :: (os.set r (b3 :: (ps.set y []).flatten)).flatten) ++ rest).Nodup := (((hsub.cons_cons b').append (List.Sublist.refl rest))).nodup hnd
      have hin : ∀ c, c ∈ b' :: (os.set r (b3 :: (ps.set y []).flatten)).flatten → c ∈ b' :: os.flatten := fun c hc => (hsub.cons_cons b').subset hc
      have hb' : (w.setRow b3 (cur2.toList.set y (ρ v)).toArray).heap[b']? = w.heap[b']? := setRow_other w b3 b' _ hbne
      obtain ⟨o'', hm'', out⟩ := I.replace (hA := h) I.keys (fun _ _ _ => rfl) hf hr' (fun c hc => hmem c (by simp [hc])) (hT.grown I.grown (fun c hc => .inl ((he.arrOf.lt c (by rw [← hm] at *; exact hc)).1))) hT.size
          (fun c hc hn => hT.block c hc (fun hc' => hn (hmem c (List.mem_append_left _ hc')))) (fun c hc => hT.block c (I.hok.lt _ _ c (hmem c (by simp [hc]))).2 (fun hc' => (List.nodup_append.1 hnd).2.2 c hc' c hc rfl))
          (rowSet xs r 1 ys y (ev t (co v))) (b' :: (os.set r (b3 :: (ps.set y []).flatten)).flatten) hnd' (fun c hc => .inl (hmem c (List.mem_append_left _ (hin c hc)))) g G μ
          (.inl ⟨rfl, rfl, rfl, fun x d' hx => cellB_set hx (fun hn => ⟨by simp [isNilD], fun _ => ⟨by rw [List.getD_eq_getElem?_getD, hrow]; rfl, fun bb n c hmb => by
              rw [hm] at hmb
              injection hmb with hmb; injection hmb with hmb; injection hmb with hmb
              subst hmb
              exact cell?_of_heap hb'⟩⟩) (fun _ bb n c hmb => by
              rw [hm] at hmb
              injection hmb with hmb; injection hmb with hmb; injection hmb with hmb
              subst hmb
              exact cell?_of_heap hb')⟩)
          (fun o'' hm'' ev' => ⟨he.1, by
            show ORep _ _ _ _ (μ g) _
            rw [hm]
            have hmm := ev'.mm
            have keepQ : ∀ (i : Nat) (q : List Nat), i ≠ r → os[i]? = some q → ∀ c ∈ q, c ≠ b3 := by
              intro i q hi hq c hc e
              subst e
              exact flatten_disj os i r q _ hi hq hos (List.nodup_cons.1 hnd1).2 c hc hb3
            have key := ORep.olist (w := w.setRow b3 (cur2.toList.set y (ρ v)).toArray) (F := FF o'' Fo) (lo := w0.heap.size) 1 (xs.set r (.olist 1 (ys.set y (ev t (co v))))) vs (os.set r (b3 :: (ps.set y []).flatten)) b' cap _ E (by simp [h1]) (by simp [h2]) ?_
              (hb'.trans h4) h5 (by simpa using h6) h7 (h8.evo hb') h9
            · rw [List.length_set] at key; exact key
            · intro i d u q hd hu hq
              rw [List.getElem?_set] at hd hq
              by_cases hi : r = i
              · subst hi
                rw [if_pos rfl, if_pos hrl] at hd
                rw [if_pos rfl, if_pos (by omega)] at hq
                injection hd with hd; injection hq with hq
                subst hd; subst hq
                rw [hvs] at hu
                injection hu with hu
                subst hu
                rw [hm2]
                have hcells : ∀ k, (w.setRow b3 (cur2.toList.set y (ρ v)).toArray).cell? ⟨b3, k, none⟩ = (cur2.toList.set y (ρ v))[k]? := by
                  intro k
                  rw [cell_of_row _ b3 k _ E2 (0, 0) (setRow_heap w b3 cur2 _ E2 _ g4)]
                  simp
                have hnd2 : (b3 :: ps.flatten).Nodup := by
                  rw [← ho2]; exact nodup_of_flatten os r _ hos (List.nodup_cons.1 hnd1).2
                have key2 := ORep.olist (w := w.setRow b3 (cur2.toList.set y (ρ v)).toArray) (F := FF o'' Fo) (lo := w0.heap.size) 1 (ys.set y (ev t (co v))) (us.set y (ρ v)) (ps.set y []) b3 cap2 _ E2 (by simp [g1]) (by simp [g2]) ?_
                  (setRow_heap w b3 cur2 _ E2 _ g4) (by simpa using g5) (by simpa using g6) g7 ?_ g9
                · rw [List.length_set] at key2; exact key2
                · intro i d u q hd hu hq
                  rw [List.getElem?_set] at hd hu hq
                  by_cases hi : y = i
                  · rw [if_pos hi] at hd hu hq
                    rw [if_pos hlt] at hd
                    rw [if_pos (by omega)] at hu hq
                    injection hd with hd; injection hu with hu; injection hq with hq
                    subst hd; subst hu; subst hq
                    exact .base _ _ ((hv.pure 5 hpu).evo hmm)
                  · rw [if_neg hi] at hd hu hq
                    refine (g3 i d u q hd hu hq).evo hmm (fun c hc => setRow_other w b3 c _ (fun e => ?_)) (fun c hc => ((g3 i d u q hd hu hq).lt c hc).1)
                    subst e
                    exact (List.nodup_cons.1 hnd2).1 (mem_flatten_of hq hc)
                · intro i u hu
                  rw [List.getElem?_set] at hu
                  by_cases hi : y = i
                  · subst hi
                    rw [if_pos rfl] at hu
                    split at hu
                    · injection hu with hu; subst hu
                      refine ⟨by rw [c2]; rfl, fun j x hx => ?_⟩
                      rw [c2] at hx
                      cases j with
                      | zero =>
                        obtain rfl : ρ v = x := by simpa using hx
                        refine ⟨c1', ?_⟩
                        have : (0 + y * 1 + 0) = y := by omega
                        rw [this, hcells y, List.getElem?_set, if_pos rfl, if_pos (by simpa using hcur)]
                      | succ j => simp at hx
                    · cases hu
                  · rw [if_neg hi] at hu
                    obtain ⟨q1, q2⟩ := g8 i u hu
                    refine ⟨q1, fun j x hx => ⟨(q2 j x hx).1, ?_⟩⟩
                    have q3 := (q2 j x hx).2
                    have hj : j = 0 := by have := (Array.getElem?_eq_some_iff.1 hx).1; omega
                    subst hj
                    rw [cell_of_row w b3 _ cur2 E2 (0, 0) g4] at q3
                    rw [hcells, List.getElem?_set, if_neg (by omega)]
                    simpa using q3
              · rw [if_neg hi] at hd hq
                exact (h3 i d u q hd hu hq).evo hmm (fun c hc => setRow_other w b3 c _ (keepQ i q (fun e => hi e.symm) hq c hc)) (fun c hc => ((h3 i d u q hd hu hq).lt c hc).1)⟩)
      refine ⟨.skip, undef, _, .undef, _, _, _, _, ?_, .inr ⟨rfl, rfl⟩, hk, out, .undef⟩
      simp [execOp, hop, hpv, Instr.storeAt, Instr.sureAddr, hrun]

theorem sound_store {T : Nat} {x v : Operand} (hop : o.op = .store T x v) {a : AOper} (ha : a.o = .store T (co x) (co v)) {k : Nat} (hk : opK tt k a ⟨t, h, G⟩ K) : Res P o ρ w0 Fo B w h μ G own K := by
  have hx := hρ x
  have hv := hρ v
  simp only [opK, ha] at hk
  split at hk
  · rename_i j g off hev
    obtain ⟨hfit, hk⟩ := hk
    rw [hev] at hx
    obtain ⟨f1, f2, f3, f4⟩ := hv.fits hfit
    have hkn := known_ne (fitsT_known hfit)
    obtain ⟨_, hp⟩ := hx.asPtr
    split at hk
    · rename_i cs hf
      obtain ⟨hle, hk⟩ := hk
      obtain ⟨b, hb, hpv⟩ := hp (by rw [hf]; simp)
      obtain ⟨o1, rest, he, hr', hnd, hmem, _⟩ := I.takeOut hf
      obtain ⟨b', vs, E, hm, hh, hl, h1, hr, ho1, hlo⟩ := he.cellsOf
      have hbb : b' = b := by
        rcases hb with hb | ⟨n', c', hb⟩
        · rw [hm] at hb; injection hb with hb; injection hb with hb; injection hb
        · rw [hm] at hb; cases hb
      subst hbb
      subst ho1
      have hrun := storeVar_run (P := P) hρ I hty (b := b') (off := off) (v := ρ v) hkn hh f1 f2 (by simp; omega)
      simp only [] at hrun
      have hT : Touch w (w.setRow b' (vs.take off ++ (ρ v).cells.toList ++ vs.drop (off + (ρ v).cells.size)).toArray) [b'] := setRow_touch w b' _ _ (by simp)
      obtain ⟨o'', hm'', out⟩ := I.replace (hA := h) I.keys (fun _ _ _ => rfl) hf hr' (fun c hc => hmem c (by simp [hc])) (hT.grown I.grown (by simpa using hlo)) hT.size
        (fun c hc hn => hT.block c hc (fun hc' => hn (hmem c (by simp at hc'; simp [hc'])))) (fun c hc => hT.block c (I.hok.lt _ _ c (hmem c (by simp [hc]))).2 (fun hc' => (List.nodup_append.1 hnd).2.2 c hc' c hc rfl))
        (.cells (cs.take off ++ cellsD (ev t (co v)) ++ cs.drop (off + (cellsD (ev t (co v))).length))) [b'] hnd (fun c hc => .inl (hmem c (by simp at hc; simp [hc]))) g G μ (.inl ⟨rfl, rfl, rfl, fun x d' hx => by cases hx⟩)
        (fun o'' hm'' ev' => ⟨he.1, by
          refine ⟨b', _, E, hm, setRow_heap w b' _ _ E _ hh, ?_, ?_, ?_, rfl, hlo⟩
          · simp only [List.length_append, List.length_take, List.length_drop, Array.length_toList]; omega
          · intro u hu
            rcases List.mem_append.1 hu with hu | hu
            · rcases List.mem_append.1 hu with hu | hu
              · exact h1 u (List.mem_of_mem_take hu)
              · obtain ⟨j, hj⟩ := List.mem_iff_getElem?.1 hu
                exact f2 j u (by simpa using hj)
            · exact h1 u (List.mem_of_mem_drop hu)
          · intro i d u hd hu
            refine VRep.evo ?_ ev'
            have hu' := hu
            rw [← Array.length_toList] at hu'
            exact splice_rel (R := fun d v => VRep w (FF own Fo) h μ G d v) (us := (ρ v).cells.toList) hl (by rw [Array.length_toList]; omega) (by omega) hr (fun i d v hd hv => f4 i d v hd (by simpa using hv)) i d u hd hu'⟩)
      refine ⟨.skip, undef, _, .undef, _, _, _, _, ?_, .inr ⟨rfl, rfl⟩, hk, out, .undef⟩
      simp [execOp, hop, hpv, Instr.storeAt, Instr.sureAddr, hrun]
    · rename_i sz xs hf
      obtain ⟨hsz, hfl, hlt, hk⟩ := hk
      subst hsz
      split at hk
      case' h_2 => exact sound_storeO hρ I hty hop hev hfit hf hfl hlt hk
      obtain ⟨hpu, hnl, hk⟩ := hk
      obtain ⟨b, hb, hpv⟩ := hp (by rw [hf]; simp)
      obtain ⟨o1, rest, he, hr', hnd, hmem, _⟩ := I.takeOut hf
      have hs1 : (tt T).sz = 1 ∧ isCell (ev t (co v)) = true := by
        have hs : (tt T).isStruct = false := by simp only [Ty.flat, Ty.isStruct] at hfl ⊢; split at hfl <;> simp_all
        revert hfit
        generalize ev t (co v) = d
        intro hfit
        cases d <;> simp_all [fitsT]
      obtain ⟨c1, c2⟩ := hv.cell hs1.2
      rcases he.arrOf.olist_inv with ⟨_, hxs, _⟩ | ⟨vs, os, b', cap, cur, E, hm, ho1, h1, h2, h3, h4, h5, h6, h7, h8, h9⟩
      · rw [hxs] at hlt; simp at hlt
      · have hbb : b' = b := by
          rcases hb with hb | ⟨n', c', hb⟩
          · rw [hm] at hb; cases hb
          · rw [hm] at hb; injection hb with hb; injection hb with hb; injection hb
        subst hbb
        subst ho1
        have hcur : off < cur.size := by omega
        have hrun := storeVar_run (P := P) hρ I hty (b := b') (off := off) (v := ρ v) hkn h4 f1 f2 (by rw [c2]; simp; omega)
        have hset : cur.toList.take off ++ (ρ v).cells.toList ++ cur.toList.drop (off + (ρ v).cells.size) = cur.toList.set off (ρ v) := by
          rw [c2]
          rw [List.set_eq_take_append_cons_drop, if_pos (by simpa using hcur)]
          simp
        rw [hset] at hrun
        have hT : Touch w (w.setRow b' (cur.toList.set off (ρ v)).toArray) (b' :: os.flatten) := setRow_touch w b' _ _ (by simp)
        have hnd1 := (List.nodup_append.1 hnd).1
        have hsl := set_nil_sublist os off
        have hnd' : ((b' :: (os.set off []).flatten) ++ rest).Nodup := (((hsl.cons_cons b').append (List.Sublist.refl rest))).nodup hnd
        have hin : ∀ c, c ∈ b' :: (os.set off []).flatten → c ∈ b' :: os.flatten := fun c hc => (hsl.cons_cons b').subset hc
        obtain ⟨o'', hm'', out⟩ := I.replace (hA := h) I.keys (fun _ _ _ => rfl) hf hr' (fun c hc => hmem c (by simp [hc])) (hT.grown I.grown (fun c hc => .inl ((he.arrOf.lt c (by rw [← hm] at *; exact hc)).1))) hT.size
          (fun c hc hn => hT.block c hc (fun hc' => hn (hmem c (List.mem_append_left _ hc')))) (fun c hc => hT.block c (I.hok.lt _ _ c (hmem c (by simp [hc]))).2 (fun hc' => (List.nodup_append.1 hnd).2.2 c hc' c hc rfl))
          (.arr 1 (xs.set off (ev t (co v)))) (b' :: (os.set off []).flatten) hnd' (fun c hc => .inl (hmem c (List.mem_append_left _ (hin c hc)))) g G μ (.inl ⟨rfl, rfl, rfl, fun x d' hx => by
            have hno : isOl (ev t (co v)) = false := by revert hpu; cases ev t (co v) <;> simp [pureD, isOl]
            refine cellB_set hx (fun hn => ⟨by rcases hnl with h | h <;> first | exact h | (rw [h] at hn; cases hn), fun h2 => by rw [hno] at h2; cases h2⟩) (fun hne bb n c hm2 => ?_)
            rw [hm] at hm2
            injection hm2 with hm2; injection hm2 with hm2; injection hm2 with hm2
            subst hm2
            rw [cell_of_row _ b' x _ E (0, 0) (setRow_heap w b' cur _ E _ h4), cell_of_row w b' x cur E (0, 0) h4]
            simp [List.getElem?_set, Ne.symm hne]⟩)
          (fun o'' hm'' ev' => ⟨he.1, by
            show ORep _ _ _ _ (μ g) _
            rw [hm]
            have hmm := ev'.mm
            have hcells : ∀ k, (w.setRow b' (cur.toList.set off (ρ v)).toArray).cell? ⟨b', k, none⟩ = (cur.toList.set off (ρ v))[k]? := by
              intro k
              rw [cell_of_row _ b' k _ E (0, 0) (setRow_heap w b' cur _ E _ h4)]
              simp
            have hkeepO : ∀ (i : Nat) (q : List Nat), (os.set off [])[i]? = some q → ∀ c ∈ q, c ∈ os.flatten := fun i q hq c hc => hsl.subset (List.mem_flatten.2 ⟨q, List.mem_of_getElem? hq, hc⟩)
            have key := ORep.olist (w := w.setRow b' (cur.toList.set off (ρ v)).toArray) (F := FF o'' Fo) (lo := w0.heap.size) 1 (xs.set off (ev t (co v))) (vs.set off (ρ v)) (os.set off []) b' cap _ E (by simp [h1]) (by simp [h2]) ?_
              (setRow_heap w b' cur _ E _ h4) (by simpa using h5) (by simpa using h6) h7 ?_ h9
            · rw [List.length_set] at key; exact key
            · intro i d u q hd hu hq
              rw [List.getElem?_set] at hd hu hq
              by_cases hi : off = i
              · rw [if_pos hi] at hd hu hq
                rw [if_pos hlt] at hd
                rw [if_pos (by omega)] at hu hq
                injection hd with hd; injection hu with hu; injection hq with hq
                subst hd; subst hu; subst hq
                exact .base _ _ ((hv.pure 5 hpu).evo hmm)
              · rw [if_neg hi] at hd hu hq
                refine (h3 i d u q hd hu hq).evo hmm (fun c hc => setRow_other w b' c _ (fun e => ?_)) (fun c hc => ((h3 i d u q hd hu hq).lt c hc).1)
                subst e
                exact (List.nodup_cons.1 hnd1).1 (mem_flatten_of hq hc)
            · intro i u hu
              rw [List.getElem?_set] at hu
              by_cases hi : off = i
              · subst hi
                rw [if_pos rfl] at hu
                split at hu
                · injection hu with hu; subst hu
                  refine ⟨by rw [c2]; rfl, fun j x hx => ?_⟩
                  rw [c2] at hx
                  cases j with
                  | zero =>
                    obtain rfl : ρ v = x := by simpa using hx
                    refine ⟨c1, ?_⟩
                    have : (0 + off * 1 + 0) = off := by omega
                    rw [this, hcells off, List.getElem?_set, if_pos rfl, if_pos (by simpa using hcur)]
                  | succ j => simp at hx
                · cases hu
              · rw [if_neg hi] at hu
                obtain ⟨g1, g2⟩ := h8 i u hu
                refine ⟨g1, fun j x hx => ⟨(g2 j x hx).1, ?_⟩⟩
                have g3 := (g2 j x hx).2
                have hj : j = 0 := by have := (Array.getElem?_eq_some_iff.1 hx).1; omega
                subst hj
                rw [cell_of_row w b' _ cur E (0, 0) h4] at g3
                rw [hcells, List.getElem?_set, if_neg (by omega)]
                simpa using g3⟩)
        refine ⟨.skip, undef, _, .undef, _, _, _, _, ?_, .inr ⟨rfl, rfl⟩, hk, out, .undef⟩
        simp [execOp, hop, hpv, Instr.storeAt, Instr.sureAddr, hrun]
    · exact hk.elim
  · rename_i j g r y hev
    obtain ⟨hfit, hk⟩ := hk
    split at hk
    · rename_i sz xs hf
      split at hk
      · rename_i s ys hrb
        obtain ⟨rfl, rfl, hfl, hlt, hpu, hk⟩ := hk
        exact sound_rowSet hρ I hty hop hev hfit hf hrb hfl hlt hpu hk
      · exact hk.elim
    · exact hk.elim
  · exact hk.elim

end
end Go.PS
end
