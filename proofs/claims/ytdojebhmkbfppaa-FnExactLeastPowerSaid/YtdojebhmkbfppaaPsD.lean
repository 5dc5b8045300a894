/- The machine's operations against the clean ones: what the types are, how an operation of the program reads as a clean one, numbers. -/
import Derived.Test.YtdojebhmkbfppaaPsC
set_option linter.unusedVariables false
set_option linter.unusedSimpArgs false
namespace Go.PS

/-- The clean table of types says the truth of the program. -/
structure TyOk (P : Program) (tt : Nat → Ty) : Prop where
  int : ∀ T k, (tt T).kd = .int k → P.underlying T = some (.int k)
  bool : ∀ T, (tt T).kd = .bool → P.underlying T = some .bool
  str : ∀ T, (tt T).kd = .str → P.underlying T = some .string
  slice : ∀ T e, (tt T).kd = .slice e → P.underlying T = some (.slice e)
  ptr : ∀ T e, (tt T).kd = .ptr e → P.underlying T = some (.pointer e)
  func : ∀ T, (tt T).kd = .func → ∃ ps rs v, P.underlying T = some (.func ps rs v)
  struct : ∀ T fs, (tt T).kd = .struct fs → ∃ fields : Array Field, P.underlying T = some (.struct fields) ∧ (∀ i : Nat, (fields[i]?).map (fun f => (f.offset, f.type)) = fs[i]?) ∧
    fields.toList.mapM (fun f => (P.info? f.type).map fun i => (f.offset, i.size)) = some (fs.map fun p => (p.1, (tt p.2).sz))
  info : ∀ T, (tt T).kd ≠ .other → ∃ i, P.info? T = some i ∧ i.size = (tt T).sz ∧ i.bytes = (tt T).bytes ∧ (tt T).bytes ≤ 64 ∧ ∀ z, (tt T).zero = some z → (∃ zv, i.zero = some zv ∧ ∀ (w : World) (F : Nat → Prop), Rep w F z zv) ∧ fitsT (tt T) z ∧ pureD 5 z = true

def cv : Value → D
  | .bool b => .bool b
  | .int k n => .int k n
  | .string s => .str s.data.toList
  | .slice none 0 0 => .nil
  | .tuple vs => if vs.size = 0 then .undef else .junk
  | _ => .junk

def co : Operand → Opd
  | .tmp t => .t t
  | .const v => .c (cv v)
  | .func f => .f f
  | .global _ => .c .junk

def ccall : Callee → List Operand → List TypeId → Option AOp
  | .builtin .len, [x], [T] => some (.len T (co x))
  | .builtin .append, [x, y], [T, S] => some (.app T S (co x) (co y))
  | .builtin .max, [x, y], _ => some (.max (co x) (co y))
  | .builtin .min, [x, y], _ => some (.min (co x) (co y))
  | .value f, args, _ => some (.call (co f) (args.map co))
  | _, _, _ => none

def cop : Op → Option AOp
  | .move x | .assign x => some (.mv (co x))
  | .pick c a b => some (.pick (co c) (co a) (co b))
  | .alloc T => some (.alloc T)
  | .box T x => some (.box T (co x))
  | .build T ps => some (.build T (ps.toList.map fun p => (p.1, co p.2)))
  | .buildSlice T n ps => some (.bslice T n (ps.toList.map fun p => (p.1, co p.2)))
  | .load T x => some (.load T (co x))
  | .store T x v => some (.store T (co x) (co v))
  | .nilCheck x => some (.nilck (co x))
  | .binOp op T x y _ => some (.bin op T (co x) (co y))
  | .unOp op _ x => some (.un op (co x))
  | .convert S T x => some (.conv S T (co x))
  | .makeFunc (.func f) first caps => if first.size = 0 then some (.mkfn f (caps.toList.map co)) else none
  | .makeSlice T l c => some (.make T (co l) (co c))
  | .slice T x lo hi none => some (.slice T (co x) (lo.map co) (hi.map co))
  | .fieldAddr T x i => some (.faddr T (co x) i)
  | .field T x i => some (.field T (co x) i)
  | .indexAddr T x i => some (.iaddr T (co x) (co i))
  | .index T x i => some (.index T (co x) (co i))
  | .extract x i => some (.ext (co x) i)
  | .call c => ccall c.callee c.args.toList c.argTypes.toList
  | _ => none

def cgd (ops : Array Oper) : Option (Nat × Bool) → Option (Option (Nat × Bool))
  | none => some none
  | some (j, want) => ((ops[j]?).bind (·.dst)).map fun d => some (d, want)

def cper (ops : Array Oper) (nt fl : Nat) (o : Oper) : Option AOper :=
  match cop o.op, cgd ops o.guard with
  | some a, some gd => if (o.dst.all fun d => decide (d < nt)) = true then some ⟨o.dst, a, o.type, gd, fl⟩ else none
  | _, _ => none

def TRel (w : World) (F : Nat → Prop) (h : List Ent) (μ : Nat → Value) (G : Nat) (t : List (Nat × D)) (tmps : Array Value) : Prop :=
  ∀ k, VRep w F h μ G (getT t k) (tmps.getD k undef)

section
variable {w : World} {F : Nat → Prop} {h : List Ent} {μ : Nat → Value} {G : Nat}

theorem VRep.cv (v : Value) : VRep w F h μ G (cv v) v := by
  cases v with
  | bool b => exact .imm _ _ (.bool b)
  | int k n => exact .imm _ _ (.int k n)
  | string s =>
    have := Rep.str (w := w) (F := F) s.data.toList
    exact .imm _ _ (by simpa [PS.cv] using this)
  | slice a n c =>
    cases a with
    | some a => exact .imm _ _ (.junk _)
    | none =>
      cases n with
      | succ n => exact .imm _ _ (.junk _)
      | zero =>
        cases c with
        | succ c => exact .imm _ _ (.junk _)
        | zero => exact .imm _ _ .nil
  | tuple vs =>
    by_cases e : vs.size = 0
    · have : vs = #[] := Array.eq_empty_of_size_eq_zero e
      subst this
      exact .undef
    · simp only [PS.cv, if_neg e]
      exact .imm _ _ (.junk _)
  | _ => exact .imm _ _ (.junk _)

theorem TRel.eval {t : List (Nat × D)} {a : Act} (hT : TRel w F h μ G t a.tmps) (x : Operand) : VRep w F h μ G (ev t (co x)) (a.eval x) := by
  cases x with
  | tmp k => exact hT k
  | const v => exact .cv v
  | global g => exact .imm _ _ (.junk _)
  | func f => exact .imm _ _ (.fn f [] [] rfl (by simp))

theorem TRel.evo {w' : World} {F' : Nat → Prop} {h' : List Ent} {μ' : Nat → Value} {G' : Nat} {t : List (Nat × D)} {tmps : Array Value} (hT : TRel w F h μ G t tmps)
    (e : Evo w F h μ G w' F' h' μ' G') : TRel w' F' h' μ' G' t tmps := fun k => (hT k).evo e

theorem TRel.put {t : List (Nat × D)} {a : Act} (hT : TRel w F h μ G t a.tmps) (dst : Option Nat) (hd : ∀ d, dst = some d → d < a.tmps.size) {d : D} {v : Value} (r : VRep w F h μ G d v) :
    TRel w F h μ G (put t dst d) (a.put dst v).tmps := by
  cases dst with
  | none => exact hT
  | some k =>
    intro j
    simp only [PS.put, Act.put, getT]
    by_cases hj : k = j
    · subst hj
      rw [if_pos rfl]
      have := hd k rfl
      simpa [Array.getD, this] using r
    · rw [if_neg hj]
      have := hT j
      simp only [Array.getD_eq_getD_getElem?] at this ⊢
      rw [Array.getElem?_setIfInBounds_ne hj]
      exact this

/-- One cell. -/
theorem VRep.cell {d : D} {v : Value} (r : VRep w F h μ G d v) (hc : isCell d = true) : v.oneCell' = true ∧ v.cells = #[v] := by
  cases r with
  | imm d v r => cases r <;> first | exact ⟨rfl, rfl⟩ | (simp [isCell] at hc)
  | undef => simp [isCell] at hc
  | lit => exact ⟨rfl, rfl⟩
  | agg => simp [isCell] at hc
  | tup => simp [isCell] at hc
  | fn => exact ⟨rfl, rfl⟩
  | ptr => exact ⟨rfl, rfl⟩
  | arr => exact ⟨rfl, rfl⟩
  | row => exact ⟨rfl, rfl⟩
  | rptr => exact ⟨rfl, rfl⟩

theorem Ones.sub {vs ws : List Value} (h : Ones vs) (hs : ∀ v ∈ ws, v ∈ vs) : Ones ws := fun v hv => h v (hs v hv)

/-- The cells of a value that fits a type. -/
theorem VRep.fits {d : D} {v : Value} {t : Ty} (r : VRep w F h μ G d v) (hf : fitsT t d) : v.cells.size = t.sz ∧ (∀ (j : Nat) (u : Value), v.cells[j]? = some u → u.oneCell' = true) ∧
    (cellsD d).length = v.cells.size ∧ (∀ (j : Nat) (e : D) (u : Value), (cellsD d)[j]? = some e → v.cells[j]? = some u → VRep w F h μ G e u) := by
  by_cases ha : isAgg d = true
  · cases d with
    | agg xs =>
      have key : ∃ vs : List Value, v = .agg vs.toArray ∧ vs.length = xs.length ∧ Ones vs ∧ ∀ (i : Nat) (d : D) (v : Value), xs[i]? = some d → vs[i]? = some v → VRep w F h μ G d v := by
        cases r with
        | imm d v r => cases r with
          | agg xs vs h1 h2 h3 => exact ⟨vs, rfl, h1, h3, fun i d v hd hv => .imm _ _ (h2 i d v hd hv)⟩
        | agg xs vs h1 h2 h3 => exact ⟨vs, rfl, h1, h3, h2⟩
      obtain ⟨vs, rfl, h1, h2, h3⟩ := key
      refine ⟨by simpa [Value.cells, h1] using hf.2, ?_, by simp [cellsD, Value.cells, h1], ?_⟩
      · intro j u hu
        exact h2 u (by simpa [Value.cells] using List.mem_of_getElem? (by simpa [Value.cells] using hu))
      · intro j e u he hu
        exact h3 j e u he (by simpa [Value.cells] using hu)
    | _ => simp [isAgg] at ha
  · have hc : isCell d = true := by cases d <;> simp_all [fitsT, isAgg]
    have hs : t.sz = 1 := by cases d <;> simp_all [fitsT, isAgg]
    obtain ⟨h1, h2⟩ := r.cell hc
    have hcd : cellsD d = [d] := by cases d <;> simp_all [cellsD, isAgg]
    rw [h2, hcd]
    refine ⟨by simp [hs], ?_, by simp, ?_⟩
    · intro j u hu
      cases j with
      | zero => obtain rfl : v = u := by simpa using hu
                exact h1
      | succ j => simp at hu
    · intro j e u he hu
      cases j with
      | zero =>
        obtain rfl : v = u := by simpa using hu
        obtain rfl : d = e := by simpa using he
        exact r
      | succ j => simp at hu

theorem VRep.pure {d : D} {v : Value} : ∀ n, VRep w F h μ G d v → pureD n d = true → Rep w F d v := by
  intro n r
  induction r generalizing n with
  | imm d v r => intro _; exact r
  | undef => intro hp; cases n <;> simp [pureD] at hp
  | lit => intro hp; cases n <;> simp [pureD] at hp
  | agg xs vs h1 h2 h3 ih =>
    intro hp
    cases n with
    | zero => simp [pureD] at hp
    | succ n =>
      simp only [pureD, List.all_eq_true] at hp
      exact .agg xs vs h1 (fun i d v hd hv => ih i d v hd hv n (hp d (List.mem_of_getElem? hd))) h3
  | tup xs vs h1 h2 ih =>
    intro hp
    cases n with
    | zero => simp [pureD] at hp
    | succ n =>
      simp only [pureD, List.all_eq_true] at hp
      exact .tup xs vs h1 (fun i d v hd hv => ih i d v hd hv n (hp d (List.mem_of_getElem? hd)))
  | fn f xs vs h1 h2 ih =>
    intro hp
    cases n with
    | zero => simp [pureD] at hp
    | succ n =>
      simp only [pureD, List.all_eq_true] at hp
      exact .fn f xs vs h1 (fun i d v hd hv => ih i d v hd hv n (hp d (List.mem_of_getElem? hd)))
  | ptr => intro hp; cases n <;> simp [pureD] at hp
  | arr => intro hp; cases n <;> simp [pureD] at hp
  | row => intro hp; cases n <;> simp [pureD] at hp
  | rptr => intro hp; cases n <;> simp [pureD] at hp

end
end Go.PS
