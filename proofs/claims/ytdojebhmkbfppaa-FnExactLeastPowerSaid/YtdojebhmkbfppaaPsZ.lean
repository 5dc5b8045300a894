/- Words for contracts: how a clean run is carried out, one operation after the other, with what follows left alone until it is reached. -/
import Derived.Test.YtdojebhmkbfppaaPsY
set_option linter.unusedVariables false
set_option linter.unusedSimpArgs false
namespace Go.PS

section
variable {C : Ctx} {kb k : Nat} {i : Nat → List D → List Ent → Nat → (D → List Ent → Nat → Prop) → Prop} {Q : AExit → St → Prop} {σ σ' : St} {tt : Nat → Ty} {K : D → List Ent → Nat → Prop} {K1 : D → Prop}

-- the text

@[congr] theorem run_congr {c : AC} (h : σ = σ') : run C kb i c Q σ = run C kb i c Q σ' := by rw [h]
@[simp] theorem run_skip : run C kb i .skip Q σ = Q .normal σ := (rfl)
@[simp] theorem run_ret : run C kb i .ret Q σ = Q .ret σ := (rfl)
@[simp] theorem run_exit {id : Nat} : run C kb i (.exit id) Q σ = Q (.exit id) σ := (rfl)
/-- What follows a region. -/
def regQ (ks : List Nat) (Q : AExit → St → Prop) (σ : St) : Prop := Q .normal ⟨keepT ks σ.t, σ.h, σ.g⟩
@[simp] theorem regQ_app {ks : List Nat} : regQ ks Q σ = Q .normal ⟨keepT ks σ.t, σ.h, σ.g⟩ := (rfl)
@[simp] theorem run_regF {ops : List AOper} {ks : List Nat} : run C kb i (.region false ops (some ks)) Q σ = opsK C kb i ops σ (regQ ks Q) := (rfl)
@[simp] theorem run_regT {ops : List AOper} {ks : List Nat} : run C kb i (.region true ops (some ks)) Q σ = opsKc C kb i ops σ (regQ ks Q) := (rfl)
/-- What follows the first of two. -/
def seqQ (C : Ctx) (kb : Nat) (i : Nat → List D → List Ent → Nat → (D → List Ent → Nat → Prop) → Prop) (b : AC) (Q : AExit → St → Prop) (e : AExit) (σ : St) : Prop := thenQ (run C kb i b Q) Q e σ
@[congr] theorem seqQ_congr {b : AC} {e e' : AExit} (h : e = e') (h2 : σ = σ') : seqQ C kb i b Q e σ = seqQ C kb i b Q e' σ' := by rw [h, h2]
@[simp] theorem seqQ_normal {b : AC} : seqQ C kb i b Q .normal σ = run C kb i b Q σ := (rfl)
@[simp] theorem seqQ_ret {b : AC} : seqQ C kb i b Q .ret σ = Q .ret σ := (rfl)
@[simp] theorem seqQ_exit {b : AC} {id : Nat} : seqQ C kb i b Q (.exit id) σ = Q (.exit id) σ := (rfl)
@[simp] theorem run_seq {a b : AC} : run C kb i (.seq a b) Q σ = run C kb i a (seqQ C kb i b Q) σ := (rfl)
@[simp] theorem run_block {id : Nat} {a : AC} : run C kb i (.block id a) Q σ = run C kb i a (inBlockQ id Q) σ := (rfl)

def condK (d : D) (P1 P2 : Prop) : Prop := match d with | .bool t => (t = true → P1) ∧ (t = false → P2) | _ => False
@[congr] theorem condK_congr {d d' : D} {P1 P2 : Prop} (h : d = d') : condK d P1 P2 = condK d' P1 P2 := by rw [h]
@[simp] theorem run_cond {c : Opd} {a b : AC} : run C kb i (.cond c a b) Q σ = condK (ev σ.t c) (run C kb i a Q σ) (run C kb i b Q σ) := (rfl)
@[simp] theorem condK_bool {b : Bool} {P1 P2 : Prop} : condK (.bool b) P1 P2 = ((b = true → P1) ∧ (b = false → P2)) := (rfl)
@[simp high] theorem condK_true {P1 P2 : Prop} : condK (.bool true) P1 P2 = P1 := by simp [condK]
@[simp high] theorem condK_false {P1 P2 : Prop} : condK (.bool false) P1 P2 = P2 := by simp [condK]

@[congr] theorem thenQ_congr {n : St → Prop} {e e' : AExit} (h : e = e') (h2 : σ = σ') : thenQ n Q e σ = thenQ n Q e' σ' := by rw [h, h2]
@[simp] theorem thenQ_normal {n : St → Prop} : thenQ n Q .normal σ = n σ := (rfl)
@[simp] theorem thenQ_ret {n : St → Prop} : thenQ n Q .ret σ = Q .ret σ := (rfl)
@[simp] theorem thenQ_exit {n : St → Prop} {id : Nat} : thenQ n Q (.exit id) σ = Q (.exit id) σ := (rfl)
@[congr] theorem inBlockQ_congr {id : Nat} {e e' : AExit} (h : e = e') (h2 : σ = σ') : inBlockQ id Q e σ = inBlockQ id Q e' σ' := by rw [h, h2]
@[simp] theorem inBlockQ_normal {id : Nat} : inBlockQ id Q .normal σ = Q .normal σ := (rfl)
@[simp] theorem inBlockQ_ret {id : Nat} : inBlockQ id Q .ret σ = Q .ret σ := (rfl)
@[simp] theorem inBlockQ_exit {id id' : Nat} : inBlockQ id Q (.exit id') σ = if id' = id then Q .normal σ else Q (.exit id') σ := (rfl)

-- regions

@[congr] theorem opsK_congr {as : List AOper} {Q : St → Prop} (h : σ = σ') : opsK C kb i as σ Q = opsK C kb i as σ' Q := by rw [h]
@[congr] theorem opsKc_congr {as : List AOper} {Q : St → Prop} (h : σ = σ') : opsKc C kb i as σ Q = opsKc C kb i as σ' Q := by rw [h]
@[simp] theorem opsK_nil {Q : St → Prop} : opsK C kb i [] σ Q = Q σ := (rfl)
@[simp] theorem opsKc_nil {Q : St → Prop} : opsKc C kb i [] σ Q = Q σ := (rfl)
@[congr] theorem opC_congrS {a : AOper} (h : σ = σ') : opC C kb i a σ K = opC C kb i a σ' K := by rw [h]
@[congr] theorem opK_congrS {a : AOper} (h : σ = σ') : opK tt k a σ K = opK tt k a σ' K := by rw [h]
@[congr] theorem callK_congrS {fl : Nat} {f f' : D} {as as' : List D} (h : f = f') (h2 : as = as') (h3 : σ = σ') : callK C k i fl f as σ K = callK C k i fl f' as' σ' K := by rw [h, h2, h3]
@[congr] theorem callD_congrS {fl : Nat} {f f' : D} {as as' : List D} (h : f = f') (h2 : as = as') (h3 : σ = σ') : callD C k i fl f as σ K = callD C k i fl f' as' σ' K := by rw [h, h2, h3]

def guard1 (d : D) (w : Bool) (P1 P2 P3 : Prop) : Prop := match d with | .bool b => (b = w → P1) ∧ (b = !w → P2) | .undef => P3 | _ => False
@[congr] theorem guard1_congr {d d' : D} {w : Bool} {P1 P2 P3 : Prop} (h : d = d') : guard1 d w P1 P2 P3 = guard1 d' w P1 P2 P3 := by rw [h]
@[simp] theorem guard1_bT {b : Bool} {P1 P2 P3 : Prop} : guard1 (.bool b) true P1 P2 P3 = ((b = true → P1) ∧ (b = false → P2)) := (rfl)
@[simp] theorem guard1_bF {b : Bool} {P1 P2 P3 : Prop} : guard1 (.bool b) false P1 P2 P3 = ((b = false → P1) ∧ (b = true → P2)) := (rfl)
@[simp high] theorem guard1_tt {P1 P2 P3 : Prop} : guard1 (.bool true) true P1 P2 P3 = P1 := by simp [guard1]
@[simp high] theorem guard1_ff {P1 P2 P3 : Prop} : guard1 (.bool false) false P1 P2 P3 = P1 := by simp [guard1]
@[simp high] theorem guard1_tf {P1 P2 P3 : Prop} : guard1 (.bool true) false P1 P2 P3 = P2 := by simp [guard1]
@[simp high] theorem guard1_ft {P1 P2 P3 : Prop} : guard1 (.bool false) true P1 P2 P3 = P2 := by simp [guard1]
@[simp] theorem guard1_undef {w : Bool} {P1 P2 P3 : Prop} : guard1 .undef w P1 P2 P3 = P3 := (rfl)

theorem guardK_some {j : Nat} {w : Bool} {t : List (Nat × D)} {X Y : List (Nat × D) → Prop} : guardK (some (j, w)) t X Y = guard1 (getT t j) w (X ((j, .bool w) :: t)) (Y ((j, .bool !w) :: t)) (Y t) := (rfl)

/-- What follows an operation. -/
def nextK (C : Ctx) (kb : Nat) (i : Nat → List D → List Ent → Nat → (D → List Ent → Nat → Prop) → Prop) (t : List (Nat × D)) (d : Option Nat) (as : List AOper) (Q : St → Prop) (v : D) (h : List Ent) (g : Nat) : Prop := opsK C kb i as ⟨put t d v, h, g⟩ Q
def nextKc (C : Ctx) (kb : Nat) (i : Nat → List D → List Ent → Nat → (D → List Ent → Nat → Prop) → Prop) (t : List (Nat × D)) (d : Option Nat) (as : List AOper) (Q : St → Prop) (v : D) (h : List Ent) (g : Nat) : Prop := opsKc C kb i as ⟨put t d v, h, g⟩ Q
@[simp] theorem nextK_app {t : List (Nat × D)} {d : Option Nat} {as : List AOper} {Q : St → Prop} {v : D} {h : List Ent} {g : Nat} : nextK C kb i t d as Q v h g = opsK C kb i as ⟨put t d v, h, g⟩ Q := (rfl)
@[simp] theorem nextKc_app {t : List (Nat × D)} {d : Option Nat} {as : List AOper} {Q : St → Prop} {v : D} {h : List Ent} {g : Nat} : nextKc C kb i t d as Q v h g = opsKc C kb i as ⟨put t d v, h, g⟩ Q := (rfl)
@[simp] theorem opsK_one {d : Option Nat} {o : AOp} {T fl : Nat} {as : List AOper} {Q : St → Prop} : opsK C kb i (⟨d, o, T, none, fl⟩ :: as) σ Q = opC C kb i ⟨d, o, T, none, fl⟩ σ (nextK C kb i σ.t d as Q) := (rfl)
@[simp] theorem opsK_grd {d : Option Nat} {o : AOp} {T fl j : Nat} {w : Bool} {as : List AOper} {Q : St → Prop} : opsK C kb i (⟨d, o, T, some (j, w), fl⟩ :: as) σ Q =
    guard1 (getT σ.t j) w (opC C kb i ⟨d, o, T, some (j, w), fl⟩ ⟨(j, .bool w) :: σ.t, σ.h, σ.g⟩ (nextK C kb i ((j, .bool w) :: σ.t) d as Q)) (opsK C kb i as ⟨put ((j, .bool !w) :: σ.t) d .undef, σ.h, σ.g⟩ Q) (opsK C kb i as ⟨put σ.t d .undef, σ.h, σ.g⟩ Q) := (rfl)

def opCc (C : Ctx) (kb : Nat) (i : Nat → List D → List Ent → Nat → (D → List Ent → Nat → Prop) → Prop) (a : AOper) (σ : St) (K : D → List Ent → Nat → Prop) : Prop :=
  match callOf a.o with
  | some (f, args) => callD C (kb + 8 * a.d.getD 0) i a.fl (ev σ.t f) (evL σ.t args) σ K
  | none => opK C.tt (kb + 8 * a.d.getD 0) a σ K
@[congr] theorem opCc_congrS {a : AOper} (h : σ = σ') : opCc C kb i a σ K = opCc C kb i a σ' K := by rw [h]
@[simp] theorem opsKc_one {d : Option Nat} {o : AOp} {T fl : Nat} {as : List AOper} {Q : St → Prop} : opsKc C kb i (⟨d, o, T, none, fl⟩ :: as) σ Q = opCc C kb i ⟨d, o, T, none, fl⟩ σ (nextKc C kb i σ.t d as Q) := (rfl)
@[simp] theorem opsKc_grd {d : Option Nat} {o : AOp} {T fl j : Nat} {w : Bool} {as : List AOper} {Q : St → Prop} : opsKc C kb i (⟨d, o, T, some (j, w), fl⟩ :: as) σ Q =
    guard1 (getT σ.t j) w (opCc C kb i ⟨d, o, T, some (j, w), fl⟩ ⟨(j, .bool w) :: σ.t, σ.h, σ.g⟩ (nextKc C kb i ((j, .bool w) :: σ.t) d as Q)) (opsKc C kb i as ⟨put ((j, .bool !w) :: σ.t) d .undef, σ.h, σ.g⟩ Q) (opsKc C kb i as ⟨put σ.t d .undef, σ.h, σ.g⟩ Q) := (rfl)

/-- A call, and what follows it. -/
def callO (C : Ctx) (kb : Nat) (i : Nat → List D → List Ent → Nat → (D → List Ent → Nat → Prop) → Prop) (d : Option Nat) (fl : Nat) (f : D) (args : List D) (σ : St) (as : List AOper) (Q : St → Prop) : Prop :=
  callK C (kb + 8 * d.getD 0) i fl f args σ fun v h g => opsK C kb i as ⟨put σ.t d v, h, g⟩ Q
def callDO (C : Ctx) (kb : Nat) (i : Nat → List D → List Ent → Nat → (D → List Ent → Nat → Prop) → Prop) (d : Option Nat) (fl : Nat) (f : D) (args : List D) (σ : St) (as : List AOper) (Q : St → Prop) : Prop :=
  callD C (kb + 8 * d.getD 0) i fl f args σ fun v h g => opsKc C kb i as ⟨put σ.t d v, h, g⟩ Q
@[congr] theorem callO_congr {d : Option Nat} {fl : Nat} {f f' : D} {args args' : List D} {as : List AOper} {Q : St → Prop} (h : f = f') (h2 : args = args') (h3 : σ = σ') : callO C kb i d fl f args σ as Q = callO C kb i d fl f' args' σ' as Q := by rw [h, h2, h3]
@[congr] theorem callDO_congr {d : Option Nat} {fl : Nat} {f f' : D} {args args' : List D} {as : List AOper} {Q : St → Prop} (h : f = f') (h2 : args = args') (h3 : σ = σ') : callDO C kb i d fl f args σ as Q = callDO C kb i d fl f' args' σ' as Q := by rw [h, h2, h3]
@[simp high] theorem opsK_call {d : Option Nat} {f : Opd} {cs : List Opd} {T fl : Nat} {as : List AOper} {Q : St → Prop} : opsK C kb i (⟨d, .call f cs, T, none, fl⟩ :: as) σ Q = callO C kb i d fl (ev σ.t f) (evL σ.t cs) σ as Q := (rfl)
@[simp high] theorem opsKc_call {d : Option Nat} {f : Opd} {cs : List Opd} {T fl : Nat} {as : List AOper} {Q : St → Prop} : opsKc C kb i (⟨d, .call f cs, T, none, fl⟩ :: as) σ Q = callDO C kb i d fl (ev σ.t f) (evL σ.t cs) σ as Q := (rfl)
@[simp high] theorem opsK_gcall {d : Option Nat} {f : Opd} {cs : List Opd} {T fl j : Nat} {w : Bool} {as : List AOper} {Q : St → Prop} : opsK C kb i (⟨d, .call f cs, T, some (j, w), fl⟩ :: as) σ Q =
    guard1 (getT σ.t j) w (callO C kb i d fl (ev ((j, .bool w) :: σ.t) f) (evL ((j, .bool w) :: σ.t) cs) ⟨(j, .bool w) :: σ.t, σ.h, σ.g⟩ as Q) (opsK C kb i as ⟨put ((j, .bool !w) :: σ.t) d .undef, σ.h, σ.g⟩ Q) (opsK C kb i as ⟨put σ.t d .undef, σ.h, σ.g⟩ Q) := (rfl)
@[simp high] theorem opsKc_gcall {d : Option Nat} {f : Opd} {cs : List Opd} {T fl j : Nat} {w : Bool} {as : List AOper} {Q : St → Prop} : opsKc C kb i (⟨d, .call f cs, T, some (j, w), fl⟩ :: as) σ Q =
    guard1 (getT σ.t j) w (callDO C kb i d fl (ev ((j, .bool w) :: σ.t) f) (evL ((j, .bool w) :: σ.t) cs) ⟨(j, .bool w) :: σ.t, σ.h, σ.g⟩ as Q) (opsKc C kb i as ⟨put ((j, .bool !w) :: σ.t) d .undef, σ.h, σ.g⟩ Q) (opsKc C kb i as ⟨put σ.t d .undef, σ.h, σ.g⟩ Q) := (rfl)

@[simp] theorem getT_nil {j : Nat} : getT [] j = .junk := (rfl)
@[simp] theorem getT_cons {l : List (Nat × D)} {n j : Nat} {d : D} : getT ((n, d) :: l) j = if n = j then d else getT l j := (rfl)
@[simp] theorem put_none {t : List (Nat × D)} {v : D} : put t none v = t := (rfl)
@[simp] theorem put_some {t : List (Nat × D)} {n : Nat} {v : D} : put t (some n) v = (n, v) :: t := (rfl)
@[simp] theorem ev_t {t : List (Nat × D)} {n : Nat} : ev t (.t n) = getT t n := (rfl)
@[simp] theorem ev_c {t : List (Nat × D)} {d : D} : ev t (.c d) = d := (rfl)
@[simp] theorem ev_f {t : List (Nat × D)} {n : Nat} : ev t (.f n) = .fn n [] := (rfl)
attribute [simp] evL args0 keepT keepH find hset hdel hdels own keys thaw thaw.go ioOf dio isCell pureD cellsD scal fillP hio isAgg pureL

-- what leaves come to, at once
section
variable {h : List Ent} {n : Nat}
@[simp] theorem der_bool {b : Bool} : der h n (.bool b) = .bool b := by cases n <;> rfl
@[simp] theorem der_int {k : IntKind} {m : Int} : der h n (.int k m) = .int k m := by cases n <;> rfl
@[simp] theorem der_str {s : List UInt8} : der h n (.str s) = .str s := by cases n <;> rfl
@[simp] theorem der_nil : der h n .nil = .list 1 [] := by cases n <;> rfl
@[simp] theorem der_list {sz : Nat} {xs : List D} : der h n (.list sz xs) = .list sz xs := by cases n <;> rfl
@[simp] theorem der_iptr {d : D} : der h n (.iptr d) = .iptr d := by cases n <;> rfl
@[simp] theorem der_arr {k g : Nat} : der h (n + 1) (.arr k g) = match find h k g with | some (.arr sz xs) => .list sz (xs.map (imm n)) | _ => .junk := by rfl
@[simp] theorem der_ptr {k g : Nat} : der h (n + 1) (.ptr k g 0) = match find h k g with | some (.cells [c]) => .iptr (der h n c) | some (.cells cs) => .iptr (.agg (cs.map (der h n))) | _ => .junk := by rfl
@[simp] theorem der_row {k g x : Nat} : der h (n + 1) (.row k g x) = rowD (rowAt h k g x) n := by rfl
@[simp] theorem der_lit {sz : Nat} {xs : List D} : der h (n + 1) (.lit sz xs) = .list sz (xs.map (der h n)) := by rfl
@[simp] theorem der_agg {xs : List D} : der h (n + 1) (.agg xs) = .agg (xs.map (der h n)) := by rfl
@[simp] theorem der_tup {xs : List D} : der h (n + 1) (.tup xs) = .tup (xs.map (der h n)) := by rfl
@[simp] theorem der_fn {f : Nat} {xs : List D} : der h (n + 1) (.fn f xs) = .fn f (xs.map (der h n)) := by rfl
@[simp] theorem derS_bool {b : Bool} : derS n (.bool b) = .bool b := by cases n <;> rfl
@[simp] theorem derS_int {k : IntKind} {m : Int} : derS n (.int k m) = .int k m := by cases n <;> rfl
@[simp] theorem derS_str {s : List UInt8} : derS n (.str s) = .str s := by cases n <;> rfl
@[simp] theorem derS_nil : derS n .nil = .list 1 [] := by cases n <;> rfl
@[simp] theorem derS_list {sz : Nat} {xs : List D} : derS n (.list sz xs) = .list sz xs := by cases n <;> rfl
@[simp] theorem derS_iptr {d : D} : derS n (.iptr d) = .iptr d := by cases n <;> rfl
@[simp] theorem derS_lit {sz : Nat} {xs : List D} : derS (n + 1) (.lit sz xs) = .list sz (xs.map (derS n)) := by rfl
@[simp] theorem derS_agg {xs : List D} : derS (n + 1) (.agg xs) = .agg (xs.map (derS n)) := by rfl
@[simp] theorem derS_tup {xs : List D} : derS (n + 1) (.tup xs) = .tup (xs.map (derS n)) := by rfl
@[simp] theorem derS_fn {f : Nat} {xs : List D} : derS (n + 1) (.fn f xs) = .fn f (xs.map (derS n)) := by rfl
@[simp] theorem imm_bool {b : Bool} : imm n (.bool b) = .bool b := by cases n <;> rfl
@[simp] theorem imm_int {k : IntKind} {m : Int} : imm n (.int k m) = .int k m := by cases n <;> rfl
@[simp] theorem imm_str {s : List UInt8} : imm n (.str s) = .str s := by cases n <;> rfl
@[simp] theorem imm_nil : imm n .nil = .nil := by cases n <;> rfl
@[simp] theorem imm_list {sz : Nat} {xs : List D} : imm n (.list sz xs) = .list sz xs := by cases n <;> rfl
@[simp] theorem imm_iptr {d : D} : imm n (.iptr d) = .iptr d := by cases n <;> rfl
@[simp] theorem imm_fn {f : Nat} {xs : List D} : imm n (.fn f xs) = .fn f xs := by cases n <;> rfl
@[simp] theorem imm_olist {sz : Nat} {xs : List D} : imm (n + 1) (.olist sz xs) = .list sz (xs.map (imm n)) := by rfl
@[simp] theorem imm_agg {xs : List D} : imm (n + 1) (.agg xs) = .agg (xs.map (imm n)) := by rfl
@[simp] theorem imm_tup {xs : List D} : imm (n + 1) (.tup xs) = .tup (xs.map (imm n)) := by rfl
end
-- operations

section
variable {d : Option Nat} {T T2 fl : Nat} {gd : Option (Nat × Bool)} {x y z : Opd}

@[simp] theorem opC_call {f : Opd} {as : List Opd} : opC C kb i ⟨d, .call f as, T, gd, fl⟩ σ K = callK C (kb + 8 * d.getD 0) i fl (ev σ.t f) (evL σ.t as) σ K := (rfl)
@[simp] theorem opCc_call {f : Opd} {as : List Opd} : opCc C kb i ⟨d, .call f as, T, gd, fl⟩ σ K = callD C (kb + 8 * d.getD 0) i fl (ev σ.t f) (evL σ.t as) σ K := (rfl)

theorem opC_op {a : AOper} (h : callOf a.o = none) : opC C kb i a σ K = opK C.tt (kb + 8 * a.d.getD 0) a σ K := by
  obtain ⟨d, o, T, gd, fl⟩ := a
  cases o <;> first | rfl | (cases h)
theorem opCc_op {a : AOper} (h : callOf a.o = none) : opCc C kb i a σ K = opK C.tt (kb + 8 * a.d.getD 0) a σ K := by
  unfold opCc
  rw [h]

@[simp] theorem opK_mv0 : opK tt k ⟨d, .mv x, T, gd, 0⟩ σ K = K (ev σ.t x) σ.h σ.g := (rfl)
def mv1K (v : D) (o : Option Nat) (k : Nat) (σ : St) (K : D → List Ent → Nat → Prop) : Prop := match v, o with
  | .nil, some sz => K (.arr k σ.g) (⟨k, σ.g, .arr sz []⟩ :: hdel σ.h k) (σ.g + 1)
  | _, _ => False
@[congr] theorem mv1K_congr {v v' : D} {o o' : Option Nat} (h : v = v') (h2 : o = o') (h3 : σ = σ') : mv1K v o k σ K = mv1K v' o' k σ' K := by rw [h, h2, h3]
@[simp] theorem opK_mv1 : opK tt k ⟨d, .mv x, T, gd, 1⟩ σ K = mv1K (ev σ.t x) (esz tt T) k σ K := (rfl)
@[simp] theorem mv1K_nil {sz : Nat} : mv1K .nil (some sz) k σ K = K (.arr k σ.g) (⟨k, σ.g, .arr sz []⟩ :: hdel σ.h k) (σ.g + 1) := (rfl)
def mv2K (v : D) (σ : St) (K : D → List Ent → Nat → Prop) : Prop := match v with
  | .arr j g => match find σ.h j g with
    | some (.arr sz xs) => K (.list sz (xs.map (imm 5))) (hdel σ.h j) σ.g
    | _ => False
  | _ => False
@[congr] theorem mv2K_congr {v v' : D} (h : v = v') (h3 : σ = σ') : mv2K v σ K = mv2K v' σ' K := by rw [h, h3]
@[simp] theorem opK_mv2 : opK tt k ⟨d, .mv x, T, gd, 2⟩ σ K = mv2K (ev σ.t x) σ K := (rfl)
def blkK (b : Option Blk) (P1 : List D → Prop) (P2 : Nat → List D → Prop) : Prop := match b with
  | some (.cells cs) => P1 cs
  | some (.arr sz xs) => P2 sz xs
  | none => False
@[congr] theorem blkK_congr {b b' : Option Blk} {P1 : List D → Prop} {P2 : Nat → List D → Prop} (h : b = b') : blkK b P1 P2 = blkK b' P1 P2 := by rw [h]
@[simp] theorem blkK_cells {cs : List D} {P1 : List D → Prop} {P2 : Nat → List D → Prop} : blkK (some (.cells cs)) P1 P2 = P1 cs := (rfl)
@[simp] theorem blkK_arr {sz : Nat} {xs : List D} {P1 : List D → Prop} {P2 : Nat → List D → Prop} : blkK (some (.arr sz xs)) P1 P2 = P2 sz xs := (rfl)
@[simp] theorem mv2K_arr {j g : Nat} : mv2K (.arr j g) σ K = blkK (find σ.h j g) (fun _ => False) (fun sz xs => K (.list sz (xs.map (imm 5))) (hdel σ.h j) σ.g) := by
  show (match find σ.h j g with | some (.arr sz xs) => _ | _ => False) = _
  split
  · rename_i h; rw [h]; rfl
  · rename_i h
    cases hb : find σ.h j g with
    | none => rfl
    | some b => cases b with
      | cells cs => rfl
      | arr sz xs => exact absurd hb (h sz xs)

def boolK (v : D) (K : Bool → Prop) : Prop := match v with | .bool b => K b | _ => False
@[congr] theorem boolK_congr {v v' : D} {K : Bool → Prop} (h : v = v') : boolK v K = boolK v' K := by rw [h]
@[simp] theorem boolK_bool {b : Bool} {K : Bool → Prop} : boolK (.bool b) K = K b := (rfl)
@[simp] theorem opK_pick : opK tt k ⟨d, .pick z x y, T, gd, fl⟩ σ K = boolK (ev σ.t z) fun b => K (if b then ev σ.t x else ev σ.t y) σ.h σ.g := (rfl)

@[congr] theorem fitsT_congr {t t' : Ty} {v v' : D} (h : t = t') (h2 : v = v') : fitsT t v = fitsT t' v' := by rw [h, h2]
@[simp] theorem opK_box0 : opK tt k ⟨d, .box T2 x, T, gd, 0⟩ σ K = (pureD 5 (ev σ.t x) = true ∧ fitsT (tt T2) (ev σ.t x) ∧ K (.iptr (ev σ.t x)) σ.h σ.g) := (rfl)
@[simp] theorem opK_box1 : opK tt k ⟨d, .box T2 x, T, gd, 1⟩ σ K = (fitsT (tt T2) (ev σ.t x) ∧ K (.ptr k σ.g 0) (⟨k, σ.g, .cells (cellsD (ev σ.t x))⟩ :: hdel σ.h k) (σ.g + 1)) := (rfl)
def someK (o : Option D) (K : D → Prop) : Prop := match o with | some z => K z | none => False
@[congr] theorem someK_congr {o o' : Option D} (h : o = o') : someK o K1 = someK o' K1 := by rw [h]
@[simp] theorem someK_some {v : D} : someK (some v) K1 = K1 v := (rfl)
@[simp] theorem opK_alloc : opK tt k ⟨d, .alloc T2, T, gd, fl⟩ σ K = someK (tt T2).zero fun z => fitsT (tt T2) z ∧ K (.ptr k σ.g 0) (⟨k, σ.g, .cells (cellsD z)⟩ :: hdel σ.h k) (σ.g + 1) := (rfl)
def buildK (tt : Nat → Ty) (kd : Kd) (z : Option D) (t : List (Nat × D)) (ps : List (Nat × Opd)) (K : D → Prop) : Prop := match kd, z with
  | .struct fs, some (.agg zs) => match fillP tt fs t zs ps with | some cs => K (.agg cs) | none => False
  | _, _ => False
@[congr] theorem buildK_congr {kd kd' : Kd} {z z' : Option D} {t : List (Nat × D)} {ps : List (Nat × Opd)} (h : kd = kd') (h2 : z = z') : buildK tt kd z t ps K1 = buildK tt kd' z' t ps K1 := by rw [h, h2]
def cellsK (o : Option (List D)) (K : List D → Prop) : Prop := match o with | some cs => K cs | none => False
@[congr] theorem cellsK_congr {o o' : Option (List D)} {K : List D → Prop} (h : o = o') : cellsK o K = cellsK o' K := by rw [h]
@[simp] theorem cellsK_some {cs : List D} {K : List D → Prop} : cellsK (some cs) K = K cs := (rfl)
@[simp] theorem buildK_struct {fs : List (Nat × Nat)} {zs : List D} {t : List (Nat × D)} {ps : List (Nat × Opd)} : buildK tt (.struct fs) (some (.agg zs)) t ps K1 = cellsK (fillP tt fs t zs ps) fun cs => K1 (.agg cs) := (rfl)
@[simp] theorem opK_build {ps : List (Nat × Opd)} : opK tt k ⟨d, .build T2 ps, T, gd, fl⟩ σ K = buildK tt (tt T2).kd (tt T2).zero σ.t ps fun v => K v σ.h σ.g := (rfl)

def elemK (o : Option Ty) (K : Ty → Prop) : Prop := match o with | some E => K E | none => False
@[congr] theorem elemK_congr {o o' : Option Ty} {K : Ty → Prop} (h : o = o') : elemK o K = elemK o' K := by rw [h]
@[simp] theorem elemK_some {E : Ty} {K : Ty → Prop} : elemK (some E) K = K E := (rfl)
@[simp] theorem opK_bslice0 {n : Nat} {ps : List (Nat × Opd)} : opK tt k ⟨d, .bslice T2 n ps, T, gd, 0⟩ σ K = elemK (elemT tt T2) fun E =>
    ps.map Prod.fst = List.range n ∧ n ≤ 1000 ∧ E.sz ≤ 16 ∧ E.zero.isSome = true ∧ (∀ x ∈ ps.map (fun p => ev σ.t p.2), fitsT E x) ∧ (∀ x ∈ ps.map (fun p => ev σ.t p.2), pureD 5 x = true) ∧ K (.list E.sz (ps.map fun p => ev σ.t p.2)) σ.h σ.g := (rfl)
@[simp] theorem opK_bslice1 {n : Nat} {ps : List (Nat × Opd)} : opK tt k ⟨d, .bslice T2 n ps, T, gd, 1⟩ σ K = elemK (elemT tt T2) fun E =>
    ps.map Prod.fst = List.range n ∧ n ≤ 1000 ∧ E.sz ≤ 16 ∧ E.zero.isSome = true ∧ (∀ x ∈ ps.map (fun p => ev σ.t p.2), fitsT E x) ∧ (∀ x ∈ ps.map (fun p => ev σ.t p.2), pureD 5 x = true) ∧ K (.arr k σ.g) (⟨k, σ.g, .arr E.sz (ps.map fun p => ev σ.t p.2)⟩ :: hdel σ.h k) (σ.g + 1) := (rfl)
@[simp] theorem opK_bslice2 {n : Nat} {ps : List (Nat × Opd)} : opK tt k ⟨d, .bslice T2 n ps, T, gd, 2⟩ σ K = elemK (elemT tt T2) fun E =>
    ps.map Prod.fst = List.range n ∧ n ≤ 1000 ∧ E.sz ≤ 16 ∧ E.zero.isSome = true ∧ (∀ x ∈ ps.map (fun p => ev σ.t p.2), fitsT E x) ∧ K (.lit E.sz (ps.map fun p => ev σ.t p.2)) σ.h σ.g := (rfl)

/-- A row, if there is one. -/
def rowK2 (o : Option (Nat × List D)) (K : Nat → List D → Prop) : Prop := match o with
  | some (s, ys) => K s ys
  | none => False
@[congr] theorem rowK2_congr {o o' : Option (Nat × List D)} {K : Nat → List D → Prop} (h : o = o') : rowK2 o K = rowK2 o' K := by rw [h]
@[simp] theorem rowK2_some {s : Nat} {ys : List D} {K : Nat → List D → Prop} : rowK2 (some (s, ys)) K = K s ys := (rfl)
def loadK (t : Ty) (v : D) (h : List Ent) (K : D → Prop) : Prop := match v with
  | .iptr d => fitsT t d ∧ K d
  | .ptr j g off => match find h j g with
    | some (.cells cs) => if t.isStruct then off + t.sz ≤ cs.length ∧ K (.agg ((cs.drop off).take t.sz)) else t.flat = true ∧ off < cs.length ∧ K (cs.getD off .junk)
    | some (.arr sz xs) => sz = 1 ∧ t.flat = true ∧ scalK xs off K
    | none => False
  | .rptr j g x y => rowK2 (rowAt h j g x) (fun s ys => s = 1 ∧ t.flat = true ∧ scalK ys y K)
  | _ => False
/-- A load out of a list of the run's own: a row of it. -/
def rloadK (fl : Nat) (t : Ty) (v : D) (σ : St) (K : D → List Ent → Nat → Prop) : Prop := match v with
  | .iptr d => fitsT t d ∧ K d σ.h σ.g
  | .ptr j g off => match find σ.h j g with
    | some (.cells cs) => if t.isStruct then off + t.sz ≤ cs.length ∧ K (.agg ((cs.drop off).take t.sz)) σ.h σ.g else t.flat = true ∧ off < cs.length ∧ K (cs.getD off .junk) σ.h σ.g
    | some (.arr sz xs) => sz = 1 ∧ t.flat = true ∧ rowK fl j g xs off σ K
    | none => False
  | .rptr j g x y => rowK2 (rowAt σ.h j g x) (fun s ys => s = 1 ∧ t.flat = true ∧ scalK ys y fun d => K d σ.h σ.g)
  | _ => False
@[congr] theorem rloadK_congr {fl : Nat} {t t' : Ty} {v v' : D} (e : t = t') (e2 : v = v') (e3 : σ = σ') : rloadK fl t v σ K = rloadK fl t' v' σ' K := by rw [e, e2, e3]
@[congr] theorem loadK_congr {t t' : Ty} {v v' : D} {h h' : List Ent} (e : t = t') (e2 : v = v') (e3 : h = h') : loadK t v h K1 = loadK t' v' h' K1 := by rw [e, e2, e3]
@[simp] theorem opK_load : opK tt k ⟨d, .load T2 x, T, gd, 0⟩ σ K = loadK (tt T2) (ev σ.t x) σ.h fun v => K v σ.h σ.g := by
  unfold opK
  dsimp only
  cases ev σ.t x <;> rfl
theorem opK_loadR {n : Nat} : opK tt k ⟨d, .load T2 x, T, gd, n + 1⟩ σ K = rloadK (n + 1) (tt T2) (ev σ.t x) σ K := by
  unfold opK
  dsimp only
  cases ev σ.t x <;> rfl
@[simp] theorem opK_load1 : opK tt k ⟨d, .load T2 x, T, gd, 1⟩ σ K = rloadK 1 (tt T2) (ev σ.t x) σ K := opK_loadR
@[simp] theorem opK_load2 : opK tt k ⟨d, .load T2 x, T, gd, 2⟩ σ K = rloadK 2 (tt T2) (ev σ.t x) σ K := opK_loadR
@[simp] theorem rloadK_ptr {fl : Nat} {t : Ty} {j g off : Nat} : rloadK fl t (.ptr j g off) σ K = blkK (find σ.h j g) (fun cs => if t.isStruct then off + t.sz ≤ cs.length ∧ K (.agg ((cs.drop off).take t.sz)) σ.h σ.g else t.flat = true ∧ off < cs.length ∧ K (cs.getD off .junk) σ.h σ.g) (fun sz xs => sz = 1 ∧ t.flat = true ∧ rowK fl j g xs off σ K) := by
  unfold rloadK blkK
  rfl
@[simp] theorem loadK_rptr {t : Ty} {j g r y : Nat} {h : List Ent} : loadK t (.rptr j g r y) h K1 = rowK2 (rowAt h j g r) (fun s ys => s = 1 ∧ t.flat = true ∧ scalK ys y K1) := (rfl)
def rowOK (fl j g : Nat) (xs : List D) (off : Nat) (o : Option D) (σ : St) (K : D → List Ent → Nat → Prop) : Prop := match o with
  | some (.olist s ys) => match fl with
    | 1 => K (.row j g off) σ.h σ.g
    | _ => K (.list s (ys.map (imm 5))) (hset σ.h j g (.arr 1 (xs.set off (.list s (ys.map (imm 5)))))) σ.g
  | _ => False
@[congr] theorem rowOK_congr {fl j g : Nat} {xs : List D} {off : Nat} {o o' : Option D} (e : o = o') (e2 : σ = σ') : rowOK fl j g xs off o σ K = rowOK fl j g xs off o' σ' K := by rw [e, e2]
@[simp] theorem rowK_eq {fl j g : Nat} {xs : List D} {off : Nat} : rowK fl j g xs off σ K = rowOK fl j g xs off xs[off]? σ K := (rfl)
@[simp] theorem rowOK_1 {j g : Nat} {xs : List D} {off s : Nat} {ys : List D} : rowOK 1 j g xs off (some (.olist s ys)) σ K = K (.row j g off) σ.h σ.g := (rfl)
@[simp] theorem rowOK_2 {j g : Nat} {xs : List D} {off s : Nat} {ys : List D} : rowOK 2 j g xs off (some (.olist s ys)) σ K = K (.list s (ys.map (imm 5))) (hset σ.h j g (.arr 1 (xs.set off (.list s (ys.map (imm 5)))))) σ.g := (rfl)
@[simp] theorem loadK_iptr {t : Ty} {v : D} {h : List Ent} : loadK t (.iptr v) h K1 = (fitsT t v ∧ K1 v) := (rfl)
def takeK (p : Bool) (t : Ty) (off : Nat) (cs : List D) (K : D → Prop) : Prop := match p with
  | true => off + t.sz ≤ cs.length ∧ K (.agg ((cs.drop off).take t.sz))
  | false => t.flat = true ∧ off < cs.length ∧ K (cs.getD off .junk)
@[congr] theorem takeK_congr {p p' : Bool} {t : Ty} {off : Nat} {cs : List D} (h : p = p') : takeK p t off cs K1 = takeK p' t off cs K1 := by rw [h]
@[simp] theorem takeK_true {t : Ty} {off : Nat} {cs : List D} : takeK true t off cs K1 = (off + t.sz ≤ cs.length ∧ K1 (.agg ((cs.drop off).take t.sz))) := (rfl)
@[simp] theorem takeK_false {t : Ty} {off : Nat} {cs : List D} : takeK false t off cs K1 = (t.flat = true ∧ off < cs.length ∧ K1 (cs.getD off .junk)) := (rfl)
@[simp] theorem loadK_ptr {t : Ty} {j g off : Nat} {h : List Ent} : loadK t (.ptr j g off) h K1 = blkK (find h j g) (fun cs => takeK t.isStruct t off cs K1) (fun sz xs => sz = 1 ∧ t.flat = true ∧ scalK xs off K1) := by
  unfold loadK blkK takeK
  simp only []
  cases find h j g with
  | none => rfl
  | some b => cases b with
    | cells cs => cases hs : t.isStruct <;> simp [hs]
    | arr sz xs => rfl
@[congr] theorem scalK_congr {xs xs' : List D} {n n' : Nat} (h : xs = xs') (h2 : n = n') : scalK xs n K1 = scalK xs' n' K1 := by rw [h, h2]
@[congr] theorem idxK_congr {xs xs' : List D} {n n' : Int} (h : xs = xs') (h2 : n = n') : idxK xs n K1 = idxK xs' n' K1 := by rw [h, h2]

def storeK (tt : Nat → Ty) (T : Nat) (p v : D) (σ : St) (K : List Ent → Prop) : Prop := match p with
  | .ptr j g off => fitsT (tt T) v ∧ match find σ.h j g with
    | some (.cells cs) => off + (cellsD v).length ≤ cs.length ∧ K (hset σ.h j g (.cells (cs.take off ++ cellsD v ++ cs.drop (off + (cellsD v).length))))
    | some (.arr sz xs) => sz = 1 ∧ (tt T).flat = true ∧ off < xs.length ∧ pureD 5 v = true ∧ K (hset σ.h j g (.arr sz (xs.set off v)))
    | none => False
  | .rptr j g x y => fitsT (tt T) v ∧ blkK (find σ.h j g) (fun _ => False) (fun sz xs => rowK2 (rowB (.arr sz xs) x) fun s ys => sz = 1 ∧ s = 1 ∧ (tt T).flat = true ∧ y < ys.length ∧ pureD 5 v = true ∧ K (hset σ.h j g (rowSet xs x s ys y v)))
  | _ => False
@[simp] theorem storeK_rptr {T j g r y : Nat} {v : D} {K : List Ent → Prop} : storeK tt T (.rptr j g r y) v σ K = (fitsT (tt T) v ∧ blkK (find σ.h j g) (fun _ => False) (fun sz xs => rowK2 (rowB (.arr sz xs) r) fun s ys => sz = 1 ∧ s = 1 ∧ (tt T).flat = true ∧ y < ys.length ∧ pureD 5 v = true ∧ K (hset σ.h j g (rowSet xs r s ys y v)))) := (rfl)
@[congr] theorem storeK_congr {T : Nat} {p p' v v' : D} {K : List Ent → Prop} (h : p = p') (h2 : v = v') (h3 : σ = σ') : storeK tt T p v σ K = storeK tt T p' v' σ' K := by rw [h, h2, h3]
@[simp] theorem opK_store : opK tt k ⟨d, .store T2 x y, T, gd, fl⟩ σ K = storeK tt T2 (ev σ.t x) (ev σ.t y) σ fun h => K .undef h σ.g := by
  unfold opK
  dsimp only
  cases ev σ.t x <;> try rfl
  rename_i j g r q
  simp only [storeK, blkK]
  cases find σ.h j g with
  | none => rfl
  | some b => cases b <;> rfl
@[simp] theorem storeK_ptr {T j g off : Nat} {v : D} {K : List Ent → Prop} : storeK tt T (.ptr j g off) v σ K = (fitsT (tt T) v ∧ blkK (find σ.h j g) (fun cs => off + (cellsD v).length ≤ cs.length ∧ K (hset σ.h j g (.cells (cs.take off ++ cellsD v ++ cs.drop (off + (cellsD v).length)))))
    (fun sz xs => sz = 1 ∧ (tt T).flat = true ∧ off < xs.length ∧ pureD 5 v = true ∧ K (hset σ.h j g (.arr sz (xs.set off v))))) := by
  unfold storeK blkK
  rfl

def nilckK (v : D) (h : List Ent) (K : D → Prop) : Prop := match v with | .iptr d => K (.iptr d) | .fn f c => K (.fn f c) | .ptr j g o => (find h j g).isSome = true ∧ K (.ptr j g o) | _ => False
@[congr] theorem nilckK_congr {v v' : D} {h h' : List Ent} (e : v = v') (e2 : h = h') : nilckK v h K1 = nilckK v' h' K1 := by rw [e, e2]
@[simp] theorem opK_nilck : opK tt k ⟨d, .nilck x, T, gd, fl⟩ σ K = nilckK (ev σ.t x) σ.h fun v => K v σ.h σ.g := (rfl)
@[simp] theorem nilckK_iptr {v : D} {h : List Ent} : nilckK (.iptr v) h K1 = K1 (.iptr v) := (rfl)
@[simp] theorem nilckK_fn {f : Nat} {c : List D} {h : List Ent} : nilckK (.fn f c) h K1 = K1 (.fn f c) := (rfl)
@[simp] theorem nilckK_ptr {j g o : Nat} {h : List Ent} : nilckK (.ptr j g o) h K1 = ((find h j g).isSome = true ∧ K1 (.ptr j g o)) := (rfl)

@[congr] theorem binK_congr {kd kd' : Kd} {op : BinOp} {v v' u u' : D} (e0 : kd = kd') (e : v = v') (e2 : u = u') : binK kd op v u K1 = binK kd' op v' u' K1 := by rw [e0, e, e2]
@[simp] theorem opK_bin {op : BinOp} : opK tt k ⟨d, .bin op T2 x y, T, gd, fl⟩ σ K = binK (tt T2).kd op (ev σ.t x) (ev σ.t y) fun v => K v σ.h σ.g := (rfl)
section
variable {kd : IntKind} {a b : Int}
@[simp] theorem binK_add {kt : Kd} : binK kt .add (.int kd a) (.int kd b) K1 = K1 (.int kd (kd.wrap (a + b))) := by simp [binK, binI]
@[simp] theorem binK_sub {kt : Kd} : binK kt .sub (.int kd a) (.int kd b) K1 = K1 (.int kd (kd.wrap (a - b))) := by simp [binK, binI]
@[simp] theorem binK_mul {kt : Kd} : binK kt .mul (.int kd a) (.int kd b) K1 = K1 (.int kd (kd.wrap (a * b))) := by simp [binK, binI]
@[simp] theorem binK_quo {kt : Kd} : binK kt .quo (.int kd a) (.int kd b) K1 = (b ≠ 0 ∧ K1 (.int kd (kd.wrap (a.tdiv b)))) := by simp [binK, binI]
@[simp] theorem binK_rem {kt : Kd} : binK kt .rem (.int kd a) (.int kd b) K1 = (b ≠ 0 ∧ K1 (.int kd (a.tmod b))) := by simp [binK, binI]
@[simp] theorem binK_and {kt : Kd} : binK kt .and (.int kd a) (.int kd b) K1 = K1 (.int kd (bAnd kd a b)) := by simp [binK, binI]
@[simp] theorem binK_or {kt : Kd} : binK kt .or (.int kd a) (.int kd b) K1 = K1 (.int kd (bOr kd a b)) := by simp [binK, binI]
@[simp] theorem binK_xor {kt : Kd} : binK kt .xor (.int kd a) (.int kd b) K1 = K1 (.int kd (bXor kd a b)) := by simp [binK, binI]
@[simp] theorem binK_andNot {kt : Kd} : binK kt .andNot (.int kd a) (.int kd b) K1 = K1 (.int kd (bAndNot kd a b)) := by simp [binK, binI]
@[simp] theorem binK_eql {kt : Kd} : binK kt .eql (.int kd a) (.int kd b) K1 = K1 (.bool (decide (a = b))) := by simp [binK, binI]; rfl
@[simp] theorem binK_neq {kt : Kd} : binK kt .neq (.int kd a) (.int kd b) K1 = K1 (.bool (decide (a ≠ b))) := by
  have : (a != b) = decide (a ≠ b) := by by_cases h : a = b <;> simp [h]
  simp only [binK, binI, true_and, this]
@[simp] theorem binK_lss {kt : Kd} : binK kt .lss (.int kd a) (.int kd b) K1 = K1 (.bool (decide (a < b))) := by simp [binK, binI]
@[simp] theorem binK_leq {kt : Kd} : binK kt .leq (.int kd a) (.int kd b) K1 = K1 (.bool (decide (a ≤ b))) := by simp [binK, binI]
@[simp] theorem binK_gtr {kt : Kd} : binK kt .gtr (.int kd a) (.int kd b) K1 = K1 (.bool (decide (b < a))) := by simp [binK, binI]
@[simp] theorem binK_geq {kt : Kd} : binK kt .geq (.int kd a) (.int kd b) K1 = K1 (.bool (decide (b ≤ a))) := by simp [binK, binI]
@[simp] theorem binK_shl {kt : Kd} : binK kt .shl (.int kd a) (.int kd b) K1 = (0 ≤ b ∧ K1 (.int kd (bShl kd a b))) := by simp [binK, binI]
@[simp] theorem binK_shr {kt : Kd} : binK kt .shr (.int kd a) (.int kd b) K1 = (0 ≤ b ∧ K1 (.int kd (bShr kd a b))) := by simp [binK, binI]
end
@[simp] theorem binK_seql {kt : Kd} {a b : List UInt8} : binK kt .eql (.str a) (.str b) K1 = K1 (.bool (decide (a = b))) := by
  have : (a == b) = decide (a = b) := by by_cases h : a = b <;> simp [h]
  simp only [binK, binS, this]
@[simp] theorem binK_sneq {kt : Kd} {a b : List UInt8} : binK kt .neq (.str a) (.str b) K1 = K1 (.bool (decide (a ≠ b))) := by
  have : (a != b) = decide (a ≠ b) := by by_cases h : a = b <;> simp [h]
  simp only [binK, binS, this]
@[simp] theorem binK_beql {a b : Bool} : binK .bool .eql (.bool a) (.bool b) K1 = K1 (.bool (a == b)) := by simp only [binK, binL, true_and]
@[simp] theorem binK_bneq {a b : Bool} : binK .bool .neq (.bool a) (.bool b) K1 = K1 (.bool (a != b)) := by simp only [binK, binL, true_and]
@[simp] theorem binK_sadd {kt : Kd} {a b : List UInt8} : binK kt .add (.str a) (.str b) K1 = (a.length + b.length ≤ big ∧ K1 (.str (a ++ b))) := (rfl)

def unK (op : UnOp) (v : D) (K : D → Prop) : Prop := match op, v with
  | .not, .bool b => K (.bool !b)
  | .neg, .int kd n => K (.int kd (kd.wrap (0 - n)))
  | _, _ => False
@[congr] theorem unK_congr {op : UnOp} {v v' : D} (e : v = v') : unK op v K1 = unK op v' K1 := by rw [e]
@[simp] theorem opK_un {op : UnOp} : opK tt k ⟨d, .un op x, T, gd, fl⟩ σ K = unK op (ev σ.t x) fun v => K v σ.h σ.g := (rfl)
@[simp] theorem unK_not {b : Bool} : unK .not (.bool b) K1 = K1 (.bool !b) := (rfl)
@[simp] theorem unK_neg {kd : IntKind} {n : Int} : unK .neg (.int kd n) K1 = K1 (.int kd (kd.wrap (0 - n))) := (rfl)

def convK (t : Kd) (p : Bool) (v : D) (K : D → Prop) : Prop := match t, v with
  | .int kd, .int _ n => p = true ∧ K (.int kd (kd.wrap n))
  | _, _ => False
@[congr] theorem convK_congr {t t' : Kd} {p p' : Bool} {v v' : D} (e : t = t') (e2 : p = p') (e3 : v = v') : convK t p v K1 = convK t' p' v' K1 := by rw [e, e2, e3]
@[simp] theorem opK_conv {S : Nat} : opK tt k ⟨d, .conv S T2 x, T, gd, fl⟩ σ K = convK (tt T2).kd (tt S).flat (ev σ.t x) fun v => K v σ.h σ.g := (rfl)
@[simp] theorem convK_int {kd kd2 : IntKind} {p : Bool} {n : Int} : convK (.int kd) p (.int kd2 n) K1 = (p = true ∧ K1 (.int kd (kd.wrap n))) := (rfl)

@[simp] theorem opK_mkfn {f : Nat} {cs : List Opd} : opK tt k ⟨d, .mkfn f cs, T, gd, fl⟩ σ K = K (.fn f (evL σ.t cs)) σ.h σ.g := (rfl)

def makeK (o : Option Ty) (z : Option D) (l c : D) (k : Nat) (σ : St) (K : D → List Ent → Nat → Prop) : Prop := match o, z, l, c with
  | some E, some z, .int _ n, .int _ m => 0 ≤ n ∧ n = m ∧ n ≤ big ∧ fitsT E z ∧ pureD 5 z = true ∧ K (.arr k σ.g) (⟨k, σ.g, .arr E.sz (List.replicate n.toNat z)⟩ :: hdel σ.h k) (σ.g + 1)
  | _, _, _, _ => False
@[congr] theorem makeK_congr {o o' : Option Ty} {u u' : Option D} {l l' c c' : D} (e : o = o') (e2 : u = u') (e3 : l = l') (e4 : c = c') (e5 : σ = σ') : makeK o u l c k σ K = makeK o' u' l' c' k σ' K := by rw [e, e2, e3, e4, e5]
@[simp] theorem opK_make : opK tt k ⟨d, .make T2 x y, T, gd, fl⟩ σ K = makeK (elemT tt T2) (ezero tt T2) (ev σ.t x) (ev σ.t y) k σ K := (rfl)
@[simp] theorem makeK_some {E : Ty} {v : D} {k1 k2 : IntKind} {n m : Int} : makeK (some E) (some v) (.int k1 n) (.int k2 m) k σ K = (0 ≤ n ∧ n = m ∧ n ≤ big ∧ fitsT E v ∧ pureD 5 v = true ∧ K (.arr k σ.g) (⟨k, σ.g, .arr E.sz (List.replicate n.toNat v)⟩ :: hdel σ.h k) (σ.g + 1)) := (rfl)

def intK (v : D) (K : Int → Prop) : Prop := match v with | .int _ n => K n | _ => False
@[congr] theorem intK_congr {v v' : D} {K : Int → Prop} (e : v = v') : intK v K = intK v' K := by rw [e]
@[simp] theorem intK_int {kd : IntKind} {n : Int} {K : Int → Prop} : intK (.int kd n) K = K n := (rfl)
@[congr] theorem optI_congrS {t : List (Nat × D)} {n n' : Int} {o : Option Opd} {K : Int → Prop} (e : n = n') : optI t n o K = optI t n' o K := by rw [e]
@[simp] theorem optI_none {t : List (Nat × D)} {n : Int} {K : Int → Prop} : optI t n none K = K n := (rfl)
@[simp] theorem optI_some {t : List (Nat × D)} {n : Int} {x : Opd} {K : Int → Prop} : optI t n (some x) K = intK (ev t x) K := (rfl)
def sliceK (tt : Nat → Ty) (T : Nat) (v : D) (t : List (Nat × D)) (lo hi : Option Opd) (K : D → Prop) : Prop := match v with
  | .list sz xs => some sz = esz tt T ∧ optI t 0 lo fun l => optI t xs.length hi fun u => 0 ≤ l ∧ l ≤ u ∧ u ≤ xs.length ∧ K (.list sz ((xs.take u.toNat).drop l.toNat))
  | .str s => (match (tt T).kd with | .str => True | _ => False) ∧ optI t 0 lo fun l => optI t s.length hi fun u => 0 ≤ l ∧ l ≤ u ∧ u ≤ s.length ∧ K (.str ((s.take u.toNat).drop l.toNat))
  | _ => False
@[congr] theorem sliceK_congr {T : Nat} {v v' : D} {t : List (Nat × D)} {lo hi : Option Opd} (e : v = v') : sliceK tt T v t lo hi K1 = sliceK tt T v' t lo hi K1 := by rw [e]
@[simp] theorem opK_slice {lo hi : Option Opd} : opK tt k ⟨d, .slice T2 x lo hi, T, gd, 0⟩ σ K = sliceK tt T2 (ev σ.t x) σ.t lo hi fun v => K v σ.h σ.g := by
  unfold opK
  dsimp only
  cases ev σ.t x <;> try rfl
  simp only [sliceK]
  apply propext
  refine ⟨fun h => ?_, False.elim⟩
  split at h
  · exact absurd h.1 (by decide)
  · exact h
/-- A piece of a list of the run's own, which is never written again. -/
def sliceR (tt : Nat → Ty) (T : Nat) (v : D) (σ : St) (lo hi : Option Opd) (K : D → List Ent → Nat → Prop) : Prop := match v with
  | .arr j g => blkK (find σ.h j g) (fun _ => False) (fun sz xs => some sz = esz tt T ∧ optI σ.t 0 lo fun l => optI σ.t xs.length hi fun u => 0 ≤ l ∧ l ≤ u ∧ u ≤ xs.length ∧ K (.list sz (((xs.map (imm 5)).take u.toNat).drop l.toNat)) (hdel σ.h j) σ.g)
  | v => sliceK tt T v σ.t lo hi fun v => K v σ.h σ.g
@[congr] theorem sliceR_congr {T : Nat} {v v' : D} {lo hi : Option Opd} (e : v = v') (e2 : σ = σ') : sliceR tt T v σ lo hi K = sliceR tt T v' σ' lo hi K := by rw [e, e2]
@[simp] theorem sliceR_arr {T j g : Nat} {lo hi : Option Opd} : sliceR tt T (.arr j g) σ lo hi K = blkK (find σ.h j g) (fun _ => False) (fun sz xs => some sz = esz tt T ∧ optI σ.t 0 lo fun l => optI σ.t xs.length hi fun u => 0 ≤ l ∧ l ≤ u ∧ u ≤ xs.length ∧ K (.list sz (((xs.map (imm 5)).take u.toNat).drop l.toNat)) (hdel σ.h j) σ.g) := (rfl)
@[simp] theorem sliceR_list {T sz : Nat} {xs : List D} {lo hi : Option Opd} : sliceR tt T (.list sz xs) σ lo hi K = sliceK tt T (.list sz xs) σ.t lo hi fun v => K v σ.h σ.g := (rfl)
@[simp] theorem opK_slice2 {lo hi : Option Opd} : opK tt k ⟨d, .slice T2 x lo hi, T, gd, 2⟩ σ K = sliceR tt T2 (ev σ.t x) σ lo hi K := by
  unfold opK
  dsimp only
  cases ev σ.t x <;> try rfl
  rename_i j g
  simp only [sliceR_arr, blkK]
  cases find σ.h j g with
  | none => rfl
  | some b => cases b with
    | cells cs => rfl
    | arr sz xs => simp
@[simp] theorem sliceK_list {T sz : Nat} {xs : List D} {t : List (Nat × D)} {lo hi : Option Opd} : sliceK tt T (.list sz xs) t lo hi K1 = (some sz = esz tt T ∧ optI t 0 lo fun l => optI t xs.length hi fun u => 0 ≤ l ∧ l ≤ u ∧ u ≤ xs.length ∧ K1 (.list sz ((xs.take u.toNat).drop l.toNat))) := (rfl)
@[simp] theorem sliceK_str {T : Nat} {s : List UInt8} {t : List (Nat × D)} {lo hi : Option Opd} : sliceK tt T (.str s) t lo hi K1 = ((match (tt T).kd with | .str => True | _ => False) ∧ optI t 0 lo fun l => optI t s.length hi fun u => 0 ≤ l ∧ l ≤ u ∧ u ≤ s.length ∧ K1 (.str ((s.take u.toNat).drop l.toNat))) := (rfl)

def fieldsK (kd : Kd) (n : Nat) (K : Nat → Nat → Prop) : Prop := match kd with
  | .struct fs => match fs[n]? with
    | some (off, E) => K off E
    | none => False
  | _ => False
@[congr] theorem fieldsK_congr {kd kd' : Kd} {n : Nat} {K : Nat → Nat → Prop} (e : kd = kd') : fieldsK kd n K = fieldsK kd' n K := by rw [e]
def offK (o : Option (Nat × Nat)) (K : Nat → Nat → Prop) : Prop := match o with | some (off, E) => K off E | none => False
@[congr] theorem offK_congr {o o' : Option (Nat × Nat)} {K : Nat → Nat → Prop} (e : o = o') : offK o K = offK o' K := by rw [e]
@[simp] theorem offK_some {a b : Nat} {K : Nat → Nat → Prop} : offK (some (a, b)) K = K a b := (rfl)
@[simp] theorem fieldsK_struct {fs : List (Nat × Nat)} {n : Nat} {K : Nat → Nat → Prop} : fieldsK (.struct fs) n K = offK fs[n]? K := (rfl)
def faddr2 (v : D) (off : Nat) (h : List Ent) (K : D → Prop) : Prop := match v with
  | .iptr (.agg ds) => off < ds.length ∧ K (.iptr (ds.getD off .junk))
  | .ptr j g o => (find h j g).isSome = true ∧ K (.ptr j g (o + off))
  | _ => False
@[congr] theorem faddr2_congr {v v' : D} {off : Nat} {h h' : List Ent} (e : v = v') (e2 : h = h') : faddr2 v off h K1 = faddr2 v' off h' K1 := by rw [e, e2]
@[simp] theorem faddr2_iptr {ds : List D} {off : Nat} {h : List Ent} : faddr2 (.iptr (.agg ds)) off h K1 = (off < ds.length ∧ K1 (.iptr (ds.getD off .junk))) := (rfl)
@[simp] theorem faddr2_ptr {j g o off : Nat} {h : List Ent} : faddr2 (.ptr j g o) off h K1 = ((find h j g).isSome = true ∧ K1 (.ptr j g (o + off))) := (rfl)
@[simp] theorem opK_faddr {n : Nat} : opK tt k ⟨d, .faddr T2 x n, T, gd, fl⟩ σ K = fieldsK (tt T2).kd n fun off E => (tt E).sz = 1 ∧ (tt E).flat = true ∧ faddr2 (ev σ.t x) off σ.h fun v => K v σ.h σ.g := (rfl)
def field2 (v : D) (off : Nat) (K : D → Prop) : Prop := match v with
  | .agg ds => off < ds.length ∧ K (ds.getD off .junk)
  | _ => False
@[congr] theorem field2_congr {v v' : D} {off : Nat} (e : v = v') : field2 v off K1 = field2 v' off K1 := by rw [e]
@[simp] theorem field2_agg {ds : List D} {off : Nat} : field2 (.agg ds) off K1 = (off < ds.length ∧ K1 (ds.getD off .junk)) := (rfl)
@[simp] theorem opK_field {n : Nat} : opK tt k ⟨d, .field T2 x n, T, gd, fl⟩ σ K = fieldsK (tt T2).kd n fun off E => (tt E).sz = 1 ∧ (tt E).flat = true ∧ field2 (ev σ.t x) off fun v => K v σ.h σ.g := (rfl)

def iaddr2 (o : Option Nat) (v : D) (n : Int) (h : List Ent) (K : D → Prop) : Prop := match v with
  | .list sz xs => some sz = o ∧ idxK xs n fun d => K (.iptr d)
  | .arr j g => match find h j g with
    | some (.arr sz xs) => sz = 1 ∧ o = some 1 ∧ 0 ≤ n ∧ n < xs.length ∧ K (.ptr j g n.toNat)
    | _ => False
  | .row j g r => rowK2 (rowAt h j g r) (fun s ys => s = 1 ∧ o = some 1 ∧ 0 ≤ n ∧ n < ys.length ∧ K (.rptr j g r n.toNat))
  | _ => False
@[simp] theorem iaddr2_row {o : Option Nat} {j g r : Nat} {n : Int} {h : List Ent} : iaddr2 o (.row j g r) n h K1 = rowK2 (rowAt h j g r) (fun s ys => s = 1 ∧ o = some 1 ∧ 0 ≤ n ∧ n < ys.length ∧ K1 (.rptr j g r n.toNat)) := (rfl)
@[congr] theorem iaddr2_congr {o o' : Option Nat} {v v' : D} {n n' : Int} {h h' : List Ent} (e : o = o') (e1 : v = v') (e2 : n = n') (e3 : h = h') : iaddr2 o v n h K1 = iaddr2 o' v' n' h' K1 := by rw [e, e1, e2, e3]
@[simp] theorem iaddr2_list {o : Option Nat} {sz : Nat} {xs : List D} {n : Int} {h : List Ent} : iaddr2 o (.list sz xs) n h K1 = (some sz = o ∧ idxK xs n fun d => K1 (.iptr d)) := (rfl)
@[simp] theorem iaddr2_arr {o : Option Nat} {j g : Nat} {n : Int} {h : List Ent} : iaddr2 o (.arr j g) n h K1 = blkK (find h j g) (fun _ => False) (fun sz xs => sz = 1 ∧ o = some 1 ∧ 0 ≤ n ∧ n < xs.length ∧ K1 (.ptr j g n.toNat)) := by
  unfold iaddr2 blkK
  simp only []
  cases find h j g with
  | none => rfl
  | some b => cases b <;> rfl
@[simp] theorem opK_iaddr : opK tt k ⟨d, .iaddr T2 x y, T, gd, fl⟩ σ K = intK (ev σ.t y) fun n => iaddr2 (esz tt T2) (ev σ.t x) n σ.h fun v => K v σ.h σ.g := by
  show (match ev σ.t y with | .int _ n => _ | _ => False) = _
  cases ev σ.t y <;> cases ev σ.t x <;> rfl

def index2 (v : D) (n : Int) (kd : Kd) (K : D → Prop) : Prop := match v, kd with
  | .str s, .str => 0 ≤ n ∧ n < s.length ∧ K (.int .u8 ((s.getD n.toNat 0).toNat : Int))
  | _, _ => False
@[congr] theorem index2_congr {v v' : D} {n n' : Int} {kd kd' : Kd} (e1 : v = v') (e2 : n = n') (e3 : kd = kd') : index2 v n kd K1 = index2 v' n' kd' K1 := by rw [e1, e2, e3]
@[simp] theorem index2_str {s : List UInt8} {n : Int} : index2 (.str s) n .str K1 = (0 ≤ n ∧ n < s.length ∧ K1 (.int .u8 ((s.getD n.toNat 0).toNat : Int))) := (rfl)
@[simp] theorem opK_index : opK tt k ⟨d, .index T2 x y, T, gd, fl⟩ σ K = intK (ev σ.t y) fun n => index2 (ev σ.t x) n (tt T2).kd fun v => K v σ.h σ.g := by
  show (match ev σ.t x, ev σ.t y, (tt T2).kd with | .str s, .int _ n, .str => _ | _, _, _ => False) = _
  unfold intK index2
  cases ev σ.t y <;> cases ev σ.t x <;> cases (tt T2).kd <;> rfl

def ext2 (v : D) (n : Nat) (K : D → Prop) : Prop := match v with | .tup xs => n < xs.length ∧ K (xs.getD n .junk) | _ => False
@[congr] theorem ext2_congr {v v' : D} {n : Nat} (e : v = v') : ext2 v n K1 = ext2 v' n K1 := by rw [e]
@[simp] theorem ext2_tup {xs : List D} {n : Nat} : ext2 (.tup xs) n K1 = (n < xs.length ∧ K1 (xs.getD n .junk)) := (rfl)
@[simp] theorem opK_ext {n : Nat} : opK tt k ⟨d, .ext x n, T, gd, fl⟩ σ K = ext2 (ev σ.t x) n fun v => K v σ.h σ.g := (rfl)

def len2 (kd : Kd) (v : D) (h : List Ent) (K : D → Prop) : Prop := match kd with
  | .str => match v with | .str s => K (.int .i64 s.length) | _ => False
  | .slice _ => match lenD h v with | some n => K (.int .i64 n) | none => False
  | _ => False
@[congr] theorem len2_congr {kd kd' : Kd} {v v' : D} {h h' : List Ent} (e : kd = kd') (e1 : v = v') (e2 : h = h') : len2 kd v h K1 = len2 kd' v' h' K1 := by rw [e, e1, e2]
@[simp] theorem opK_len : opK tt k ⟨d, .len T2 x, T, gd, fl⟩ σ K = len2 (tt T2).kd (ev σ.t x) σ.h fun v => K v σ.h σ.g := (rfl)
@[simp] theorem len2_str {s : List UInt8} {h : List Ent} : len2 .str (.str s) h K1 = K1 (.int .i64 s.length) := (rfl)
@[simp] theorem len2_list {e sz : Nat} {xs : List D} {h : List Ent} : len2 (.slice e) (.list sz xs) h K1 = K1 (.int .i64 xs.length) := (rfl)
@[simp] theorem len2_lit {e sz : Nat} {xs : List D} {h : List Ent} : len2 (.slice e) (.lit sz xs) h K1 = K1 (.int .i64 xs.length) := (rfl)
@[simp] theorem len2_nil {e : Nat} {h : List Ent} : len2 (.slice e) .nil h K1 = K1 (.int .i64 0) := (rfl)
@[simp] theorem len2_arr {e j g : Nat} {h : List Ent} : len2 (.slice e) (.arr j g) h K1 = blkK (find h j g) (fun _ => False) (fun _ xs => K1 (.int .i64 xs.length)) := by
  unfold len2 blkK lenD
  simp only []
  cases find h j g with
  | none => rfl
  | some b => cases b <;> rfl

@[simp] theorem len2_row {e j g r : Nat} {h : List Ent} : len2 (.slice e) (.row j g r) h K1 = rowK2 (rowAt h j g r) (fun _ ys => K1 (.int .i64 ys.length)) := by
  unfold len2 rowK2 lenD
  simp only []
  cases rowAt h j g r with
  | none => rfl
  | some q => rfl

def int2 (v u : D) (K : IntKind → Int → Int → Prop) : Prop := match v, u with | .int kd n, .int _ m => K kd n m | _, _ => False
@[congr] theorem int2_congr {v v' u u' : D} {K : IntKind → Int → Int → Prop} (e : v = v') (e2 : u = u') : int2 v u K = int2 v' u' K := by rw [e, e2]
@[simp] theorem int2_int {k1 k2 : IntKind} {n m : Int} {K : IntKind → Int → Int → Prop} : int2 (.int k1 n) (.int k2 m) K = K k1 n m := (rfl)
@[simp] theorem opK_max : opK tt k ⟨d, .max x y, T, gd, fl⟩ σ K = int2 (ev σ.t x) (ev σ.t y) fun kd n m => K (.int kd (if m > n then m else n)) σ.h σ.g := (rfl)
@[simp] theorem opK_min : opK tt k ⟨d, .min x y, T, gd, fl⟩ σ K = int2 (ev σ.t x) (ev σ.t y) fun kd n m => K (.int kd (if m < n then m else n)) σ.h σ.g := (rfl)

def natK (o : Option Nat) (K : Nat → Prop) : Prop := match o with | none => False | some n => K n
@[congr] theorem natK_congr {o o' : Option Nat} {K : Nat → Prop} (e : o = o') : natK o K = natK o' K := by rw [e]
@[simp] theorem natK_some {n : Nat} {K : Nat → Prop} : natK (some n) K = K n := (rfl)
def app2 (k sz : Nat) (σ : St) (u v : D) (K : D → List Ent → Nat → Prop) : Prop := match v with
  | .nil => opK.appK k sz σ u [] [] K
  | .list s ys => s = sz ∧ opK.appK k sz σ u ys [] K
  | .lit s ys => s = sz ∧ ((ys.map (keys 5)).flatten).Nodup ∧ opK.appK k sz σ u (ys.map (own σ.h 5)) ((ys.map (keys 5)).flatten) K
  | .arr j g => match find σ.h j g with
    | some (.arr s ys) => s = sz ∧ (∀ d ∈ ys, scal d = true) ∧ (match u with | .arr j' _ => j' ≠ j | _ => True) ∧ opK.appK k sz σ u ys [] K
    | _ => False
  | _ => False
@[congr] theorem app2_congr {sz : Nat} {u u' v v' : D} (e : σ = σ') (e1 : u = u') (e2 : v = v') : app2 k sz σ u v K = app2 k sz σ' u' v' K := by rw [e, e1, e2]
@[simp] theorem app2_nil {sz : Nat} {u : D} : app2 k sz σ u .nil K = opK.appK k sz σ u [] [] K := (rfl)
@[simp] theorem app2_list {sz s : Nat} {u : D} {ys : List D} : app2 k sz σ u (.list s ys) K = (s = sz ∧ opK.appK k sz σ u ys [] K) := (rfl)
@[simp] theorem app2_lit {sz s : Nat} {u : D} {ys : List D} : app2 k sz σ u (.lit s ys) K = (s = sz ∧ ((ys.map (keys 5)).flatten).Nodup ∧ opK.appK k sz σ u (ys.map (own σ.h 5)) ((ys.map (keys 5)).flatten) K) := (rfl)
@[simp] theorem app2_arr {sz j g : Nat} {u : D} : app2 k sz σ u (.arr j g) K = blkK (find σ.h j g) (fun _ => False) (fun s ys => s = sz ∧ (∀ d ∈ ys, scal d = true) ∧ (match u with | .arr j' _ => j' ≠ j | _ => True) ∧ opK.appK k sz σ u ys [] K) := by
  unfold app2 blkK
  simp only []
  cases find σ.h j g with
  | none => rfl
  | some b => cases b <;> rfl
@[congr] theorem appK_congr {sz : Nat} {u u' : D} {es es' : List D} {ks ks' : List Nat} (e : σ = σ') (e1 : u = u') (e2 : es = es') (e3 : ks = ks') : opK.appK k sz σ u es ks K = opK.appK k sz σ' u' es' ks' K := by rw [e, e1, e2, e3]
@[simp] theorem appK_nil {sz : Nat} {es : List D} {ks : List Nat} : opK.appK k sz σ .nil es ks K = (es.length ≤ big ∧ K (.arr k σ.g) (⟨k, σ.g, .arr sz es⟩ :: hdel (hdels σ.h ks) k) (σ.g + 1)) := (rfl)
@[simp] theorem appK_arr {sz j g : Nat} {es : List D} {ks : List Nat} : opK.appK k sz σ (.arr j g) es ks K = blkK (find σ.h j g) (fun _ => False) (fun s' xs => s' = sz ∧ j ∉ ks ∧ xs.length + es.length ≤ big ∧ K (.arr j σ.g) (hset (hdels σ.h ks) j σ.g (.arr sz (xs ++ es))) (σ.g + 1)) := by
  unfold opK.appK blkK
  simp only []
  cases find σ.h j g with
  | none => rfl
  | some b => cases b <;> rfl
@[simp] theorem opK_app {S : Nat} : opK tt k ⟨d, .app T2 S x y, T, gd, fl⟩ σ K = natK (esz tt T2) fun sz => S = T2 ∧ (ezero tt T2).isSome = true ∧ app2 k sz σ (ev σ.t x) (ev σ.t y) K := by
  show (match esz tt T2 with | none => False | some sz => _) = _
  unfold natK app2
  cases esz tt T2 with
  | none => rfl
  | some sz =>
    simp only []
    cases ev σ.t y <;> rfl

section
variable {op : BinOp} {uop : UnOp} {S f n : Nat} {ps : List (Nat × Opd)} {cs : List Opd} {lo hi : Option Opd}
@[simp] theorem opC_mv : opC C kb i ⟨d, .mv x, T, gd, fl⟩ σ K = opK C.tt (kb + 8 * d.getD 0) ⟨d, .mv x, T, gd, fl⟩ σ K := (rfl)
@[simp] theorem opC_pick : opC C kb i ⟨d, .pick z x y, T, gd, fl⟩ σ K = opK C.tt (kb + 8 * d.getD 0) ⟨d, .pick z x y, T, gd, fl⟩ σ K := (rfl)
@[simp] theorem opC_box : opC C kb i ⟨d, .box T2 x, T, gd, fl⟩ σ K = opK C.tt (kb + 8 * d.getD 0) ⟨d, .box T2 x, T, gd, fl⟩ σ K := (rfl)
@[simp] theorem opC_alloc : opC C kb i ⟨d, .alloc T2, T, gd, fl⟩ σ K = opK C.tt (kb + 8 * d.getD 0) ⟨d, .alloc T2, T, gd, fl⟩ σ K := (rfl)
@[simp] theorem opC_build : opC C kb i ⟨d, .build T2 ps, T, gd, fl⟩ σ K = opK C.tt (kb + 8 * d.getD 0) ⟨d, .build T2 ps, T, gd, fl⟩ σ K := (rfl)
@[simp] theorem opC_bslice : opC C kb i ⟨d, .bslice T2 n ps, T, gd, fl⟩ σ K = opK C.tt (kb + 8 * d.getD 0) ⟨d, .bslice T2 n ps, T, gd, fl⟩ σ K := (rfl)
@[simp] theorem opC_load : opC C kb i ⟨d, .load T2 x, T, gd, fl⟩ σ K = opK C.tt (kb + 8 * d.getD 0) ⟨d, .load T2 x, T, gd, fl⟩ σ K := (rfl)
@[simp] theorem opC_store : opC C kb i ⟨d, .store T2 x y, T, gd, fl⟩ σ K = opK C.tt (kb + 8 * d.getD 0) ⟨d, .store T2 x y, T, gd, fl⟩ σ K := (rfl)
@[simp] theorem opC_nilck : opC C kb i ⟨d, .nilck x, T, gd, fl⟩ σ K = opK C.tt (kb + 8 * d.getD 0) ⟨d, .nilck x, T, gd, fl⟩ σ K := (rfl)
@[simp] theorem opC_bin : opC C kb i ⟨d, .bin op T2 x y, T, gd, fl⟩ σ K = opK C.tt (kb + 8 * d.getD 0) ⟨d, .bin op T2 x y, T, gd, fl⟩ σ K := (rfl)
@[simp] theorem opC_un : opC C kb i ⟨d, .un uop x, T, gd, fl⟩ σ K = opK C.tt (kb + 8 * d.getD 0) ⟨d, .un uop x, T, gd, fl⟩ σ K := (rfl)
@[simp] theorem opC_conv : opC C kb i ⟨d, .conv S T2 x, T, gd, fl⟩ σ K = opK C.tt (kb + 8 * d.getD 0) ⟨d, .conv S T2 x, T, gd, fl⟩ σ K := (rfl)
@[simp] theorem opC_mkfn : opC C kb i ⟨d, .mkfn f cs, T, gd, fl⟩ σ K = opK C.tt (kb + 8 * d.getD 0) ⟨d, .mkfn f cs, T, gd, fl⟩ σ K := (rfl)
@[simp] theorem opC_make : opC C kb i ⟨d, .make T2 x y, T, gd, fl⟩ σ K = opK C.tt (kb + 8 * d.getD 0) ⟨d, .make T2 x y, T, gd, fl⟩ σ K := (rfl)
@[simp] theorem opC_slice : opC C kb i ⟨d, .slice T2 x lo hi, T, gd, fl⟩ σ K = opK C.tt (kb + 8 * d.getD 0) ⟨d, .slice T2 x lo hi, T, gd, fl⟩ σ K := (rfl)
@[simp] theorem opC_faddr : opC C kb i ⟨d, .faddr T2 x n, T, gd, fl⟩ σ K = opK C.tt (kb + 8 * d.getD 0) ⟨d, .faddr T2 x n, T, gd, fl⟩ σ K := (rfl)
@[simp] theorem opC_field : opC C kb i ⟨d, .field T2 x n, T, gd, fl⟩ σ K = opK C.tt (kb + 8 * d.getD 0) ⟨d, .field T2 x n, T, gd, fl⟩ σ K := (rfl)
@[simp] theorem opC_iaddr : opC C kb i ⟨d, .iaddr T2 x y, T, gd, fl⟩ σ K = opK C.tt (kb + 8 * d.getD 0) ⟨d, .iaddr T2 x y, T, gd, fl⟩ σ K := (rfl)
@[simp] theorem opC_index : opC C kb i ⟨d, .index T2 x y, T, gd, fl⟩ σ K = opK C.tt (kb + 8 * d.getD 0) ⟨d, .index T2 x y, T, gd, fl⟩ σ K := (rfl)
@[simp] theorem opC_ext : opC C kb i ⟨d, .ext x n, T, gd, fl⟩ σ K = opK C.tt (kb + 8 * d.getD 0) ⟨d, .ext x n, T, gd, fl⟩ σ K := (rfl)
@[simp] theorem opC_len : opC C kb i ⟨d, .len T2 x, T, gd, fl⟩ σ K = opK C.tt (kb + 8 * d.getD 0) ⟨d, .len T2 x, T, gd, fl⟩ σ K := (rfl)
@[simp] theorem opC_app : opC C kb i ⟨d, .app T2 S x y, T, gd, fl⟩ σ K = opK C.tt (kb + 8 * d.getD 0) ⟨d, .app T2 S x y, T, gd, fl⟩ σ K := (rfl)
@[simp] theorem opC_max : opC C kb i ⟨d, .max x y, T, gd, fl⟩ σ K = opK C.tt (kb + 8 * d.getD 0) ⟨d, .max x y, T, gd, fl⟩ σ K := (rfl)
@[simp] theorem opC_min : opC C kb i ⟨d, .min x y, T, gd, fl⟩ σ K = opK C.tt (kb + 8 * d.getD 0) ⟨d, .min x y, T, gd, fl⟩ σ K := (rfl)
@[simp] theorem opCc_mv : opCc C kb i ⟨d, .mv x, T, gd, fl⟩ σ K = opK C.tt (kb + 8 * d.getD 0) ⟨d, .mv x, T, gd, fl⟩ σ K := (rfl)
@[simp] theorem opCc_pick : opCc C kb i ⟨d, .pick z x y, T, gd, fl⟩ σ K = opK C.tt (kb + 8 * d.getD 0) ⟨d, .pick z x y, T, gd, fl⟩ σ K := (rfl)
@[simp] theorem opCc_box : opCc C kb i ⟨d, .box T2 x, T, gd, fl⟩ σ K = opK C.tt (kb + 8 * d.getD 0) ⟨d, .box T2 x, T, gd, fl⟩ σ K := (rfl)
@[simp] theorem opCc_alloc : opCc C kb i ⟨d, .alloc T2, T, gd, fl⟩ σ K = opK C.tt (kb + 8 * d.getD 0) ⟨d, .alloc T2, T, gd, fl⟩ σ K := (rfl)
@[simp] theorem opCc_build : opCc C kb i ⟨d, .build T2 ps, T, gd, fl⟩ σ K = opK C.tt (kb + 8 * d.getD 0) ⟨d, .build T2 ps, T, gd, fl⟩ σ K := (rfl)
@[simp] theorem opCc_bslice : opCc C kb i ⟨d, .bslice T2 n ps, T, gd, fl⟩ σ K = opK C.tt (kb + 8 * d.getD 0) ⟨d, .bslice T2 n ps, T, gd, fl⟩ σ K := (rfl)
@[simp] theorem opCc_load : opCc C kb i ⟨d, .load T2 x, T, gd, fl⟩ σ K = opK C.tt (kb + 8 * d.getD 0) ⟨d, .load T2 x, T, gd, fl⟩ σ K := (rfl)
@[simp] theorem opCc_store : opCc C kb i ⟨d, .store T2 x y, T, gd, fl⟩ σ K = opK C.tt (kb + 8 * d.getD 0) ⟨d, .store T2 x y, T, gd, fl⟩ σ K := (rfl)
@[simp] theorem opCc_nilck : opCc C kb i ⟨d, .nilck x, T, gd, fl⟩ σ K = opK C.tt (kb + 8 * d.getD 0) ⟨d, .nilck x, T, gd, fl⟩ σ K := (rfl)
@[simp] theorem opCc_bin : opCc C kb i ⟨d, .bin op T2 x y, T, gd, fl⟩ σ K = opK C.tt (kb + 8 * d.getD 0) ⟨d, .bin op T2 x y, T, gd, fl⟩ σ K := (rfl)
@[simp] theorem opCc_un : opCc C kb i ⟨d, .un uop x, T, gd, fl⟩ σ K = opK C.tt (kb + 8 * d.getD 0) ⟨d, .un uop x, T, gd, fl⟩ σ K := (rfl)
@[simp] theorem opCc_conv : opCc C kb i ⟨d, .conv S T2 x, T, gd, fl⟩ σ K = opK C.tt (kb + 8 * d.getD 0) ⟨d, .conv S T2 x, T, gd, fl⟩ σ K := (rfl)
@[simp] theorem opCc_mkfn : opCc C kb i ⟨d, .mkfn f cs, T, gd, fl⟩ σ K = opK C.tt (kb + 8 * d.getD 0) ⟨d, .mkfn f cs, T, gd, fl⟩ σ K := (rfl)
@[simp] theorem opCc_make : opCc C kb i ⟨d, .make T2 x y, T, gd, fl⟩ σ K = opK C.tt (kb + 8 * d.getD 0) ⟨d, .make T2 x y, T, gd, fl⟩ σ K := (rfl)
@[simp] theorem opCc_slice : opCc C kb i ⟨d, .slice T2 x lo hi, T, gd, fl⟩ σ K = opK C.tt (kb + 8 * d.getD 0) ⟨d, .slice T2 x lo hi, T, gd, fl⟩ σ K := (rfl)
@[simp] theorem opCc_faddr : opCc C kb i ⟨d, .faddr T2 x n, T, gd, fl⟩ σ K = opK C.tt (kb + 8 * d.getD 0) ⟨d, .faddr T2 x n, T, gd, fl⟩ σ K := (rfl)
@[simp] theorem opCc_field : opCc C kb i ⟨d, .field T2 x n, T, gd, fl⟩ σ K = opK C.tt (kb + 8 * d.getD 0) ⟨d, .field T2 x n, T, gd, fl⟩ σ K := (rfl)
@[simp] theorem opCc_iaddr : opCc C kb i ⟨d, .iaddr T2 x y, T, gd, fl⟩ σ K = opK C.tt (kb + 8 * d.getD 0) ⟨d, .iaddr T2 x y, T, gd, fl⟩ σ K := (rfl)
@[simp] theorem opCc_index : opCc C kb i ⟨d, .index T2 x y, T, gd, fl⟩ σ K = opK C.tt (kb + 8 * d.getD 0) ⟨d, .index T2 x y, T, gd, fl⟩ σ K := (rfl)
@[simp] theorem opCc_ext : opCc C kb i ⟨d, .ext x n, T, gd, fl⟩ σ K = opK C.tt (kb + 8 * d.getD 0) ⟨d, .ext x n, T, gd, fl⟩ σ K := (rfl)
@[simp] theorem opCc_len : opCc C kb i ⟨d, .len T2 x, T, gd, fl⟩ σ K = opK C.tt (kb + 8 * d.getD 0) ⟨d, .len T2 x, T, gd, fl⟩ σ K := (rfl)
@[simp] theorem opCc_app : opCc C kb i ⟨d, .app T2 S x y, T, gd, fl⟩ σ K = opK C.tt (kb + 8 * d.getD 0) ⟨d, .app T2 S x y, T, gd, fl⟩ σ K := (rfl)
@[simp] theorem opCc_max : opCc C kb i ⟨d, .max x y, T, gd, fl⟩ σ K = opK C.tt (kb + 8 * d.getD 0) ⟨d, .max x y, T, gd, fl⟩ σ K := (rfl)
@[simp] theorem opCc_min : opCc C kb i ⟨d, .min x y, T, gd, fl⟩ σ K = opK C.tt (kb + 8 * d.getD 0) ⟨d, .min x y, T, gd, fl⟩ σ K := (rfl)
end
end
end

-- ends

@[simp] theorem retQ_normal {tt : Nat → Ty} {fresh : Bool} {res : List RV} {R : D → List D → Prop} {σ : St} : retQ tt fresh res R false .normal σ = retK tt fresh res R [] σ := (rfl)
@[simp] theorem retQ_ret {tt : Nat → Ty} {fresh : Bool} {res : List RV} {R : D → List D → Prop} {σ : St} : retQ tt fresh res R false .ret σ = retK tt fresh res R [] σ := (rfl)
attribute [simp] retK resK resK1 resL endK esz elemT ezero Ty.isStruct Ty.flat Ty.known fitsT

@[simp] theorem ownedD_bool (b : Bool) : OwnedD (.bool b) ↔ True := ⟨fun _ => trivial, fun _ => .bool b⟩
@[simp] theorem ownedD_int (k : IntKind) (n : Int) : OwnedD (.int k n) ↔ True := ⟨fun _ => trivial, fun _ => .int k n⟩
@[simp] theorem ownedD_str (s : List UInt8) : OwnedD (.str s) ↔ True := ⟨fun _ => trivial, fun _ => .str s⟩
@[simp] theorem ownedD_olist (sz : Nat) (xs : List D) : OwnedD (.olist sz xs) ↔ ∀ x ∈ xs, OwnedD x := ⟨fun h => by cases h; assumption, .olist sz xs⟩
@[simp] theorem ownedD_agg (xs : List D) : OwnedD (.agg xs) ↔ ∀ x ∈ xs, OwnedD x := ⟨fun h => by cases h; assumption, .agg xs⟩
@[simp] theorem ownedD_tup (xs : List D) : OwnedD (.tup xs) ↔ ∀ x ∈ xs, OwnedD x := ⟨fun h => by cases h; assumption, .tup xs⟩

-- lists

abbrev I64 (n : Int) : D := .int .i64 n
def ints (xs : List Int) : List D := xs.map (D.int .i64)
/-- A list of whole numbers, never written again; owned. -/
abbrev IL (xs : List Int) : D := .list 1 (ints xs)
abbrev IO1 (xs : List Int) : D := .olist 1 (ints xs)
def rowsD (xs : List (List Int)) : List D := xs.map IL
def orowsD (xs : List (List Int)) : List D := xs.map IO1
abbrev RL (xs : List (List Int)) : D := .list 1 (rowsD xs)
abbrev RO (xs : List (List Int)) : D := .olist 1 (orowsD xs)

theorem getD_map {α : Type} [Inhabited α] {f : α → D} {xs : List α} {n : Nat} (h : n < xs.length) : (xs.map f).getD n .junk = f (xs.getD n default) := by
  simp [List.getD_eq_getElem?_getD, List.getElem?_eq_getElem h]

theorem idxK_map {α : Type} [Inhabited α] {f : α → D} {xs : List α} {n : Int} {K : D → Prop} : idxK (xs.map f) n K ↔ 0 ≤ n ∧ n < xs.length ∧ K (f (xs.getD n.toNat default)) := by
  unfold idxK
  rw [List.length_map]
  constructor
  · rintro ⟨h1, h2, h3⟩
    rw [getD_map (by omega)] at h3
    exact ⟨h1, h2, h3⟩
  · rintro ⟨h1, h2, h3⟩
    rw [getD_map (by omega)]
    exact ⟨h1, h2, h3⟩
/-- The number in a place of a list, the row in a place. -/
def gi (xs : List Int) (n : Nat) : Int := xs[n]?.getD 0
def gr (xs : List (List Int)) (n : Nat) : List Int := xs[n]?.getD []
theorem gi_getD {xs : List Int} {n : Nat} : xs.getD n default = gi xs n := by simp [gi, List.getD_eq_getElem?_getD]
theorem gr_getD {xs : List (List Int)} {n : Nat} : xs.getD n default = gr xs n := by simp [gr, List.getD_eq_getElem?_getD]; rfl
@[simp] theorem idxK_ints {xs : List Int} {n : Int} {K : D → Prop} : idxK (ints xs) n K ↔ 0 ≤ n ∧ n < xs.length ∧ K (.int .i64 (gi xs n.toNat)) := by rw [← gi_getD]; exact idxK_map
@[simp] theorem idxK_rows {xs : List (List Int)} {n : Int} {K : D → Prop} : idxK (rowsD xs) n K ↔ 0 ≤ n ∧ n < xs.length ∧ K (IL (gr xs n.toNat)) := by rw [← gr_getD]; exact idxK_map
@[simp] theorem scalK_ints {xs : List Int} {n : Nat} {K : D → Prop} : scalK (ints xs) n K ↔ n < xs.length ∧ K (.int .i64 (gi xs n)) := by
  rw [← gi_getD]
  unfold scalK ints
  rw [List.length_map]
  constructor
  · rintro ⟨h1, h2, h3⟩
    rw [getD_map (by omega)] at h3
    exact ⟨h1, h3⟩
  · rintro ⟨h1, h3⟩
    rw [getD_map (by omega)]
    exact ⟨h1, rfl, h3⟩
section
variable {xs ys : List Int} {n : Nat} {v : Int} {r s : List (List Int)}
@[simp] theorem ints_length : (ints xs).length = xs.length := by simp [ints]
@[simp] theorem rowsD_length : (rowsD r).length = r.length := by simp [rowsD]
@[simp] theorem orowsD_length : (orowsD r).length = r.length := by simp [orowsD]
@[simp] theorem ints_set : (ints xs).set n (.int .i64 v) = ints (xs.set n v) := by simp [ints, List.map_set]
@[simp] theorem ints_inj : ints xs = ints ys ↔ xs = ys := by
  constructor
  · intro h
    have := congrArg (List.map fun d => match d with | .int _ n => n | _ => 0) h
    simpa [ints, Function.comp_def] using this
  · rintro rfl; rfl
@[simp] theorem rowsD_inj : rowsD r = rowsD s ↔ r = s := by
  constructor
  · intro h
    have := congrArg (List.map fun d => match d with | D.list _ l => l.map (fun d => match d with | D.int _ n => n | _ => 0) | _ => []) h
    simpa [rowsD, ints, Function.comp_def] using this
  · rintro rfl; rfl
@[simp] theorem orowsD_inj : orowsD r = orowsD s ↔ r = s := by
  constructor
  · intro h
    have := congrArg (List.map fun d => match d with | D.olist _ l => l.map (fun d => match d with | D.int _ n => n | _ => 0) | _ => []) h
    simpa [orowsD, ints, Function.comp_def] using this
  · rintro rfl; rfl
@[simp] theorem ints_owned {d : D} (h : d ∈ ints xs) : OwnedD d := by
  obtain ⟨n, _, rfl⟩ := List.mem_map.1 h
  exact .int _ n
@[simp] theorem ints_owned' : (∀ d ∈ ints xs, OwnedD d) ↔ True := ⟨fun _ => trivial, fun _ d h => ints_owned h⟩
@[simp] theorem orowsD_owned' : (∀ d ∈ orowsD r, OwnedD d) ↔ True := ⟨fun _ => trivial, fun _ d h => by
  obtain ⟨n, _, rfl⟩ := List.mem_map.1 h
  simp⟩
@[simp] theorem ints_push : ints xs ++ [.int .i64 v] = ints (xs ++ [v]) := by simp [ints]
@[simp] theorem ints_append : ints xs ++ ints ys = ints (xs ++ ys) := by simp [ints]
@[simp] theorem orowsD_push : orowsD r ++ [.olist 1 (ints xs)] = orowsD (r ++ [xs]) := by simp [orowsD]
theorem orowsD_one : [D.olist 1 (ints xs)] = orowsD [xs] := by simp [orowsD]
theorem ints_one : [D.int .i64 v] = ints [v] := by simp [ints]
theorem ints_cons : D.int .i64 v :: ints xs = ints (v :: xs) := by simp [ints]
@[simp] theorem ints_replicate : List.replicate n (D.int .i64 v) = ints (List.replicate n v) := by simp [ints]
@[simp] theorem ints_take : (ints xs).take n = ints (xs.take n) := by simp [ints, List.map_take]
@[simp] theorem ints_drop : (ints xs).drop n = ints (xs.drop n) := by simp [ints, List.map_drop]
@[simp] theorem ints_imm : (ints xs).map (imm n) = ints xs := by cases n <;> simp [ints, Function.comp_def]
@[simp] theorem ints_scal : (∀ d ∈ ints xs, scal d = true) ↔ True := ⟨fun _ => trivial, fun _ d h => by
  obtain ⟨n, _, rfl⟩ := List.mem_map.1 h
  rfl⟩
@[simp] theorem rowsD_imm : (rowsD r).map (imm n) = rowsD r := by
  unfold rowsD
  rw [List.map_map]
  apply List.map_congr_left
  intro x _
  cases n <;> simp
theorem rowsD_get (h : n < r.length) : (rowsD r)[n]? = some (IL (r[n]?.getD default)) := by simp [rowsD, List.getElem?_eq_getElem h]
@[simp] theorem orowsD_imm : (orowsD r).map (imm (n + 1)) = rowsD r := by
  unfold orowsD rowsD
  rw [List.map_map]
  apply List.map_congr_left
  intro x _
  simp
theorem ints_nil : ints [] = [] := (rfl)
theorem rowsD_nil : rowsD [] = [] := (rfl)
@[simp] theorem nil_ints : ([] : List D) = ints xs ↔ [] = xs := by rw [← ints_nil, ints_inj]
@[simp] theorem nil_orows : ([] : List D) = orowsD r ↔ [] = r := by rw [show ([] : List D) = orowsD [] from rfl, orowsD_inj]
end

theorem list_ext0 {α : Type} [Inhabited α] {a b : List α} (hl : a.length = b.length) (h : ∀ j, j < a.length → a[j]?.getD default = b[j]?.getD default) : a = b := by
  apply List.ext_getElem hl
  intro i h1 h2
  have := h i h1
  simpa [List.getElem?_eq_getElem h1, List.getElem?_eq_getElem h2] using this

/-- The first 'i' copied, the others as made. -/
def fillL {α : Type} (z : α) (a : List α) (i : Nat) : List α := a.take i ++ List.replicate (a.length - i) z
section
variable {α : Type} {z : α} {a : List α} {i : Nat}
@[simp] theorem fillL_zero : fillL z a 0 = List.replicate a.length z := by simp [fillL]
theorem fillL_length (h : i ≤ a.length) : (fillL z a i).length = a.length := by simp [fillL]; omega
theorem fillL_set [Inhabited α] (h : i < a.length) : (fillL z a i).set i (a[i]?.getD default) = fillL z a (i + 1) := by
  apply List.ext_getElem?
  intro j
  unfold fillL
  rw [List.getElem?_set]
  by_cases hj : i = j
  · subst hj
    rw [if_pos rfl, if_pos (by simp; omega), List.getElem?_append_left (by simp; omega), List.getElem?_take, if_pos (by omega), List.getElem?_eq_getElem h]
    rfl
  · rw [if_neg hj]
    by_cases h1 : j < i
    · rw [List.getElem?_append_left (by simp; omega), List.getElem?_append_left (by simp; omega), List.getElem?_take, List.getElem?_take, if_pos h1, if_pos (by omega)]
    · rw [List.getElem?_append_right (by simp; omega), List.getElem?_append_right (by simp; omega)]
      simp only [List.length_take, List.getElem?_replicate]
      by_cases h2 : j < a.length
      · rw [if_pos (by omega), if_pos (by omega)]
      · rw [if_neg (by omega), if_neg (by omega)]
theorem fillL_setv {v : α} (hv : a[i]? = some v) : (fillL z a i).set i v = fillL z a (i + 1) := by
  have h := (List.getElem?_eq_some_iff.1 hv).1
  haveI : Inhabited α := ⟨v⟩
  have := fillL_set (z := z) h
  rw [hv] at this
  exact this
theorem fillL_all (h : a.length ≤ i) : fillL z a i = a := by simp [fillL, List.take_of_length_le h, Nat.sub_eq_zero_of_le h]
end

theorem gr_mem {a : List (List Int)} {i : Nat} (h : i < a.length) : gr a i ∈ a := by
  rw [gr, List.getElem?_eq_getElem h]; exact List.getElem_mem h
theorem gi_mem {a : List Int} {i : Nat} (h : i < a.length) : gi a i ∈ a := by
  rw [gi, List.getElem?_eq_getElem h]; exact List.getElem_mem h
theorem gi_ext {a b : List Int} (hl : a.length = b.length) (h : ∀ j, j < a.length → gi a j = gi b j) : a = b := list_ext0 hl h
theorem gr_ext {a b : List (List Int)} (hl : a.length = b.length) (h : ∀ j, j < a.length → gr a j = gr b j) : a = b := list_ext0 hl h
theorem gi_drop {a : List Int} {i : Nat} (h : i < a.length) : a.drop i = gi a i :: a.drop (i + 1) := by
  rw [List.drop_eq_getElem_cons h, gi, List.getElem?_eq_getElem h]; rfl
theorem gr_drop {a : List (List Int)} {i : Nat} (h : i < a.length) : a.drop i = gr a i :: a.drop (i + 1) := by
  rw [List.drop_eq_getElem_cons h, gr, List.getElem?_eq_getElem h]; rfl
theorem gr_get {r : List (List Int)} {n : Nat} (h : n < r.length) : (rowsD r)[n]? = some (IL (gr r n)) := rowsD_get h
theorem fillL_gi {a : List Int} {i : Nat} {z : Int} (h : i < a.length) : (fillL z a i).set i (gi a i) = fillL z a (i + 1) := fillL_set h
theorem fillL_gr {a : List (List Int)} {i : Nat} {z : D} (h : i < a.length) : (fillL z (rowsD a) i).set i (IL (gr a i)) = fillL z (rowsD a) (i + 1) := fillL_setv (gr_get h)

section
variable {C : Ctx} {kb id : Nat} {d : Option Nat} {i : Nat → List D → List Ent → Nat → (D → List Ent → Nat → Prop) → Prop} {caps args ds : List D} {σ : St} {as : List AOper} {Q : St → Prop} {v : D}
/-- A call by its contract. -/
theorem call0 (hp : PC C.P id ds none true (fun r _ => r = v)) (hd : (args ++ caps).map (der σ.h 5) = ds) (hk : opsK C kb i as ⟨put σ.t d (imm 5 v), σ.h, σ.g⟩ Q) : callO C kb i d 0 (.fn id caps) args σ as Q :=
  ⟨_, by rw [hd]; exact hp, fun r cs h => by rw [h]; exact hk⟩
theorem call1 (hp : PC C.P id ds none true (fun r _ => r = v)) (hd : (args ++ caps).map (der σ.h 5) = ds)
    (hk : opsK C kb i as ⟨put σ.t d (thaw 5 (kb + 8 * d.getD 0) σ.g v).1, (thaw 5 (kb + 8 * d.getD 0) σ.g v).2.1 ++ hdels σ.h ((thaw 5 (kb + 8 * d.getD 0) σ.g v).2.1.map Ent.k), (thaw 5 (kb + 8 * d.getD 0) σ.g v).2.2.2⟩ Q) : callO C kb i d 1 (.fn id caps) args σ as Q :=
  ⟨_, by rw [hd]; exact hp, fun r cs h => by rw [h]; exact hk⟩
theorem call2 (hp : PC C.P id ds none false (fun r _ => r = v)) (hd : (args ++ caps).map (derS 5) = ds) (hk : opsK C kb i as ⟨put σ.t d (imm 5 v), σ.h, σ.g⟩ Q) : callO C kb i d 2 (.fn id caps) args σ as Q :=
  ⟨_, by rw [hd]; exact hp, fun r cs h => by rw [h]; exact hk⟩
theorem callD0 (hp : PC C.P id ds none true (fun r _ => r = v)) (hd : (args ++ caps).map (der σ.h 5) = ds) (hk : opsKc C kb i as ⟨put σ.t d (imm 5 v), σ.h, σ.g⟩ Q) : callDO C kb i d 0 (.fn id caps) args σ as Q :=
  ⟨_, _, _, ⟨_, by rw [hd]; exact hp, fun r cs h => by rw [h]; exact ⟨rfl, rfl, rfl⟩⟩, .inr ⟨rfl, rfl⟩, hk⟩
theorem callD1 (hp : PC C.P id ds none true (fun r _ => r = v)) (hd : (args ++ caps).map (der σ.h 5) = ds)
    (hk : opsKc C kb i as ⟨put σ.t d (thaw 5 (kb + 8 * d.getD 0) σ.g v).1, (thaw 5 (kb + 8 * d.getD 0) σ.g v).2.1 ++ hdels σ.h ((thaw 5 (kb + 8 * d.getD 0) σ.g v).2.1.map Ent.k), (thaw 5 (kb + 8 * d.getD 0) σ.g v).2.2.2⟩ Q) : callDO C kb i d 1 (.fn id caps) args σ as Q :=
  ⟨_, _, _, ⟨_, by rw [hd]; exact hp, fun r cs h => by rw [h]; exact ⟨rfl, rfl, rfl⟩⟩, .inl rfl, hk⟩
theorem callD2 (hp : PC C.P id ds none false (fun r _ => r = v)) (hd : (args ++ caps).map (derS 5) = ds) (hk : opsKc C kb i as ⟨put σ.t d (imm 5 v), σ.h, σ.g⟩ Q) : callDO C kb i d 2 (.fn id caps) args σ as Q :=
  ⟨_, _, _, ⟨_, by rw [hd]; exact hp, fun r cs h => by rw [h]; exact ⟨rfl, rfl, rfl⟩⟩, .inr ⟨rfl, rfl⟩, hk⟩
end

/-- The turns of a loop that counts up. -/
def upQ (keep kh : List Nat) (N : Nat) (S : Nat → Nat → St) (P : Nat → Prop) (i : Nat) (Q : AExit → St → Prop) : AExit → St → Prop
  | .normal, σ => i < N ∧ P (i + 1) ∧ ∃ g, (⟨keepT keep σ.t, keepH kh σ.h, σ.g⟩ : St) = S (i + 1) g
  | e, σ => Q e σ
@[congr] theorem upQ_congr {keep kh : List Nat} {N : Nat} {S : Nat → Nat → St} {P : Nat → Prop} {i : Nat} {Q : AExit → St → Prop} {e e' : AExit} {σ σ' : St} (h : e = e') (h2 : σ = σ') : upQ keep kh N S P i Q e σ = upQ keep kh N S P i Q e' σ' := by rw [h, h2]
section
variable {keep kh : List Nat} {N : Nat} {S : Nat → Nat → St} {P : Nat → Prop} {i : Nat} {Q : AExit → St → Prop} {σ : St}
@[simp] theorem upQ_normal : upQ keep kh N S P i Q .normal σ = (i < N ∧ P (i + 1) ∧ ∃ g, (⟨keepT keep σ.t, keepH kh σ.h, σ.g⟩ : St) = S (i + 1) g) := (rfl)
@[simp] theorem upQ_ret : upQ keep kh N S P i Q .ret σ = Q .ret σ := (rfl)
@[simp] theorem upQ_exit {id : Nat} : upQ keep kh N S P i Q (.exit id) σ = Q (.exit id) σ := (rfl)
end

theorem loop_up {C : Ctx} {kb n : Nat} {keep kh : List Nat} {a : AC} {Q : AExit → St → Prop} {σ : St} (N : Nat) (S : Nat → Nat → St) (P : Nat → Prop) (g0 : Nat) (h0 : (⟨keepT keep σ.t, keepH kh σ.h, σ.g⟩ : St) = S 0 g0) (hP : P 0)
    (step : ∀ i g, i ≤ N → P i → run C kb (inl C n kb) a (upQ keep kh N S P i Q) (S i g)) : run C kb (inl C n kb) (.loop keep kh a) Q σ := by
  refine loop_inv (fun m σ => ∃ i g, m = N - i ∧ i ≤ N ∧ P i ∧ σ = S i g) N ⟨0, g0, rfl, Nat.zero_le _, hP, h0⟩ ?_
  rintro m σ ⟨i, g, rfl, hi, hp, rfl⟩
  refine run_mono' (fun e σ' hs => ?_) (step i g hi hp)
  cases e with
  | normal =>
    obtain ⟨h1, h2, g', h3⟩ := hs
    exact ⟨N - (i + 1), by omega, i + 1, g', rfl, h1, h2, h3⟩
  | exit id => exact hs
  | ret => exact hs

/-- The same where the turns carry something on. -/
def upxQ {α : Type} (keep kh : List Nat) (N : Nat) (S : Nat → α → Nat → St) (P : Nat → α → Prop) (i : Nat) (Q : AExit → St → Prop) : AExit → St → Prop
  | .normal, σ => i < N ∧ ∃ x g, (⟨keepT keep σ.t, keepH kh σ.h, σ.g⟩ : St) = S (i + 1) x g ∧ P (i + 1) x
  | e, σ => Q e σ
section
variable {α : Type} {keep kh : List Nat} {N : Nat} {S : Nat → α → Nat → St} {P : Nat → α → Prop} {i : Nat} {Q : AExit → St → Prop} {σ σ' : St}
@[congr] theorem upxQ_congr {e e' : AExit} (h : e = e') (h2 : σ = σ') : upxQ keep kh N S P i Q e σ = upxQ keep kh N S P i Q e' σ' := by rw [h, h2]
@[simp] theorem upxQ_normal : upxQ keep kh N S P i Q .normal σ = (i < N ∧ ∃ x g, (⟨keepT keep σ.t, keepH kh σ.h, σ.g⟩ : St) = S (i + 1) x g ∧ P (i + 1) x) := (rfl)
@[simp] theorem upxQ_ret : upxQ keep kh N S P i Q .ret σ = Q .ret σ := (rfl)
@[simp] theorem upxQ_exit {id : Nat} : upxQ keep kh N S P i Q (.exit id) σ = Q (.exit id) σ := (rfl)
end

theorem loop_upx {C : Ctx} {kb n : Nat} {keep kh : List Nat} {a : AC} {Q : AExit → St → Prop} {σ : St} {α : Type} (N : Nat) (S : Nat → α → Nat → St) (P : Nat → α → Prop) (x0 : α) (g0 : Nat) (h0 : (⟨keepT keep σ.t, keepH kh σ.h, σ.g⟩ : St) = S 0 x0 g0) (hP : P 0 x0)
    (step : ∀ i x g, i ≤ N → P i x → run C kb (inl C n kb) a (upxQ keep kh N S P i Q) (S i x g)) : run C kb (inl C n kb) (.loop keep kh a) Q σ := by
  refine loop_inv (fun m σ => ∃ i x g, m = N - i ∧ i ≤ N ∧ P i x ∧ σ = S i x g) N ⟨0, x0, g0, rfl, Nat.zero_le _, hP, h0⟩ ?_
  rintro m σ ⟨i, x, g, rfl, hi, hp, rfl⟩
  refine run_mono' (fun e σ' hs => ?_) (step i x g hi hp)
  cases e with
  | normal =>
    obtain ⟨h1, x', g', h3, h2⟩ := hs
    exact ⟨N - (i + 1), by omega, i + 1, x', g', rfl, h1, h2, h3⟩
  | exit id => exact hs
  | ret => exact hs

theorem wrap64 {n : Int} (h1 : -9223372036854775808 ≤ n) (h2 : n < 9223372036854775808) : IntKind.i64.wrap n = n := by
  unfold IntKind.wrap
  simp [IntKind.bits, IntKind.signed]
  omega

theorem wrap_succ {i N : Nat} (h : i ≤ N) (hN : N ≤ 1099511627776) : IntKind.i64.wrap ((i : Int) + 1) = (i : Int) + 1 := wrap64 (by omega) (by omega)


end Go.PS
