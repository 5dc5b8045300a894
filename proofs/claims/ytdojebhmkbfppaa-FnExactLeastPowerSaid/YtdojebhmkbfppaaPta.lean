/- Calls by tables of contracts; loops by the slots that change; regions with guards by what they come to. -/
import Derived.Test.YtdojebhmkbfppaaPsZ
set_option linter.unusedVariables false
set_option linter.unusedSimpArgs false
namespace Go.PS

/-- The contracts of one function, as a table: what it hands back for which arguments. -/
structure Fam (P : Program) where
  id : Nat
  fresh : Bool
  look : List D → Option D
  ok : ∀ ds v, look ds = some v → PC P id ds none fresh (fun r _ => r = v)

open Classical in
noncomputable def lookF {X : Type} (args : X → List D) (pre : X → Prop) (val : X → D) (ds : List D) : Option D :=
  if h : ∃ x, pre x ∧ args x = ds then some (val (Classical.choose h)) else none

theorem lookF_of {X : Type} {args : X → List D} {pre : X → Prop} {val : X → D} (inj : ∀ x y, args x = args y → val x = val y) (x : X) (h : pre x) : lookF args pre val (args x) = some (val x) := by
  unfold lookF
  have h1 : ∃ y, pre y ∧ args y = args x := ⟨x, h, rfl⟩
  rw [dif_pos h1]
  exact congrArg some (inj _ _ (Classical.choose_spec h1).2)

noncomputable def mkFam {P : Program} {X : Type} (id : Nat) (fresh : Bool) (args : X → List D) (pre : X → Prop) (val : X → D) (ok : ∀ x, pre x → PC P id (args x) none fresh (fun r _ => r = val x)) : Fam P where
  id := id
  fresh := fresh
  look := lookF args pre val
  ok := by
    intro ds v h
    unfold lookF at h
    split at h
    · rename_i hx
      have hs := Classical.choose_spec hx
      injection h with h
      generalize Classical.choose hx = y at hs h
      obtain ⟨hp, rfl⟩ := hs
      rw [← h]
      exact ok y hp
    · cases h

/-- A table for one proof: what it is made of is not looked into. -/
theorem famE {P : Program} {X : Type} (id : Nat) (fresh : Bool) (args : X → List D) (pre : X → Prop) (val : X → D) (inj : ∀ x y, args x = args y → val x = val y) (ok : ∀ x, pre x → PC P id (args x) none fresh (fun r _ => r = val x)) :
    ∃ fm : Fam P, fm.id = id ∧ fm.fresh = fresh ∧ ∀ x, pre x → fm.look (args x) = some (val x) :=
  ⟨mkFam id fresh args pre val ok, rfl, rfl, fun x h => lookF_of inj x h⟩

def findF {P : Program} (id : Nat) : List (Fam P) → Option (Fam P)
  | [] => none
  | f :: l => if f.id = id then some f else findF id l

theorem findF_id {P : Program} {id : Nat} : ∀ {l : List (Fam P)} {f : Fam P}, findF id l = some f → f.id = id
  | [], f, h => by cases h
  | f' :: l, f, h => by
    simp only [findF] at h
    split at h
    · injection h with h; rw [← h]; assumption
    · exact findF_id h

def dmode : Bool → List Ent → D → D
  | true, h => der h 5
  | false, _ => derS 5
@[simp] theorem dmode_true {h : List Ent} : dmode true h = der h 5 := by funext d; rfl
@[simp] theorem dmode_false {h : List Ent} : dmode false h = derS 5 := by funext d; rfl

def tabK {P : Program} (T : List (Fam P)) (id : Nat) (ds : List D) (h : List Ent) (g : Nat) (K : D → List Ent → Nat → Prop) : Prop :=
  match findF id T with
  | none => False
  | some f => ∃ v, f.look (ds.map (dmode f.fresh h)) = some v ∧ K (imm 5 v) h g

theorem tabK_mono {P : Program} (T : List (Fam P)) : InlMono (tabK T) := by
  intro f ds h g K K' hm hk
  unfold tabK at hk ⊢
  split at hk
  · exact hk.elim
  · obtain ⟨v, h1, h2⟩ := hk
    exact ⟨v, h1, hm _ _ _ h2⟩

theorem tabK_ok {C : Ctx} (T : List (Fam C.P)) : InlOk C (tabK T) := by
  intro id ds h G K hk
  unfold tabK at hk
  split at hk
  · exact hk.elim
  · rename_i f hf
    obtain ⟨v, hl, hk⟩ := hk
    have hid : f.id = id := findF_id hf
    have hpc := f.ok _ _ hl
    rw [hid] at hpc
    refine ⟨hpc.1, fun w0 Fo B w μ own vs I hlen hr => ?_⟩
    cases hfr : f.fresh with
    | true =>
      rw [hfr] at hpc
      have hder : ∀ (i : Nat) (d : D) (v : Value), (ds.map (der h 5))[i]? = some d → vs[i]? = some v → Rep w (fun _ => False) d v := by
        intro i d v hd hv
        obtain ⟨e, he, rfl⟩ := getElem?_map_some hd
        exact VRep.der I.hok 5 e v (hr i e v he hv)
      exact pc_plain I (F := fun _ => False) (fun _ h => h.elim) (fun h => by cases h) hpc (by simpa using hlen) hder (fun r cs e => by rw [e]; exact hk)
    | false =>
      rw [hfr] at hpc
      have hders : ∀ (i : Nat) (d : D) (v : Value), (ds.map (derS 5))[i]? = some d → vs[i]? = some v → Rep w (FF own Fo) d v := by
        intro i d v hd hv
        obtain ⟨e, he, rfl⟩ := getElem?_map_some hd
        exact (hr i e v he hv).derS 5
      exact pc_plain I (F := FF own Fo) I.blk (fun _ _ h => h) hpc (by simpa using hlen) hders (fun r cs e => by rw [e]; exact hk)

def lookK (o : Option D) (K : D → Prop) : Prop := match o with
  | some v => K v
  | none => False
@[congr] theorem lookK_congr {o o' : Option D} {K : D → Prop} (h : o = o') : lookK o K = lookK o' K := by rw [h]
@[simp] theorem lookK_some {v : D} {K : D → Prop} : lookK (some v) K = K v := (rfl)
/-- A call by the table. -/
def tab2 {P : Program} (o : Option (Fam P)) (ds : List D) (h : List Ent) (K : D → Prop) : Prop := match o with
  | some f => lookK (f.look (ds.map (dmode f.fresh h))) K
  | none => False
@[congr] theorem tab2_congr {P : Program} {o o' : Option (Fam P)} {ds ds' : List D} {h h' : List Ent} {K : D → Prop} (e : o = o') (e2 : ds = ds') (e3 : h = h') : tab2 o ds h K = tab2 o' ds' h' K := by rw [e, e2, e3]
@[simp] theorem tab2_some {P : Program} {f : Fam P} {ds : List D} {h : List Ent} {K : D → Prop} : tab2 (some f) ds h K = lookK (f.look (ds.map (dmode f.fresh h))) K := (rfl)
@[simp] theorem findF_cons {P : Program} {f : Fam P} {l : List (Fam P)} {id : Nat} : findF id (f :: l) = if f.id = id then some f else findF id l := (rfl)

theorem lookK_ex {o : Option D} {K : D → Prop} : lookK o K ↔ ∃ v, o = some v ∧ K v := by
  cases o with
  | none => exact ⟨fun h => h.elim, fun ⟨_, h, _⟩ => by cases h⟩
  | some v => exact ⟨fun h => ⟨v, rfl, h⟩, fun ⟨_, h, hk⟩ => by injection h with h; subst h; exact hk⟩

section
variable {C : Ctx} {kb : Nat} {σ : St} {Q : AExit → St → Prop}

/-- What follows a call. -/
def putK (C : Ctx) (kb : Nat) (i : Nat → List D → List Ent → Nat → (D → List Ent → Nat → Prop) → Prop) (d : Option Nat) (σ : St) (as : List AOper) (Q : St → Prop) (v : D) : Prop := opsK C kb i as ⟨put σ.t d (imm 5 v), σ.h, σ.g⟩ Q
def putKc (C : Ctx) (kb : Nat) (i : Nat → List D → List Ent → Nat → (D → List Ent → Nat → Prop) → Prop) (d : Option Nat) (σ : St) (as : List AOper) (Q : St → Prop) (v : D) : Prop := opsKc C kb i as ⟨put σ.t d (imm 5 v), σ.h, σ.g⟩ Q
@[simp] theorem putK_app {i : Nat → List D → List Ent → Nat → (D → List Ent → Nat → Prop) → Prop} {d : Option Nat} {as : List AOper} {Q : St → Prop} {v : D} : putK C kb i d σ as Q v = opsK C kb i as ⟨put σ.t d (imm 5 v), σ.h, σ.g⟩ Q := (rfl)
@[simp] theorem putKc_app {i : Nat → List D → List Ent → Nat → (D → List Ent → Nat → Prop) → Prop} {d : Option Nat} {as : List AOper} {Q : St → Prop} {v : D} : putKc C kb i d σ as Q v = opsKc C kb i as ⟨put σ.t d (imm 5 v), σ.h, σ.g⟩ Q := (rfl)

@[simp] theorem callO3 {P : Program} {T : List (Fam P)} {id : Nat} {caps args : List D} {d : Option Nat} {as : List AOper} {Q : St → Prop} :
    callO C kb (tabK T) d 3 (.fn id caps) args σ as Q = tab2 (findF id T) (args ++ caps) σ.h (putK C kb (tabK T) d σ as Q) := by
  apply propext
  show (∃ v, tabK T id (args ++ caps) σ.h σ.g (fun d h g => d = v ∧ h = σ.h ∧ g = σ.g) ∧ opsK C kb (tabK T) as ⟨put σ.t d v, σ.h, σ.g⟩ Q) ↔ _
  unfold tabK tab2
  cases findF id T with
  | none => exact ⟨fun ⟨_, h, _⟩ => h.elim, fun h => h.elim⟩
  | some f =>
    simp only [lookK_ex]
    constructor
    · rintro ⟨v, ⟨u, h1, h2, _, _⟩, h3⟩
      subst h2
      exact ⟨u, h1, h3⟩
    · rintro ⟨u, h1, h3⟩
      exact ⟨_, ⟨u, h1, rfl, trivial, trivial⟩, h3⟩

@[simp] theorem callDO3 {P : Program} {T : List (Fam P)} {id : Nat} {caps args : List D} {d : Option Nat} {as : List AOper} {Q : St → Prop} :
    callDO C kb (tabK T) d 3 (.fn id caps) args σ as Q = tab2 (findF id T) (args ++ caps) σ.h (putKc C kb (tabK T) d σ as Q) := by
  apply propext
  show (∃ d1 h1 g1, (∃ v, tabK T id (args ++ caps) σ.h σ.g (fun d h g => d = v ∧ h = σ.h ∧ g = σ.g) ∧ (v = d1 ∧ σ.h = h1 ∧ σ.g = g1)) ∧ _ ∧ opsKc C kb (tabK T) as ⟨put σ.t d d1, h1, g1⟩ Q) ↔ _
  unfold tabK tab2
  cases findF id T with
  | none => exact ⟨fun ⟨_, _, _, ⟨_, h, _⟩, _⟩ => h.elim, fun h => h.elim⟩
  | some f =>
    simp only [lookK_ex]
    constructor
    · rintro ⟨d1, h1, g1, ⟨v, ⟨u, q1, q2, _, _⟩, rfl, rfl, rfl⟩, _, h3⟩
      subst q2
      exact ⟨u, q1, h3⟩
    · rintro ⟨u, q1, h3⟩
      exact ⟨_, _, _, ⟨_, ⟨u, q1, rfl, trivial, trivial⟩, rfl, rfl, rfl⟩, .inr ⟨rfl, rfl⟩, h3⟩

-- slots that change

def lookD : List (Nat × D) → Nat → D → D
  | [], _, v => v
  | (j, u) :: ws, k, v => if j = k then u else lookD ws k v
def updL (ws : List (Nat × D)) : List (Nat × D) → List (Nat × D)
  | [] => []
  | (k, v) :: t => (k, lookD ws k v) :: updL ws t
@[simp] theorem lookD_nil {k : Nat} {v : D} : lookD [] k v = v := (rfl)
@[simp] theorem lookD_cons {ws : List (Nat × D)} {j k : Nat} {u v : D} : lookD ((j, u) :: ws) k v = if j = k then u else lookD ws k v := (rfl)
@[simp] theorem updL_nil {ws : List (Nat × D)} : updL ws [] = [] := (rfl)
@[simp] theorem updL_cons {ws t : List (Nat × D)} {k : Nat} {v : D} : updL ws ((k, v) :: t) = (k, lookD ws k v) :: updL ws t := (rfl)

variable {inlK : Nat → List D → List Ent → Nat → (D → List Ent → Nat → Prop) → Prop}

/-- A region with guards: not gone into by itself. -/
def gops (l : List AOper) : List AOper := l
def cutQ (ks : List Nat) (ws : List (Nat × D)) (σ σ' : St) : Prop := keepT ks σ'.t = updL ws (keepT ks σ.t) ∧ σ'.h = σ.h ∧ σ'.g = σ.g
@[simp] theorem cutQ_app {ks : List Nat} {ws : List (Nat × D)} {σ σ' : St} : cutQ ks ws σ σ' = (keepT ks σ'.t = updL ws (keepT ks σ.t) ∧ σ'.h = σ.h ∧ σ'.g = σ.g) := (rfl)

/-- A region by what it comes to. -/
theorem cutW (hm : InlMono inlK) {ops : List AOper} {ks : List Nat} (ws : List (Nat × D)) (h1 : opsK C kb inlK ops σ (cutQ ks ws σ)) (h2 : Q .normal ⟨updL ws (keepT ks σ.t), σ.h, σ.g⟩) : opsK C kb inlK (gops ops) σ (regQ ks Q) := by
  refine opsK_mono hm ops (fun σ' h => ?_) h1
  obtain ⟨e1, e2, e3⟩ := h
  show Q .normal ⟨keepT ks σ'.t, σ'.h, σ'.g⟩
  rw [e1, e2, e3]; exact h2
theorem cutWc (hm : InlMono inlK) {ops : List AOper} {ks : List Nat} (ws : List (Nat × D)) (h1 : opsKc C kb inlK ops σ (cutQ ks ws σ)) (h2 : Q .normal ⟨updL ws (keepT ks σ.t), σ.h, σ.g⟩) : opsKc C kb inlK (gops ops) σ (regQ ks Q) := by
  refine opsKc_mono ops (fun σ' h => ?_) h1
  obtain ⟨e1, e2, e3⟩ := h
  show Q .normal ⟨keepT ks σ'.t, σ'.h, σ'.g⟩
  rw [e1, e2, e3]; exact h2

/-- A loop by what holds at its head, 'm' turns before its end at most. -/
theorem loop_invM (hi : InlMono inlK) {keep kh : List Nat} {a : AC} (I : Nat → St → Prop) (m0 : Nat) (h0 : I m0 ⟨keepT keep σ.t, keepH kh σ.h, σ.g⟩)
    (step : ∀ m σ, I m σ → run C kb inlK a (fun e σ' => match e with
      | .normal => ∃ m', m' < m ∧ I m' ⟨keepT keep σ'.t, keepH kh σ'.h, σ'.g⟩
      | e => Q e σ') σ) : run C kb inlK (.loop keep kh a) Q σ := by
  have key : ∀ m σ, I m ⟨keepT keep σ.t, keepH kh σ.h, σ.g⟩ → iter (run C kb inlK a) keep kh Q (m + 1) σ := by
    intro m
    induction m using Nat.strongRecOn with
    | _ m ih =>
      intro σ hI
      simp only [iter]
      refine run_mono hi a _ _ _ (fun e σ' hs => ?_) (step m _ hI)
      cases e with
      | normal =>
        obtain ⟨m', hm, hI'⟩ := hs
        have h1 := ih m' hm σ' hI'
        have more : ∀ k k' σ, k ≤ k' → iter (run C kb inlK a) keep kh Q k σ → iter (run C kb inlK a) keep kh Q k' σ := by
          intro k
          induction k with
          | zero => intro k' σ _ h; exact h.elim
          | succ k ihk =>
            intro k' σ hle h
            cases k' with
            | zero => omega
            | succ k' =>
              simp only [iter] at h ⊢
              exact run_mono hi a _ _ _ (thenQ_mono (fun σ hs => ihk k' σ (by omega) hs) (fun _ _ h => h)) h
        exact more _ _ σ' (by omega) h1
      | exit id => exact hs
      | ret => exact hs
  exact ⟨m0 + 1, key m0 σ h0⟩

/-- The turns of a loop: which slots change ('W'), what the run's own is ('H'), what holds ('P'). -/
def wQ {α : Type} (keep kh : List Nat) (T : List (Nat × D)) (N : Nat) (W : Nat → α → List (Nat × D)) (H : Nat → α → List Ent) (P : Nat → α → Prop) (i : Nat) (Q : AExit → St → Prop) : AExit → St → Prop
  | .normal, σ => i < N ∧ ∃ x, (keepT keep σ.t = updL (W (i + 1) x) T ∧ keepH kh σ.h = H (i + 1) x) ∧ P (i + 1) x
  | e, σ => Q e σ
section
variable {α : Type} {keep kh : List Nat} {T : List (Nat × D)} {N : Nat} {W : Nat → α → List (Nat × D)} {H : Nat → α → List Ent} {P : Nat → α → Prop} {i : Nat}
@[congr] theorem wQ_congr {e e' : AExit} {σ σ' : St} (h : e = e') (h2 : σ = σ') : wQ keep kh T N W H P i Q e σ = wQ keep kh T N W H P i Q e' σ' := by rw [h, h2]
@[simp] theorem wQ_normal : wQ keep kh T N W H P i Q .normal σ = (i < N ∧ ∃ x, (keepT keep σ.t = updL (W (i + 1) x) T ∧ keepH kh σ.h = H (i + 1) x) ∧ P (i + 1) x) := (rfl)
@[simp] theorem wQ_ret : wQ keep kh T N W H P i Q .ret σ = Q .ret σ := (rfl)
@[simp] theorem wQ_exit {id : Nat} : wQ keep kh T N W H P i Q (.exit id) σ = Q (.exit id) σ := (rfl)

theorem loopX (hi : InlMono inlK) {a : AC} (N : Nat) (W : Nat → α → List (Nat × D)) (H : Nat → α → List Ent) (P : Nat → α → Prop) (x0 : α)
    (h0 : keepT keep σ.t = updL (W 0 x0) (keepT keep σ.t)) (hH : keepH kh σ.h = H 0 x0) (hP : P 0 x0)
    (step : ∀ i x g, i ≤ N → P i x → run C kb inlK a (wQ keep kh (keepT keep σ.t) N W H P i Q) ⟨updL (W i x) (keepT keep σ.t), H i x, g⟩) : run C kb inlK (.loop keep kh a) Q σ := by
  refine loop_invM hi (fun m σ' => ∃ i x g, m = N - i ∧ i ≤ N ∧ P i x ∧ σ' = ⟨updL (W i x) (keepT keep σ.t), H i x, g⟩) N ⟨0, x0, σ.g, rfl, Nat.zero_le _, hP, ?_⟩ ?_
  · rw [← h0, ← hH]
  · rintro m σ' ⟨i, x, g, rfl, hi', hp, rfl⟩
    refine run_mono hi a _ _ _ (fun e σ' hs => ?_) (step i x g hi' hp)
    cases e with
    | normal =>
      obtain ⟨h1, x', ⟨h2, h3⟩, h4⟩ := hs
      exact ⟨N - (i + 1), by omega, i + 1, x', σ'.g, rfl, h1, h4, by rw [h2, h3]⟩
    | exit id => exact hs
    | ret => exact hs
end

/-- The same where nothing is carried on but by the count. -/
def vQ (keep kh : List Nat) (T : List (Nat × D)) (N : Nat) (W : Nat → List (Nat × D)) (H : Nat → List Ent) (P : Nat → Prop) (i : Nat) (Q : AExit → St → Prop) : AExit → St → Prop
  | .normal, σ => i < N ∧ (keepT keep σ.t = updL (W (i + 1)) T ∧ keepH kh σ.h = H (i + 1)) ∧ P i
  | e, σ => Q e σ
section
variable {keep kh : List Nat} {T : List (Nat × D)} {N : Nat} {W : Nat → List (Nat × D)} {H : Nat → List Ent} {P : Nat → Prop} {i : Nat}
@[congr] theorem vQ_congr {e e' : AExit} {σ σ' : St} (h : e = e') (h2 : σ = σ') : vQ keep kh T N W H P i Q e σ = vQ keep kh T N W H P i Q e' σ' := by rw [h, h2]
@[simp] theorem vQ_normal : vQ keep kh T N W H P i Q .normal σ = (i < N ∧ (keepT keep σ.t = updL (W (i + 1)) T ∧ keepH kh σ.h = H (i + 1)) ∧ P i) := (rfl)
@[simp] theorem vQ_ret : vQ keep kh T N W H P i Q .ret σ = Q .ret σ := (rfl)
@[simp] theorem vQ_exit {id : Nat} : vQ keep kh T N W H P i Q (.exit id) σ = Q (.exit id) σ := (rfl)

/-- A loop in which 'P i' holds after turn 'i', or it ends there. -/
theorem loopA (hi : InlMono inlK) {a : AC} (N : Nat) (W : Nat → List (Nat × D)) (H : Nat → List Ent) (P : Nat → Prop)
    (h0 : keepT keep σ.t = updL (W 0) (keepT keep σ.t)) (hH : keepH kh σ.h = H 0)
    (step : ∀ i g, i ≤ N → (∀ j, j < i → P j) → run C kb inlK a (vQ keep kh (keepT keep σ.t) N W H P i Q) ⟨updL (W i) (keepT keep σ.t), H i, g⟩) : run C kb inlK (.loop keep kh a) Q σ := by
  refine loopX (α := Unit) hi N (fun i _ => W i) (fun i _ => H i) (fun i _ => ∀ j, j < i → P j) () h0 hH (fun j hj => absurd hj (Nat.not_lt_zero j)) (fun i x g hi' hp => ?_)
  refine run_mono hi a _ _ _ (fun e σ' hs => ?_) (step i g hi' hp)
  cases e with
  | normal =>
    obtain ⟨h1, h2, h3⟩ := hs
    refine ⟨h1, (), h2, fun j hj => ?_⟩
    rcases Nat.lt_or_ge j i with q | q
    · exact hp j q
    · obtain rfl : j = i := by omega
      exact h3
  | exit id => exact hs
  | ret => exact hs
end
end
-- long regions in parts: between two parts only the slots that are read later are kept

/-- The slots that are read before they are written. -/
def liveS : List AOper → List Nat → List Nat
  | [], ks => ks
  | a :: as, ks => rd a ++ (liveS as ks).filter fun n => a.d != some n
def segOk (ks : List Nat) (rest : List AOper) (KS : List Nat) : Bool := (liveS rest KS).all fun n => ks.contains n
/-- The first part of a region, the slots kept after it, the rest. -/
def seg (ks : List Nat) (as rest : List AOper) (KS : List Nat) (_ : segOk ks rest KS = true) : List AOper := as ++ rest

theorem getT_keep {ks : List Nat} {t : List (Nat × D)} {n : Nat} (h : n ∈ ks) : getT (keepT ks t) n = getT t n := by
  induction ks with
  | nil => cases h
  | cons k ks ih =>
    show getT ((k, getT t k) :: keepT ks t) n = _
    simp only [getT]
    by_cases hk : k = n
    · rw [if_pos hk, hk]
    · rw [if_neg hk]
      exact ih ((List.mem_cons.1 h).resolve_left (fun e => hk e.symm))

theorem keepT_agree {ks : List Nat} {t t' : List (Nat × D)} (h : ∀ n ∈ ks, getT t n = getT t' n) : keepT ks t = keepT ks t' := by
  unfold keepT
  exact List.map_congr_left (fun n hn => by rw [h n hn])

/-- What follows depends on these slots alone. -/
def QDep (ks : List Nat) (Q : St → Prop) : Prop := ∀ t t' h g, (∀ n ∈ ks, getT t n = getT t' n) → Q ⟨t, h, g⟩ → Q ⟨t', h, g⟩
theorem regQ_dep {ks : List Nat} {Q : AExit → St → Prop} : QDep ks (regQ ks Q) := fun t t' h g hh hq => by
  show Q .normal ⟨keepT ks t', h, g⟩
  rw [← keepT_agree hh]; exact hq
theorem cutQ_dep {ks : List Nat} {ws : List (Nat × D)} {σ : St} : QDep ks (cutQ ks ws σ) := fun t t' h g hh hq => by
  obtain ⟨h1, h2, h3⟩ := hq
  exact ⟨(keepT_agree hh).symm.trans h1, h2, h3⟩

theorem agree_put {as : List AOper} {a : AOper} {ks : List Nat} {t t' : List (Nat × D)} {v : D} (hh : ∀ n ∈ liveS (a :: as) ks, getT t n = getT t' n) : ∀ n ∈ liveS as ks, getT (put t a.d v) n = getT (put t' a.d v) n := by
  intro n hn
  rw [getT_put, getT_put]
  split
  · rfl
  · rename_i hd
    refine hh n ?_
    simp only [liveS, List.mem_append, List.mem_filter]
    exact .inr ⟨hn, by simpa using hd⟩

theorem agree_cons {ks : List Nat} {t t' : List (Nat × D)} {j : Nat} {d : D} (hh : ∀ n ∈ ks, getT t n = getT t' n) : ∀ n ∈ ks, getT ((j, d) :: t) n = getT ((j, d) :: t') n := by
  intro n hn
  simp only [getT]
  split
  · rfl
  · exact hh n hn

theorem rd_op {a : AOper} {n : Nat} (h : n ∈ aopT a.o) : n ∈ rd a := List.mem_append.2 (.inl h)

section
variable {C : Ctx} {kb : Nat} {i : Nat → List D → List Ent → Nat → (D → List Ent → Nat → Prop) → Prop} {ks : List Nat} {Q : St → Prop}

theorem opsK_agree (hm : InlMono i) (hq : QDep ks Q) : ∀ (as : List AOper) (t t' : List (Nat × D)) (h : List Ent) (g : Nat), (∀ n ∈ liveS as ks, getT t n = getT t' n) → opsK C kb i as ⟨t, h, g⟩ Q → opsK C kb i as ⟨t', h, g⟩ Q
  | [], t, t', h, g, hh, hk => hq t t' h g hh hk
  | a :: as, t, t', h, g, hh, hk => by
    have go : ∀ u u', (∀ n ∈ liveS (a :: as) ks, getT u n = getT u' n) → (opC C kb i a ⟨u, h, g⟩ fun d h g => opsK C kb i as ⟨put u a.d d, h, g⟩ Q) → (opC C kb i a ⟨u', h, g⟩ fun d h g => opsK C kb i as ⟨put u' a.d d, h, g⟩ Q) := by
      intro u u' hu hk
      have h1 := opC_congr (t' := u') (fun n hn => hu n (List.mem_append.2 (.inl (rd_op hn)))) hk
      exact opC_mono hm (fun d h' g' hr => opsK_agree hm hq as _ _ _ _ (agree_put hu) hr) h1
    have sk : ∀ u u', (∀ n ∈ liveS (a :: as) ks, getT u n = getT u' n) → opsK C kb i as ⟨put u a.d .undef, h, g⟩ Q → opsK C kb i as ⟨put u' a.d .undef, h, g⟩ Q := fun u u' hu hk => opsK_agree hm hq as _ _ _ _ (agree_put hu) hk
    simp only [opsK, guardK] at hk ⊢
    split at hk
    · exact go _ _ hh hk
    · rename_i j w hgd
      have hj : getT t j = getT t' j := hh j (List.mem_append.2 (.inl (List.mem_append.2 (.inr (by rw [hgd]; simp [gdT])))))
      rw [← hj]
      split at hk
      · exact ⟨fun e => go _ _ (agree_cons hh) (hk.1 e), fun e => sk _ _ (agree_cons hh) (hk.2 e)⟩
      · exact sk _ _ hh hk
      · exact hk.elim

theorem opsKc_agree (hq : QDep ks Q) : ∀ (as : List AOper) (t t' : List (Nat × D)) (h : List Ent) (g : Nat), (∀ n ∈ liveS as ks, getT t n = getT t' n) → opsKc C kb i as ⟨t, h, g⟩ Q → opsKc C kb i as ⟨t', h, g⟩ Q
  | [], t, t', h, g, hh, hk => hq t t' h g hh hk
  | a :: as, t, t', h, g, hh, hk => by
    have go : ∀ u u', (∀ n ∈ liveS (a :: as) ks, getT u n = getT u' n) → (match callOf a.o with
        | some (f, args) => callD C (kb + 8 * a.d.getD 0) i a.fl (ev u f) (evL u args) ⟨u, h, g⟩ fun d h g => opsKc C kb i as ⟨put u a.d d, h, g⟩ Q
        | none => opK C.tt (kb + 8 * a.d.getD 0) a ⟨u, h, g⟩ fun d h g => opsKc C kb i as ⟨put u a.d d, h, g⟩ Q) → (match callOf a.o with
        | some (f, args) => callD C (kb + 8 * a.d.getD 0) i a.fl (ev u' f) (evL u' args) ⟨u', h, g⟩ fun d h g => opsKc C kb i as ⟨put u' a.d d, h, g⟩ Q
        | none => opK C.tt (kb + 8 * a.d.getD 0) a ⟨u', h, g⟩ fun d h g => opsKc C kb i as ⟨put u' a.d d, h, g⟩ Q) := by
      intro u u' hu hk
      split at hk
      · rename_i f args hao
        have hao := callOf_some hao
        have e1 : ev u f = ev u' f := ev_congr (fun n hn => hu n (List.mem_append.2 (.inl (rd_op (by rw [hao]; exact List.mem_append.2 (.inl hn))))))
        have e2 : evL u args = evL u' args := evL_congr (fun n hn => hu n (List.mem_append.2 (.inl (rd_op (by rw [hao]; exact List.mem_append.2 (.inr hn))))))
        obtain ⟨d, h', g', h1, h2, h3⟩ := hk
        rw [e1, e2] at h1
        exact ⟨d, h', g', h1, h2, opsKc_agree hq as _ _ _ _ (agree_put hu) h3⟩
      · have h1 := opK_congr (t' := u') (fun n hn => hu n (List.mem_append.2 (.inl (rd_op hn)))) hk
        exact opK_mono h1 (fun d h' g' hr => opsKc_agree hq as _ _ _ _ (agree_put hu) hr)
    have sk : ∀ u u', (∀ n ∈ liveS (a :: as) ks, getT u n = getT u' n) → opsKc C kb i as ⟨put u a.d .undef, h, g⟩ Q → opsKc C kb i as ⟨put u' a.d .undef, h, g⟩ Q := fun u u' hu hk => opsKc_agree hq as _ _ _ _ (agree_put hu) hk
    simp only [opsKc, guardK] at hk ⊢
    split at hk
    · exact go _ _ hh hk
    · rename_i j w hgd
      have hj : getT t j = getT t' j := hh j (List.mem_append.2 (.inl (List.mem_append.2 (.inr (by rw [hgd]; simp [gdT])))))
      rw [← hj]
      split at hk
      · exact ⟨fun e => go _ _ (agree_cons hh) (hk.1 e), fun e => sk _ _ (agree_cons hh) (hk.2 e)⟩
      · exact sk _ _ hh hk
      · exact hk.elim

theorem opsK_append : ∀ (as bs : List AOper) (σ : St), opsK C kb i (as ++ bs) σ Q = opsK C kb i as σ (fun σ' => opsK C kb i bs σ' Q)
  | [], bs, σ => rfl
  | a :: as, bs, σ => by
    simp only [List.cons_append, opsK]
    congr 1
    · funext t; congr 1; funext d h g; exact opsK_append as bs _
    · funext t; exact opsK_append as bs _
theorem opsKc_append : ∀ (as bs : List AOper) (σ : St), opsKc C kb i (as ++ bs) σ Q = opsKc C kb i as σ (fun σ' => opsKc C kb i bs σ' Q)
  | [], bs, σ => rfl
  | a :: as, bs, σ => by
    simp only [List.cons_append, opsKc]
    congr 1
    · funext t
      split
      · congr 1; funext d h g; exact opsKc_append as bs _
      · congr 1; funext d h g; exact opsKc_append as bs _
    · funext t; exact opsKc_append as bs _

def segQ (C : Ctx) (kb : Nat) (i : Nat → List D → List Ent → Nat → (D → List Ent → Nat → Prop) → Prop) (ks : List Nat) (rest : List AOper) (Q : St → Prop) (σ : St) : Prop := opsK C kb i rest ⟨keepT ks σ.t, σ.h, σ.g⟩ Q
def segQc (C : Ctx) (kb : Nat) (i : Nat → List D → List Ent → Nat → (D → List Ent → Nat → Prop) → Prop) (ks : List Nat) (rest : List AOper) (Q : St → Prop) (σ : St) : Prop := opsKc C kb i rest ⟨keepT ks σ.t, σ.h, σ.g⟩ Q
@[simp] theorem segQ_app {rest : List AOper} {σ : St} : segQ C kb i ks rest Q σ = opsK C kb i rest ⟨keepT ks σ.t, σ.h, σ.g⟩ Q := (rfl)
@[simp] theorem segQc_app {rest : List AOper} {σ : St} : segQc C kb i ks rest Q σ = opsKc C kb i rest ⟨keepT ks σ.t, σ.h, σ.g⟩ Q := (rfl)

theorem opsK_seg (hm : InlMono i) {KS : List Nat} (hq : QDep KS Q) {as rest : List AOper} {σ : St} {ok : segOk ks rest KS = true} : opsK C kb i (seg ks as rest KS ok) σ Q = opsK C kb i as σ (segQ C kb i ks rest Q) := by
  unfold seg
  rw [opsK_append]
  have hin : ∀ n ∈ liveS rest KS, n ∈ ks := by simpa [segOk] using ok
  apply propext
  exact ⟨fun h => opsK_mono hm as (fun σ' hs => opsK_agree hm hq rest σ'.t (keepT ks σ'.t) σ'.h σ'.g (fun n hn => (getT_keep (hin n hn)).symm) hs) h,
    fun h => opsK_mono hm as (fun σ' hs => opsK_agree hm hq rest (keepT ks σ'.t) σ'.t σ'.h σ'.g (fun n hn => getT_keep (hin n hn)) hs) h⟩
theorem opsKc_seg {KS : List Nat} (hq : QDep KS Q) {as rest : List AOper} {σ : St} {ok : segOk ks rest KS = true} : opsKc C kb i (seg ks as rest KS ok) σ Q = opsKc C kb i as σ (segQc C kb i ks rest Q) := by
  unfold seg
  rw [opsKc_append]
  have hin : ∀ n ∈ liveS rest KS, n ∈ ks := by simpa [segOk] using ok
  apply propext
  exact ⟨fun h => opsKc_mono as (fun σ' hs => opsKc_agree hq rest σ'.t (keepT ks σ'.t) σ'.h σ'.g (fun n hn => (getT_keep (hin n hn)).symm) hs) h,
    fun h => opsKc_mono as (fun σ' hs => opsKc_agree hq rest (keepT ks σ'.t) σ'.t σ'.h σ'.g (fun n hn => getT_keep (hin n hn)) hs) h⟩

variable {P : Program} {T : List (Fam P)} {KS : List Nat} {as rest : List AOper} {σ σ0 : St} {ok : segOk ks rest KS = true} {Q1 : AExit → St → Prop} {ws : List (Nat × D)}
@[simp] theorem opsK_segR : opsK C kb (tabK T) (seg ks as rest KS ok) σ (regQ KS Q1) = opsK C kb (tabK T) as σ (segQ C kb (tabK T) ks rest (regQ KS Q1)) := opsK_seg (tabK_mono T) regQ_dep
@[simp] theorem opsK_segC : opsK C kb (tabK T) (seg ks as rest KS ok) σ (cutQ KS ws σ0) = opsK C kb (tabK T) as σ (segQ C kb (tabK T) ks rest (cutQ KS ws σ0)) := opsK_seg (tabK_mono T) cutQ_dep
@[simp] theorem opsKc_segR : opsKc C kb i (seg ks as rest KS ok) σ (regQ KS Q1) = opsKc C kb i as σ (segQc C kb i ks rest (regQ KS Q1)) := opsKc_seg regQ_dep
@[simp] theorem opsKc_segC : opsKc C kb i (seg ks as rest KS ok) σ (cutQ KS ws σ0) = opsKc C kb i as σ (segQc C kb i ks rest (cutQ KS ws σ0)) := opsKc_seg cutQ_dep
end
end Go.PS
