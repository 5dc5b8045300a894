/- A text against the clean run: regions, loops, calls. -/
import Derived.Test.YtdojebhmkbfppaaPsV
import Derived.LoopN
set_option linter.unusedVariables false
set_option linter.unusedSimpArgs false
set_option linter.unusedSectionVars false
namespace Go.PS

structure Ann where
  fl : List (Nat × Nat × Nat)
  keep : List (Nat × List Nat)
  lk : List (Nat × List Nat × List Nat)

def Ann.flOf (A : Ann) (r i : Nat) : Nat := ((A.fl.find? fun p => p.1 == r && p.2.1 == i).map fun p => p.2.2).getD 0
def Ann.keepOf (A : Ann) (r : Nat) : Option (List Nat) := (A.keep.find? fun p => p.1 == r).map fun p => p.2
def Ann.lkOf (A : Ann) (r : Nat) : List Nat × List Nat := ((A.lk.find? fun p => p.1 == r).map fun p => p.2).getD ([], [])

/-- The first region of a text. -/
def firstR : Code → Nat
  | .region id _ _ => id
  | .seq a _ => firstR a
  | .block _ a => firstR a
  | .loop a => firstR a
  | _ => 0

def cops (ops : Array Oper) (nt : Nat) (fl : Nat → Nat) : List Oper → Nat → Option (List AOper)
  | [], _ => some []
  | o :: os, i => match cper ops nt (fl i) o, cops ops nt fl os (i + 1) with
    | some a, some as => some (a :: as)
    | _, _ => none

/-- The clean text. -/
def strip (nt : Nat) (A : Ann) : Code → AC
  | .skip | .label _ => .skip
  | .ret => .ret
  | .exit id => .exit id
  | .region id ops draw => match cops ops nt (A.flOf id) ops.toList 0 with
    | some as => match draw with
      | false => .region false as (A.keepOf id)
      | true => match drawChk ops.toList as, A.keepOf id with
        | true, some ks => .region true as (some ks)
        | _, _ => .bad
    | none => .bad
  | .seq a b => .seq (strip nt A a) (strip nt A b)
  | .cond c a b => .cond (co c) (strip nt A a) (strip nt A b)
  | .block id a => .block id (strip nt A a)
  | .loop a => .loop (A.lkOf (firstR a)).1 (A.lkOf (firstR a)).2 (strip nt A a)
  | _ => .bad

theorem cops_ok {ops : Array Oper} {nt : Nat} {fl : Nat → Nat} : ∀ (l : List Oper) (i : Nat) (as : List AOper), cops ops nt fl l i = some as → as.length = l.length ∧ ∀ (j : Nat) (o : Oper) (a : AOper), l[j]? = some o → as[j]? = some a → OpOk ops nt o a
  | [], i, as, h => by
    simp only [cops, Option.some.injEq] at h
    subst h
    exact ⟨rfl, fun j o a hj _ => by simp at hj⟩
  | o :: os, i, as, h => by
    simp only [cops] at h
    split at h
    · rename_i a as' h1 h2
      injection h with h
      subst h
      obtain ⟨q1, q2⟩ := cops_ok os (i + 1) as' h2
      refine ⟨by simp [q1], fun j o' a' hj ha => ?_⟩
      cases j with
      | zero =>
        obtain rfl : o = o' := by simpa using hj
        obtain rfl : a = a' := by simpa using ha
        exact cper_ok h1
      | succ j => exact q2 j o' a' (by simpa using hj) (by simpa using ha)
    · cases h

theorem getT_keepT (ks : List Nat) (t : List (Nat × D)) (x : Nat) : getT (keepT ks t) x = getT t x ∨ getT (keepT ks t) x = .junk := by
  induction ks with
  | nil => exact .inr rfl
  | cons k ks ih =>
    simp only [keepT, List.map_cons, getT]
    by_cases hk : k = x
    · subst hk; rw [if_pos rfl]; exact .inl rfl
    · rw [if_neg hk]; exact ih

section
variable {C : Ctx} {nt : Nat} {w0 : World} {Fo : Nat → Prop} {B : Option Nat} {σ : St} {a : Act} {w : World} {μ : Nat → Value} {own : List Nat}

theorem TRel.keepT {F : Nat → Prop} {h : List Ent} {G : Nat} {t : List (Nat × D)} {tmps : Array Value} (hT : TRel w F h μ G t tmps) (ks : List Nat) : TRel w F h μ G (keepT ks t) tmps := by
  intro x
  rcases getT_keepT ks t x with h | h
  · rw [h]; exact hT x
  · rw [h]; exact .imm _ _ (.junk _)

theorem SInv.keepT (S : SInv nt w0 Fo B σ a w μ own) (ks : List Nat) : SInv nt w0 Fo B ⟨keepT ks σ.t, σ.h, σ.g⟩ a w μ own := ⟨S.inv, S.tmps.keepT ks, S.size, S.defers⟩

theorem SInv.keepO (S : SInv nt w0 Fo B σ a w μ own) (ks : Option (List Nat)) : SInv nt w0 Fo B ⟨keepO ks σ.t, σ.h, σ.g⟩ a w μ own := by
  cases ks with
  | none => exact S
  | some ks => exact S.keepT ks

theorem find?_key : ∀ (l : List Ent) (k : Nat) (e : Ent), l.find? (fun e => e.k == k) = some e → e.k = k ∧ find l k e.g = some e.b ∧ k ∈ l.map Ent.k
  | [], k, e, h => by simp at h
  | x :: l, k, e, h => by
    by_cases hx : x.k = k
    · simp only [List.find?_cons, hx, beq_self_eq_true, Option.some.injEq] at h
      subst h
      exact ⟨hx, by simp [find, hx], by simp [hx]⟩
    · have : (x.k == k) = false := by simpa using hx
      simp only [List.find?_cons, this] at h
      obtain ⟨h1, h2, h3⟩ := find?_key l k e h
      exact ⟨h1, by simp only [find, if_neg hx]; exact h2, by simp only [List.map_cons, List.mem_cons]; exact .inr h3⟩

theorem HOk.keep {F : Nat → Prop} {h : List Ent} {G lo : Nat} : ∀ (ks : List Nat) (l : List Ent) (o : List Nat), HOk w F h μ G lo B l o → o.Nodup → (l.map Ent.k).Nodup →
    ∃ o', HOk w F h μ G lo B (keepH ks l) o' ∧ o'.Nodup ∧ (∀ c ∈ o', c ∈ o) ∧ ((keepH ks l).map Ent.k).Nodup ∧ (∀ j ∈ (keepH ks l).map Ent.k, j ∈ l.map Ent.k) ∧ ∀ j γ, find (keepH ks l) j γ ≠ none → find l j γ = find (keepH ks l) j γ
  | [], l, o, hk, hn, hd => ⟨[], rfl, by simp, by simp, by simp [keepH], by simp [keepH], fun j γ hj => by simp [keepH, find] at hj⟩
  | k :: ks, l, o, hk, hn, hd => by
    simp only [keepH]
    split
    · rename_i e he
      obtain ⟨h1, h2, h3⟩ := find?_key l k e he
      obtain ⟨o1, rest, q1, q2, q3, q4⟩ := HOk.take l o hk h2 hn
      obtain ⟨o', p1, p2, p3, p4, p5, p6⟩ := HOk.keep ks (hdel l k) rest q2 (List.nodup_append.1 q3).2.1 (nodup_hdel l hd)
      have hke : (⟨k, e.g, e.b⟩ : Ent) = e := by rw [← h1]
      rw [hke] at q1
      refine ⟨o1 ++ o', ⟨o1, o', rfl, q1, p1⟩, ?_, ?_, ?_, ?_, ?_⟩
      · rw [List.nodup_append] at q3 ⊢
        exact ⟨q3.1, p2, fun x hx y hy => q3.2.2 x hx y (p3 y hy)⟩
      · intro c hc
        refine (q4 c).2 ?_
        rcases List.mem_append.1 hc with hc | hc
        · simp [hc]
        · simp [p3 c hc]
      · simp only [List.map_cons, List.nodup_cons]
        refine ⟨fun hm => ?_, p4⟩
        rw [h1] at hm
        exact not_mem_hdel l hd (p5 _ hm)
      · intro j hj
        simp only [List.map_cons, List.mem_cons] at hj
        rcases hj with hj | hj
        · rw [hj, h1]; exact h3
        · exact mem_keys_hdel l (p5 j hj)
      · intro j γ hj
        simp only [find] at hj ⊢
        by_cases hkj : e.k = j
        · rw [if_pos hkj] at hj ⊢
          by_cases hg : e.g = γ
          · subst hg
            have : j = k := by omega
            subst this
            rw [h2, if_pos rfl]
          · rw [if_neg hg] at hj; exact absurd rfl hj
        · rw [if_neg hkj] at hj ⊢
          have h1 := p6 j γ hj
          exact (find_hdel_eq l hd (h1 ▸ hj)).trans h1
    · exact HOk.keep ks l o hk hn hd

theorem SInv.keepH (S : SInv nt w0 Fo B σ a w μ own) (ks : List Nat) : ∃ o', Out w0 Fo B w σ.h μ σ.g own w (keepH ks σ.h) μ σ.g o' ∧ SInv nt w0 Fo B ⟨σ.t, keepH ks σ.h, σ.g⟩ a w μ o' := by
  obtain ⟨o', p1, p2, p3, p4, p5, p6⟩ := HOk.keep ks σ.h own S.inv.hok S.inv.nodup S.inv.keys
  have ev : Evo w (FF own Fo) σ.h μ σ.g w (FF o' Fo) (PS.keepH ks σ.h) μ σ.g :=
    ⟨⟨fun b hb _ => hb.imp (p3 b) id, fun _ _ _ => rfl, Nat.le_refl _⟩, Nat.le_refl _, fun _ _ => rfl, fun j γ _ hj => by rw [p6 j γ hj]; exact hj,
      fun j γ x _ hr => ⟨by rw [rowAt_eq (p6 j γ (rowAt_find hr))]; exact hr, fun _ _ _ _ => rfl⟩⟩
  have I : HInv w0 Fo B w (PS.keepH ks σ.h) μ σ.g o' := ⟨S.inv.grown, S.inv.out, HOk.evo ev _ _ p1 (fun _ _ => rfl), p2, p4⟩
  exact ⟨o', ⟨I, ev⟩, I, S.tmps.evo ev, S.size, S.defers⟩

/-- A draw. -/
theorem HInv.drew {h : List Ent} {G : Nat} {o : List Nat} (I : HInv w0 Fo B w h μ G o) : Out w0 Fo B w h μ G o { w with drawn := w.drawn + 1 } h μ G o :=
  I.quiet ⟨rfl, rfl, rfl, Nat.le_refl _, fun _ _ _ => rfl⟩

def cx : AExit → Exit
  | .normal => .normal
  | .exit id => .exit id
  | .ret => .ret

theorem ev_bool {t : List (Nat × D)} {F : Nat → Prop} {h : List Ent} {G : Nat} {c : Operand} {b : Bool} (hT : TRel w F h μ G t a.tmps) (hb : ev t (co c) = .bool b) : a.eval c = .bool b := by
  have := hT.eval c
  rw [hb] at this
  exact this.asBool

end

section
variable {C : Ctx} {nt : Nat} {w0 : World} {Fo : Nat → Prop} {B : Option Nat}

theorem run_sound (hty : TyOk C.P C.tt) (hm : C.P.follows .mixedOrders = true) {kb : Nat} {inlK : Nat → List D → List Ent → Nat → (D → List Ent → Nat → Prop) → Prop} (hin : InlOk C inlK) {A : Ann} :
    ∀ (c : Code) (Qa : AExit → St → Prop) (Q : Exit → Act → World → Prop) (σ : St) (a : Act) (w : World) (μ : Nat → Value) (own : List Nat), SInv nt w0 Fo B σ a w μ own → run C kb inlK (strip nt A c) Qa σ →
      (∀ (e : AExit) (a' : Act) (w' : World), After nt w0 Fo B w σ.h μ σ.g own (Qa e) a' w' → Q (cx e) a' w') → c.wp C.P Q a w := by
  intro c
  induction c with
  | skip =>
    intro Qa Q σ a w μ own S hr hQ
    exact wp_skip (hQ .normal a w ⟨σ, μ, own, hr, S.inv.refl, S⟩)
  | label l =>
    intro Qa Q σ a w μ own S hr hQ
    exact wp_label (hQ .normal a w ⟨σ, μ, own, hr, S.inv.refl, S⟩)
  | ret =>
    intro Qa Q σ a w μ own S hr hQ
    exact wp_ret (hQ .ret a w ⟨σ, μ, own, hr, S.inv.refl, S⟩)
  | exit id =>
    intro Qa Q σ a w μ own S hr hQ
    exact wp_exit (hQ (.exit id) a w ⟨σ, μ, own, hr, S.inv.refl, S⟩)
  | region id ops draw =>
    intro Qa Q σ a w μ own S hr hQ
    simp only [strip] at hr
    split at hr
    · rename_i as has
      obtain ⟨hl, hok⟩ := cops_ok _ _ _ has
      have hok' : ∀ (i : Nat) (o : Oper) (ao : AOper), ops[i]? = some o → as[i]? = some ao → OpOk ops nt o ao := fun i o ao ho ha => hok i o ao (by simpa using ho) ha
      have hl' : as.length = ops.size := by simpa using hl
      split at hr
      · -- in the text's order
        simp only [run] at hr
        refine wp_region ?_
        have := ops_sound (C := C) (Q := Q) hty hl' hok' hin as 0 (fun j => by simp) σ a w μ own S hr (fun a' w' hA => ?_)
        · rw [hl'] at this
          rw [List.range_eq_range']
          exact this
        · obtain ⟨σ', μ', o', h1, h2, h3⟩ := hA
          exact hQ .normal a' w' ⟨_, μ', o', h1, h2, h3.keepO _⟩
      · split at hr
        · rename_i ks hdc hks
          simp only [run] at hr
          obtain ⟨M, hd⟩ := drawChk_ok hdc
          refine wp_region_any hm ?_
          have hr := opsKd_of _ _ hr
          obtain ⟨suf, σf, hs, hR, hT, hf1, hf2⟩ := trace_of (τ0 := getT σ.t) (h0 := (σ.h, σ.g)) as [] [] σ rfl (by funext x; simp [tF, gF]) (by simp [hF, gF]) hr
          simp only [List.nil_append, List.length_nil, Nat.zero_add] at hT hf1 hf2
          have S1 : SInv nt w0 Fo B σ a { w with drawn := w.drawn + 1 } μ own := ⟨S.inv.drew.1, S.tmps.evo S.inv.drew.2, S.size, S.defers⟩
          have hnone : ∀ j, (Array.replicate ops.size false).getD j false = false := by
            intro j
            rw [Array.getD_eq_getD_getElem?, Array.getElem?_replicate]
            split <;> rfl
          have hcn : ∀ (S : Nat → Bool) m, cn S m ≤ m := by
            intro S m
            induction m with
            | zero => exact Nat.le_refl _
            | succ m ih => simp only [cn]; split <;> omega
          have hnil : ∀ {V : Type} (u : Nat → Option V) (v0 : V) m, gF u (fun j => (Array.replicate ops.size false).getD j false) v0 m = v0 := by
            intro V u v0 m
            induction m with
            | zero => rfl
            | succ m ih =>
              simp only [gF]
              have hne : ¬ ((Array.replicate ops.size false).getD m false = true) := by rw [hnone m]; simp
              rw [if_neg hne, ih]
          refine any_sound (nt := nt) (w0 := w0) (Fo := Fo) (B := B) (kb := kb) hty hin hd hok' hs (fun i hi => hT i (Nat.zero_le _) (by omega)) (ws := w) (hs := σ.h) (μs := μ) (gs := σ.g) (os := own) ?_ ops.size _ (by simp) ?_ (hcn _ _)
            σ.t σ.h σ.g a _ μ own ?_ ?_ S1 S.inv.drew
          · intro t h g a' w' μ' o' ht hh S' out
            refine hQ .normal a' w' ⟨⟨PS.keepT ks t, h, g⟩, μ', o', ?_, out, S'.keepT _⟩
            rw [← hl'] at ht hh
            have e1 : getT t = getT σf.t := ht.trans hf1.symm
            have e2 : (h, g) = (σf.h, σf.g) := hh.trans hf2.symm
            injection e2 with e2 e3
            have e4 : PS.keepT ks t = PS.keepT ks σf.t := by simp only [PS.keepT, e1]
            rw [e4, e2, e3]
            exact hR
          · intro j o hj
            rw [hnone] at hj
            cases hj
          · funext x
            exact (hnil _ _ _).symm
          · exact (hnil _ _ _).symm
        · exact hr.elim
    · exact hr.elim
  | seq x y ihx ihy =>
    intro Qa Q σ a w μ own S hr hQ
    simp only [strip, run] at hr
    refine wp_seq (ihx _ _ σ a w μ own S hr (fun e a' w' hA => ?_))
    obtain ⟨σ', μ', o', h1, h2, h3⟩ := hA
    cases e with
    | normal =>
      refine ihy _ _ σ' a' w' μ' o' h3 h1 (fun e2 a2 w2 hA2 => ?_)
      obtain ⟨σ2, μ2, o2, q1, q2, q3⟩ := hA2
      exact hQ e2 a2 w2 ⟨σ2, μ2, o2, q1, Out.trans h2 q2, q3⟩
    | exit id => exact hQ (.exit id) a' w' ⟨σ', μ', o', h1, h2, h3⟩
    | ret => exact hQ .ret a' w' ⟨σ', μ', o', h1, h2, h3⟩
  | cond c x y ihx ihy =>
    intro Qa Q σ a w μ own S hr hQ
    simp only [strip, run] at hr
    split at hr
    · rename_i b hb
      have hv := ev_bool S.tmps hb
      exact wp_cond_split hv (fun e => ihx _ _ σ a w μ own S (hr.1 e) hQ) (fun e => ihy _ _ σ a w μ own S (hr.2 e) hQ)
    · exact hr.elim
  | block id x ihx =>
    intro Qa Q σ a w μ own S hr hQ
    simp only [strip, run] at hr
    refine wp_block (ihx _ _ σ a w μ own S hr (fun e a' w' hA => ?_))
    obtain ⟨σ', μ', o', h1, h2, h3⟩ := hA
    cases e with
    | normal => exact hQ .normal a' w' ⟨σ', μ', o', h1, h2, h3⟩
    | exit id' =>
      simp only [inBlockQ] at h1
      simp only [cx, Exit.inBlock]
      split
      · rename_i e
        rw [if_pos e] at h1
        exact hQ .normal a' w' ⟨σ', μ', o', h1, h2, h3⟩
      · rename_i e
        rw [if_neg e] at h1
        exact hQ (.exit id') a' w' ⟨σ', μ', o', h1, h2, h3⟩
    | ret => exact hQ .ret a' w' ⟨σ', μ', o', h1, h2, h3⟩
  | loop x ihx =>
    intro Qa Q σ a w μ own S hr hQ
    simp only [strip, run] at hr
    obtain ⟨n, hr⟩ := hr
    refine wp_loop_rounds n ?_
    have key : ∀ (n : Nat) (σ : St) (a : Act) (w : World) (μ : Nat → Value) (own : List Nat), SInv nt w0 Fo B σ a w μ own → iter (run C kb inlK (strip nt A x)) (A.lkOf (firstR x)).1 (A.lkOf (firstR x)).2 Qa n σ →
        (∀ (e : AExit) (a' : Act) (w' : World), After nt w0 Fo B w σ.h μ σ.g own (Qa e) a' w' → Q (cx e) a' w') → Code.rounds C.P x Q n a w := by
      intro n
      induction n with
      | zero => intro σ a w μ own S hr _; exact hr.elim
      | succ n ih =>
        intro σ a w μ own S hr hQ
        simp only [iter] at hr
        obtain ⟨o1, out1, S1⟩ := S.keepH (A.lkOf (firstR x)).2
        have S2 := S1.keepT (A.lkOf (firstR x)).1
        refine ihx _ _ _ a w μ o1 S2 hr (fun e a' w' hA => ?_)
        obtain ⟨σ', μ', o', h1, h2, h3⟩ := hA
        cases e with
        | normal =>
          refine ih σ' a' w' μ' o' h3 h1 (fun e2 a2 w2 hA2 => ?_)
          obtain ⟨σ2, μ2, o2, q1, q2, q3⟩ := hA2
          exact hQ e2 a2 w2 ⟨σ2, μ2, o2, q1, Out.trans out1 (Out.trans h2 q2), q3⟩
        | exit id => exact hQ (.exit id) a' w' ⟨σ', μ', o', h1, Out.trans out1 h2, h3⟩
        | ret => exact hQ .ret a' w' ⟨σ', μ', o', h1, Out.trans out1 h2, h3⟩
    exact key n σ a w μ own S hr hQ
  | _ =>
    intro Qa Q σ a w μ own S hr hQ
    exact hr.elim

def RV.of : RV → ResultVar
  | .t r => .tmp r
  | .c r T => .cell r T

/-- A function of the program and its clean text. -/
def FnOk (P : Program) (f : Nat) (fa : FnA) (A : Ann) : Prop :=
  ∃ fn c, P.funcs[f]? = some fn ∧ fn.body = some c ∧ (fn.name == "runtime.NumGoroutine") = false ∧ fn.ntmps = fa.nt ∧ fn.results = (fa.res.map RV.of).toArray ∧ fa.res.length ≤ 4 ∧ strip fa.nt A c = fa.ac

theorem FnOk.enters {P : Program} {f : Nat} {fa : FnA} {A : Ann} (h : FnOk P f fa A) : Enters P f := by
  obtain ⟨fn, c, h1, h2, h3, _⟩ := h
  exact ⟨fn, h1, by simp [h2], h3⟩

theorem getT_args0 : ∀ (ds : List D) (n k : Nat), getT (args0 n ds) k = if n ≤ k then ds.getD (k - n) .junk else .junk
  | [], n, k => by simp [args0, getT]
  | d :: ds, n, k => by
    simp only [args0, getT]
    by_cases h : n = k
    · subst h; simp
    · rw [if_neg h, getT_args0 ds (n + 1) k]
      by_cases hk : n ≤ k
      · have e : k - n = (k - (n + 1)) + 1 := by omega
        rw [if_pos hk, if_pos (by omega), e]
        rfl
      · rw [if_neg hk, if_neg (by omega)]

theorem start_rel {w : World} {F : Nat → Prop} {h : List Ent} {μ : Nat → Value} {G nt : Nat} {ds : List D} {vs : List Value} (hl : vs.length = ds.length) (hr : ∀ (i : Nat) (d : D) (v : Value), ds[i]? = some d → vs[i]? = some v → VRep w F h μ G d v) :
    TRel w F h μ G (args0 0 ds) (vs.toArray ++ Array.replicate nt undef) := by
  intro k
  rw [getT_args0, if_pos (Nat.zero_le _), Nat.sub_zero]
  rcases Nat.lt_or_ge k ds.length with hk | hk
  · have e1 : ds.getD k .junk = ds[k] := by rw [List.getD_eq_getElem?_getD, List.getElem?_eq_getElem hk]; rfl
    have e2 : (vs.toArray ++ Array.replicate nt undef).getD k undef = vs[k]'(by omega) := by
      rw [Array.getD_eq_getD_getElem?, Array.getElem?_append_left (by simp; omega)]
      simp [show k < vs.length by omega]
    rw [e1, e2]
    exact hr k _ _ (List.getElem?_eq_getElem hk) (List.getElem?_eq_getElem (by omega))
  · have e1 : ds.getD k .junk = .junk := by rw [List.getD_eq_getElem?_getD, List.getElem?_eq_none hk]; rfl
    rw [e1]
    exact .imm _ _ (.junk _)

/-- One result. -/
def rvGet (tmps : Array Value) : ResultVar → Sem Value
  | .tmp t => pure (tmps.getD t undef)
  | .cell a t => do loadVar t (← asAddr (tmps.getD a undef))

theorem res1 (hty : TyOk C.P C.tt) {σ : St} {a : Act} {w : World} {μ : Nat → Value} {own : List Nat} (S : SInv nt w0 Fo B σ a w μ own) {r : RV} {K : D → Prop} (hk : resK1 C.tt σ K r) :
    ∃ (v : Value) (d : D), K d ∧ (rvGet a.tmps r.of).run C.P w = .ok v w ∧ VRep w (FF own Fo) σ.h μ σ.g d v := by
  cases r with
  | t r => exact ⟨_, _, hk, by simp [RV.of, rvGet], S.tmps r⟩
  | c r T =>
    simp only [resK1] at hk
    split at hk
    · rename_i j g hev
      have hx := S.tmps r
      rw [hev] at hx
      split at hk
      · rename_i cs hf
        obtain ⟨hs, hsz, hk⟩ := hk
        obtain ⟨_, hp⟩ := hx.asPtr
        obtain ⟨b, hb, hv⟩ := hp (by rw [hf]; simp)
        obtain ⟨o1, he, _⟩ := S.inv.hok.has σ.h own hf
        obtain ⟨b', vs, E, hm, hh, hl, h1, hr, _, _⟩ := he.cellsOf
        have hbb : b' = b := by
          rcases hb with hb | ⟨n', c', hb⟩
          · rw [hm] at hb; injection hb with hb; injection hb with hb; injection hb
          · rw [hm] at hb; cases hb
        subst hbb
        have hc : ∀ (j : Nat) (u : Value), vs[j]? = some u → w.cell? ⟨b', 0 + j, none⟩ = some u := fun j u hu => by simp [World.cell?, hh, hu]
        have hlc : (loadCells ⟨b', 0, none⟩ ((C.tt T).sz)).run C.P w = .ok vs.toArray w := by
          have : vs.length = (C.tt T).sz := by omega
          rw [← this]
          exact run_loadCells_list w ⟨b', 0, none⟩ vs (fun j v hv => by rw [Addr.add_lit]; exact hc j v hv)
        refine ⟨.agg vs.toArray, .agg cs, hk, ?_, .agg cs vs hl hr h1⟩
        simp [RV.of, rvGet, hv, asAddr, loadVar, hty.isAgg w T (.inl hs), hs, hty.size w T (known_ne (.inl hs)), hlc]
      · exact hk.elim
    · exact hk.elim

theorem resL_run (hty : TyOk C.P C.tt) {σ : St} {a : Act} {w : World} {μ : Nat → Value} {own : List Nat} (S : SInv nt w0 Fo B σ a w μ own) : ∀ (rs : List RV) (K : List D → Prop), resL C.tt σ rs K →
    ∃ (vs : List Value) (ds : List D), K ds ∧ vs.length = rs.length ∧ vs.length = ds.length ∧ (∀ (i : Nat) (r : RV) (v : Value), rs[i]? = some r → vs[i]? = some v → (rvGet a.tmps r.of).run C.P w = .ok v w) ∧ ∀ (i : Nat) (d : D) (v : Value), ds[i]? = some d → vs[i]? = some v → VRep w (FF own Fo) σ.h μ σ.g d v
  | [], K, hk => ⟨[], [], hk, rfl, rfl, by simp, by simp⟩
  | r :: rs, K, hk => by
    obtain ⟨v, d, hk, h1, h2⟩ := res1 hty S hk
    obtain ⟨vs, ds, hk, q1, q2, q3, q4⟩ := resL_run hty S rs _ hk
    refine ⟨v :: vs, d :: ds, hk, by simp [q1], by simp [q2], fun i r' v' hr hv => ?_, fun i d' v' hd hv => ?_⟩
    · cases i with
      | zero =>
        obtain rfl : r = r' := by simpa using hr
        obtain rfl : v = v' := by simpa using hv
        exact h1
      | succ i => exact q3 i r' v' (by simpa using hr) (by simpa using hv)
    · cases i with
      | zero =>
        obtain rfl : d = d' := by simpa using hd
        obtain rfl : v = v' := by simpa using hv
        exact h2
      | succ i => exact q4 i d' v' (by simpa using hd) (by simpa using hv)

theorem results_get {fn : Func} (tmps : Array Value) : results fn tmps = (do let vs ← fn.results.mapM (rvGet tmps); pure (if h : vs.size = 1 then vs[0] else .tuple vs)) := by
  unfold results
  rfl

theorem results_ok (hty : TyOk C.P C.tt) {σ : St} {a : Act} {w : World} {μ : Nat → Value} {own : List Nat} (S : SInv nt w0 Fo B σ a w μ own) {fn : Func} {res : List RV} (h : fn.results = (res.map RV.of).toArray) (h4 : res.length ≤ 4) {K : D → Prop} (hk : resK C.tt res σ K) :
    ∃ (v : Value) (d : D), K d ∧ (results fn a.tmps).run C.P w = .ok v w ∧ VRep w (FF own Fo) σ.h μ σ.g d v := by
  rw [results_get, h]
  have many : ∀ (rs : List RV), rs.length ≤ 4 → rs.length ≠ 1 → resL C.tt σ rs (fun ds => K (.tup ds)) →
      ∃ (v : Value) (d : D), K d ∧ (do let vs ← ((rs.map RV.of).toArray).mapM (rvGet a.tmps); pure (if h : vs.size = 1 then vs[0] else Value.tuple vs) : Sem Value).run C.P w = .ok v w ∧ VRep w (FF own Fo) σ.h μ σ.g d v := by
    intro rs h4 h1 hk
    obtain ⟨vs, ds, hk, q1, q2, q3, q4⟩ := resL_run hty S rs _ hk
    refine ⟨.tuple vs.toArray, _, hk, ?_, .tup ds vs q2 q4⟩
    match rs, vs, h4, h1, q1, q3 with
    | [], [], _, _, _, _ => simp
    | [r1, r2], [v1, v2], _, _, _, q3 =>
      have e1 := q3 0 r1 v1 rfl rfl
      have e2 := q3 1 r2 v2 rfl rfl
      simp [e1, e2]
    | [r1, r2, r3], [v1, v2, v3], _, _, _, q3 =>
      have e1 := q3 0 r1 v1 rfl rfl
      have e2 := q3 1 r2 v2 rfl rfl
      have e3 := q3 2 r3 v3 rfl rfl
      simp [e1, e2, e3]
    | [r1, r2, r3, r4], [v1, v2, v3, v4], _, _, _, q3 =>
      have e1 := q3 0 r1 v1 rfl rfl
      have e2 := q3 1 r2 v2 rfl rfl
      have e3 := q3 2 r3 v3 rfl rfl
      have e4 := q3 3 r4 v4 rfl rfl
      simp [e1, e2, e3, e4]
  match res, h4, hk with
  | [r], _, hk =>
    obtain ⟨v, d, hk, h1, h2⟩ := res1 hty S hk
    exact ⟨v, d, hk, by simp [h1], h2⟩
  | [], h4, hk => exact many [] h4 (by simp) hk
  | r1 :: r2 :: rs, h4, hk => exact many (r1 :: r2 :: rs) h4 (by simp) hk

/-- A call that is run in place, or from its start. -/
theorem body_sound (hty : TyOk C.P C.tt) (hm : C.P.follows .mixedOrders = true) {kb : Nat} {inlK : Nat → List D → List Ent → Nat → (D → List Ent → Nat → Prop) → Prop} (hin : InlOk C inlK) {f : Nat} {fa : FnA} {A : Ann} (hf : FnOk C.P f fa A)
    {ds : List D} {vs : List Value} {h : List Ent} {G : Nat} {w : World} {μ : Nat → Value} {own : List Nat} (I : HInv w0 Fo B w h μ G own) (hl : vs.length = ds.length)
    (hr : ∀ (i : Nat) (d : D) (v : Value), ds[i]? = some d → vs[i]? = some v → VRep w (FF own Fo) h μ G d v) {Qa : AExit → St → Prop} (hrun : run C kb inlK fa.ac Qa ⟨args0 0 ds, h, G⟩)
    {K : St → D → Prop} (hQa : ∀ e σ', Qa e σ' → (∀ id, e ≠ .exit id) ∧ resK C.tt fa.res σ' (K σ'))
    {R : Ending → World → Prop} (hend : ∀ (σ' : St) (w' : World) (μ' : Nat → Value) (o' : List Nat) (d : D) (v : Value), K σ' d → Out w0 Fo B w h μ G own w' σ'.h μ' σ'.g o' → VRep w' (FF o' Fo) σ'.h μ' σ'.g d v →
      R (.returned v) w') : Calls C.P f vs.toArray w R := by
  obtain ⟨fn, c, h1, h2, h3, h4, h5, h6, h7⟩ := hf
  refine calls_of_wp h1 h2 ?_
  rw [← h7] at hrun
  have S : SInv fa.nt w0 Fo B ⟨args0 0 ds, h, G⟩ { tmps := vs.toArray ++ Array.replicate (fn.ntmps - vs.toArray.size) undef, defers := [] } w μ own :=
    ⟨I, start_rel hl hr, by simp [h4]; omega, rfl⟩
  refine run_sound hty hm hin c Qa _ _ _ w μ own S hrun (fun e a' w' hA => ?_)
  obtain ⟨σ', μ', o', q1, q2, q3⟩ := hA
  obtain ⟨hne, hres⟩ := hQa e σ' q1
  obtain ⟨v, d, hK, hv1, hv2⟩ := results_ok hty q3 h5 h6 hres
  have hR := hend σ' w' μ' o' d v hK q2 hv2
  cases e with
  | normal => exact ⟨q3.defers, v, hv1, hR⟩
  | exit id => exact absurd rfl (hne id)
  | ret => exact ⟨q3.defers, v, hv1, hR⟩

theorem inl_ok (hty : TyOk C.P C.tt) (hm : C.P.follows .mixedOrders = true) (hinl : ∀ f fa, C.inl f = some fa → ∃ A, FnOk C.P f fa A) : ∀ n kb, InlOk C (inl C n kb) := by
  intro n
  induction n with
  | zero => intro kb id ds h G K hk; exact hk.elim
  | succ n ih =>
    intro kb id ds h G K hk
    simp only [inl] at hk
    split at hk
    · exact hk.elim
    · rename_i fa hfa
      obtain ⟨A, hf⟩ := hinl id fa hfa
      refine ⟨hf.enters, fun w0 Fo B w μ own vs I hl hr => ?_⟩
      refine body_sound hty hm (ih (kb + 4000)) hf I hl hr hk (K := fun σ d => K d σ.h σ.g) (fun e σ' q => ?_) (fun σ' w' μ' o' d v q1 q2 q3 => ⟨v, _, _, _, _, _, rfl, q1, q2, q3⟩)
      cases e with
      | exit id => exact q.elim
      | normal => exact ⟨(fun _ h => by cases h), q⟩
      | ret => exact ⟨(fun _ h => by cases h), q⟩

end

section
variable {C : Ctx}

theorem resK1_mono {tt : Nat → Ty} {σ : St} {K K' : D → Prop} (h : ∀ d, K d → K' d) {r : RV} (hk : resK1 tt σ K r) : resK1 tt σ K' r := by
  cases r with
  | t r => exact h _ hk
  | c r T =>
    simp only [resK1] at hk ⊢
    split at hk
    · split at hk
      · exact ⟨hk.1, hk.2.1, h _ hk.2.2⟩
      · exact hk.elim
    · exact hk.elim

theorem resL_mono {tt : Nat → Ty} {σ : St} : ∀ {rs : List RV} {K K' : List D → Prop}, (∀ d, K d → K' d) → resL tt σ rs K → resL tt σ rs K'
  | [], K, K', h, hk => h _ hk
  | r :: rs, K, K', h, hk => resK1_mono (fun d hd => resL_mono (fun ds hds => h _ hds) hd) hk

theorem resK_mono {tt : Nat → Ty} {σ : St} {res : List RV} {K K' : D → Prop} (h : ∀ d, K d → K' d) (hk : resK tt res σ K) : resK tt res σ K' := by
  match res, hk with
  | [r], hk => exact resK1_mono h hk
  | [], hk => exact h _ hk
  | r1 :: r2 :: rs, hk => exact resL_mono (rs := r1 :: r2 :: rs) (fun ds hds => h _ hds) hk

/-- What is proved by a clean run. -/
theorem pc_of_run (hty : TyOk C.P C.tt) (hm : C.P.follows .mixedOrders = true) {kb : Nat} {inlK : Nat → List D → List Ent → Nat → (D → List Ent → Nat → Prop) → Prop} (hin : InlOk C inlK) {f : Nat} {fa : FnA} {A : Ann} (hf : FnOk C.P f fa A)
    {ds : List D} {io : Option (List D)} {fresh : Bool} {R : D → List D → Prop} (hrun : run C kb inlK fa.ac (retQ C.tt fresh fa.res R io.isSome) ⟨args0 0 ds, hio io, 1⟩) : PC C.P f ds io fresh R := by
  refine ⟨hf.enters, fun w vs F B hF hl hr hio => ?_⟩
  -- the block that it is handed
  have start : ∃ (μ : Nat → Value) (own : List Nat), HInv w F B w (PS.hio io) μ 1 own ∧ (∀ c, FF own F c → F c) ∧ (∀ b, B = some b → μ 0 = .pointer (some ⟨b, 0, none⟩)) ∧ (B ≠ none → io.isSome = true) := by
    cases io with
    | none =>
      have hB : B = none := hio
      exact ⟨fun _ => undef, [], ⟨⟨rfl, rfl, rfl, Nat.le_refl _, fun _ _ _ => rfl⟩, hF, rfl, by simp, by simp [PS.hio]⟩, fun c hc => hc.elim (fun h => by simp at h) id, (fun b hb => by rw [hB] at hb; cases hb), fun h => absurd hB h⟩
    | some cs =>
      obtain ⟨b, bv, E, hB, hFb, hb, hlen, hcs⟩ := hio
      have hFF : ∀ c, FF [b] F c → F c := fun c hc => hc.elim (fun h => by simp at h; rw [h]; exact hFb) id
      refine ⟨fun _ => .pointer (some ⟨b, 0, none⟩), [b], ⟨⟨rfl, rfl, rfl, Nat.le_refl _, fun _ _ _ => rfl⟩, hF, ⟨[b], [], rfl, ⟨Nat.zero_lt_one, ?_⟩, rfl⟩, by simp, by simp [PS.hio]⟩, hFF, (fun b' hb' => by rw [hB] at hb'; injection hb' with hb'; rw [hb']), fun _ => rfl⟩
      refine ⟨b, bv, E, rfl, hb, hlen, ?_, ?_, rfl, .inr hB⟩
      · intro v hv
        obtain ⟨i, hi⟩ := List.mem_iff_getElem?.1 hv
        have hil : i < cs.length := by have := (List.getElem?_eq_some_iff.1 hi).1; omega
        exact (hcs i _ v (List.getElem?_eq_getElem hil) hi).1
      · intro i d v hd hv
        exact .imm _ _ ((hcs i d v hd hv).2.weak (fun c hc _ => hFF c hc))
  obtain ⟨μ, own, I, hFF, hμ, hBs⟩ := start
  refine body_sound hty hm hin hf I (by simpa using hl) (fun i d v hd hv => ?_) hrun
    (K := fun σ d => (match io.isSome with
      | false => endK fresh R [] σ.h d
      | true => ∃ cs, find σ.h 0 0 = some (.cells cs) ∧ pureL cs ∧ endK fresh R cs σ.h d)) (fun e σ' q => ?_) (fun σ' w' μ' o' d v q1 q2 q3 => ?_)
  · rcases hr i d v hd hv with h | ⟨rfl, b, hb, rfl⟩
    · exact .imm _ _ (h.weak (fun c hc _ => hFF c hc))
    · exact .ptr 0 0 0 _ Nat.zero_lt_one (fun _ => ⟨b, .inl (hμ b hb), rfl⟩)
  · have hne : ∀ id, e ≠ .exit id := by
      intro id he
      subst he
      exact q
    refine ⟨hne, ?_⟩
    have q' : (match io.isSome with
      | false => retK C.tt fresh fa.res R [] σ'
      | true => match find σ'.h 0 0 with
        | some (.cells cs) => pureL cs ∧ retK C.tt fresh fa.res R cs σ'
        | _ => False) := by
      cases e with
      | exit id => exact absurd rfl (hne id)
      | normal => exact q
      | ret => exact q
    cases hi : io.isSome with
    | false => rw [hi] at q'; exact q'
    | true =>
      rw [hi] at q'
      simp only [] at q'
      split at q'
      · rename_i cs hfind
        refine resK_mono (fun d hd => ⟨cs, hfind, q'.1, hd⟩) q'.2
      · exact q'.elim
  · have hend : ∀ cs, endK fresh R cs σ'.h d → IoOut w' F B cs io → ∃ (v' : Value) (r : D) (cs' : List D) (own : List Nat), Ending.returned v = .returned v' ∧ R r cs' ∧ (fresh = true → OwnedD r) ∧ w.grownBy w' B ∧
        ORep w' (fun b => if fresh = true then b < w.heap.size else F b) w.heap.size r v' own ∧ own.Nodup ∧ IoOut w' F B cs' io := by
      intro cs hk hio'
      have I' := q2.1
      cases fresh with
      | true =>
        obtain ⟨k1, k2, k3⟩ := hk
        obtain ⟨o1, rest, p1, p2, p3, p4⟩ := own_at 5 _ _ q3 σ'.h o' I'.hok I'.nodup (fun _ _ _ => rfl) k1
        exact ⟨v, _, cs, o1, rfl, k3, fun _ => k2, I'.grown, p1.anyF k2 _, (List.nodup_append.1 p3).1, hio'⟩
      | false =>
        have hk : R (derS 5 d) cs := hk
        exact ⟨v, _, cs, [], rfl, hk, (fun h => by cases h), I'.grown, .base _ _ ((q3.derS 5).weak (fun c hc _ => .inr (by simpa using hc))), by simp, hio'⟩
    cases io with
    | none => exact hend [] q1 trivial
    | some cs0 =>
      obtain ⟨cs, hfind, hpu, q1⟩ := q1
      obtain ⟨b, bv, E, hB, hFb, hb, hlen, hcs⟩ := hio
      obtain ⟨o1, he, _⟩ := HOk.has σ'.h o' q2.1.hok hfind
      obtain ⟨b', bv', E', r1, r2, r3, r4, r5, r6, r7⟩ := he.cellsOf
      have hmu : μ' 0 = μ 0 := q2.2.mu 0 Nat.zero_lt_one
      rw [hmu, hμ b hB] at r1
      injection r1 with r1; injection r1 with r1; injection r1 with r1
      subst r1
      refine hend cs q1 ⟨b, bv', E', hB, r2, r3, fun i d v hd hv => ⟨r4 v (List.mem_of_getElem? hv), ?_⟩⟩
      exact ((r5 i d v hd hv).pure 5 (hpu d (List.mem_of_getElem? hd))).weak (fun c hc _ => .inr hc)

end
end Go.PS
