/- Part 3 of what the last text proves: The filters told by IsFilter are filters: the law holds at every input. -/
import Derived.Test.YthbdihoacfhflaaQo2
import Derived.LoopN
section
-- A text against the clean run: regions, loops, calls.
set_option linter.unusedVariables false
set_option linter.unusedSimpArgs false
set_option linter.unusedSectionVars false
namespace Go.PS

structure Ann where
  fl : List (Nat × Nat × Nat)
  keep : List (Nat × List Nat)
  lk : List (Nat × List Nat × List Nat)
  ex : List (Nat × Ex × List Nat)

def Ann.flOf (A : Ann) (r i : Nat) : Nat := ((A.fl.find? fun p => p.1 == r && p.2.1 == i).map fun p => p.2.2).getD 0
def Ann.keepOf (A : Ann) (r : Nat) : Option (List Nat) := (A.keep.find? fun p => p.1 == r).map fun p => p.2
def Ann.lkOf (A : Ann) (r : Nat) : List Nat × List Nat := ((A.lk.find? fun p => p.1 == r).map fun p => p.2).getD ([], [])

def Ann.exOf (A : Ann) (r : Nat) : Option (Ex × List Nat) := (A.ex.find? fun p => p.1 == r).map fun p => p.2

/-- The first region of a text. -/
def firstR : Code → Nat
  | .region id _ _ => id
  | .seq a _ => firstR a
  | .block _ a => firstR a
  | .loop a => firstR a
  | _ => 0

def cops (ops : Array Oper) (nt : Nat) (fl : Nat → Nat) : List Oper → Nat → Option (List AOper)
  | [], _ => some []
  | o :: os, i => match cper ops nt (fl i) o, cops ops nt fl os (i + 1) with
    | some a, some as => some (a :: as)
    | _, _ => none

/-- The clean text. -/
def strip (nt : Nat) (A : Ann) : Code → AC
  | .skip | .label _ => .skip
  | .ret => .ret
  | .exit id => .exit id
  | .region id ops draw => match cops ops nt (A.flOf id) ops.toList 0 with
    | some as => match draw with
      | false => .region false as (A.keepOf id)
      | true => match A.exOf id, A.keepOf id with
        | none, some ks => match drawChk conf ops.toList as with
          | true => .region true as (some ks)
          | false => .bad
        | some (tr, kh), some ks => match exChk ops.toList as tr with
          | true => .expl as tr ks kh
          | false => .bad
        | _, none => .bad
    | none => .bad
  | .seq a b => .seq (strip nt A a) (strip nt A b)
  | .cond c a b => .cond (co c) (strip nt A a) (strip nt A b)
  | .block id a => .block id (strip nt A a)
  | .loop a => .loop (A.lkOf (firstR a)).1 (A.lkOf (firstR a)).2 (strip nt A a)
  | _ => .bad

theorem cops_ok {ops : Array Oper} {nt : Nat} {fl : Nat → Nat} : ∀ (l : List Oper) (i : Nat) (as : List AOper), cops ops nt fl l i = some as → as.length = l.length ∧ ∀ (j : Nat) (o : Oper) (a : AOper), l[j]? = some o → as[j]? = some a → OpOk ops nt o a
  | [], i, as, h => by
    simp only [cops, Option.some.injEq] at h
    subst h
    exact ⟨rfl, fun j o a hj _ => by simp at hj⟩
  | o :: os, i, as, h => by
    simp only [cops] at h
    split at h
    · rename_i a as' h1 h2
      injection h with h
      subst h
      obtain ⟨q1, q2⟩ := cops_ok os (i + 1) as' h2
      refine ⟨by simp [q1], fun j o' a' hj ha => ?_⟩
      cases j with
      | zero =>
        obtain rfl : o = o' := by simpa using hj
        obtain rfl : a = a' := by simpa using ha
        exact cper_ok h1
      | succ j => exact q2 j o' a' (by simpa using hj) (by simpa using ha)
    · cases h

theorem getT_keepT (ks : List Nat) (t : List (Nat × D)) (x : Nat) : getT (keepT ks t) x = getT t x ∨ getT (keepT ks t) x = .junk := by
  induction ks with
  | nil => exact .inr rfl
  | cons k ks ih =>
    simp only [keepT, List.map_cons, getT]
    by_cases hk : k = x
    · subst hk; rw [if_pos rfl]; exact .inl rfl
    · rw [if_neg hk]; exact ih

section
variable {C : Ctx} {nt : Nat} {w0 : World} {Fo : Nat → Prop} {B : Option Nat} {σ : St} {a : Act} {w : World} {μ : Nat → Value} {own : List Nat}

theorem TRel.keepT {F : Nat → Prop} {h : List Ent} {G : Nat} {t : List (Nat × D)} {tmps : Array Value} (hT : TRel w F h μ G t tmps) (ks : List Nat) : TRel w F h μ G (keepT ks t) tmps := by
  intro x
  rcases getT_keepT ks t x with h | h
  · rw [h]; exact hT x
  · rw [h]; exact .imm _ _ (.junk _)

theorem SInv.keepT (S : SInv nt w0 Fo B σ a w μ own) (ks : List Nat) : SInv nt w0 Fo B ⟨keepT ks σ.t, σ.h, σ.g⟩ a w μ own := ⟨S.inv, S.tmps.keepT ks, S.size, S.defers⟩

theorem SInv.keepO (S : SInv nt w0 Fo B σ a w μ own) (ks : Option (List Nat)) : SInv nt w0 Fo B ⟨keepO ks σ.t, σ.h, σ.g⟩ a w μ own := by
  cases ks with
  | none => exact S
  | some ks => exact S.keepT ks

theorem find?_key : ∀ (l : List Ent) (k : Nat) (e : Ent), l.find? (fun e => e.k == k) = some e → e.k = k ∧ find l k e.g = some e.b ∧ k ∈ l.map Ent.k
  | [], k, e, h => by simp at h
  | x :: l, k, e, h => by
    by_cases hx : x.k = k
    · simp only [List.find?_cons, hx, beq_self_eq_true, Option.some.injEq] at h
      subst h
      exact ⟨hx, by simp [find, hx], by simp [hx]⟩
    · have : (x.k == k) = false := by simpa using hx
      simp only [List.find?_cons, this] at h
      obtain ⟨h1, h2, h3⟩ := find?_key l k e h
      exact ⟨h1, by simp only [find, if_neg hx]; exact h2, by simp only [List.map_cons, List.mem_cons]; exact .inr h3⟩

theorem HOk.keep {F : Nat → Prop} {h : List Ent} {G lo : Nat} : ∀ (ks : List Nat) (l : List Ent) (o : List Nat), HOk w F h μ G lo B l o → o.Nodup → (l.map Ent.k).Nodup →
    ∃ o', HOk w F h μ G lo B (keepH ks l) o' ∧ o'.Nodup ∧ (∀ c ∈ o', c ∈ o) ∧ ((keepH ks l).map Ent.k).Nodup ∧ (∀ j ∈ (keepH ks l).map Ent.k, j ∈ l.map Ent.k) ∧ ∀ j γ, find (keepH ks l) j γ ≠ none → find l j γ = find (keepH ks l) j γ
  | [], l, o, hk, hn, hd => ⟨[], rfl, by simp, by simp, by simp [keepH], by simp [keepH], fun j γ hj => by simp [keepH, find] at hj⟩
  | k :: ks, l, o, hk, hn, hd => by
    simp only [keepH]
    split
    · exact ⟨o, hk, hn, fun _ h => h, hd, fun _ h => h, fun _ _ _ => rfl⟩
    split
    · rename_i e he
      obtain ⟨h1, h2, h3⟩ := find?_key l k e he
      obtain ⟨o1, rest, q1, q2, q3, q4⟩ := HOk.take l o hk h2 hn
      obtain ⟨o', p1, p2, p3, p4, p5, p6⟩ := HOk.keep ks (hdel l k) rest q2 (List.nodup_append.1 q3).2.1 (nodup_hdel l hd)
      have hke : (⟨k, e.g, e.b⟩ : Ent) = e := by rw [← h1]
      rw [hke] at q1
      refine ⟨o1 ++ o', ⟨o1, o', rfl, q1, p1⟩, ?_, ?_, ?_, ?_, ?_⟩
      · rw [List.nodup_append] at q3 ⊢
        exact ⟨q3.1, p2, fun x hx y hy => q3.2.2 x hx y (p3 y hy)⟩
      · intro c hc
        refine (q4 c).2 ?_
        rcases List.mem_append.1 hc with hc | hc
        · simp [hc]
        · simp [p3 c hc]
      · simp only [List.map_cons, List.nodup_cons]
        refine ⟨fun hm => ?_, p4⟩
        rw [h1] at hm
        exact not_mem_hdel l hd (p5 _ hm)
      · intro j hj
        simp only [List.map_cons, List.mem_cons] at hj
        rcases hj with hj | hj
        · rw [hj, h1]; exact h3
        · exact mem_keys_hdel l (p5 j hj)
      · intro j γ hj
        simp only [find] at hj ⊢
        by_cases hkj : e.k = j
        · rw [if_pos hkj] at hj ⊢
          by_cases hg : e.g = γ
          · subst hg
            have : j = k := by omega
            subst this
            rw [h2, if_pos rfl]
          · rw [if_neg hg] at hj; exact absurd rfl hj
        · rw [if_neg hkj] at hj ⊢
          have h1 := p6 j γ hj
          exact (find_hdel_eq l hd (h1 ▸ hj)).trans h1
    · exact HOk.keep ks l o hk hn hd

theorem SInv.keepH (S : SInv nt w0 Fo B σ a w μ own) (ks : List Nat) : ∃ o', Out w0 Fo B w σ.h μ σ.g own w (keepH ks σ.h) μ σ.g o' ∧ SInv nt w0 Fo B ⟨σ.t, keepH ks σ.h, σ.g⟩ a w μ o' := by
  obtain ⟨o', p1, p2, p3, p4, p5, p6⟩ := HOk.keep ks σ.h own S.inv.hok S.inv.nodup S.inv.keys
  have ev : Evo w (FF own Fo) σ.h μ σ.g w (FF o' Fo) (PS.keepH ks σ.h) μ σ.g :=
    ⟨⟨fun b hb _ => hb.imp (p3 b) id, fun _ _ _ => rfl, Nat.le_refl _⟩, Nat.le_refl _, fun _ _ => rfl, fun j γ _ hj => by rw [p6 j γ hj]; exact hj,
      fun j γ x _ _ hr => row_same hr (p6 j γ (cellAt_find hr)) (fun _ _ _ _ => rfl)⟩
  have I : HInv w0 Fo B w (PS.keepH ks σ.h) μ σ.g o' := ⟨S.inv.grown, S.inv.out, HOk.evo ev _ _ p1 (fun _ _ => rfl), p2, p4⟩
  exact ⟨o', ⟨I, ev⟩, I, S.tmps.evo ev, S.size, S.defers⟩

/-- A draw. -/
theorem HInv.drew {h : List Ent} {G : Nat} {o : List Nat} (I : HInv w0 Fo B w h μ G o) : Out w0 Fo B w h μ G o { w with drawn := w.drawn + 1 } h μ G o :=
  I.quiet ⟨rfl, rfl, rfl, Nat.le_refl _, fun _ _ _ => rfl⟩

def cx : AExit → Exit
  | .normal => .normal
  | .exit id => .exit id
  | .ret => .ret

theorem ev_bool {t : List (Nat × D)} {F : Nat → Prop} {h : List Ent} {G : Nat} {c : Operand} {b : Bool} (hT : TRel w F h μ G t a.tmps) (hb : ev t (co c) = .bool b) : a.eval c = .bool b := by
  have := hT.eval c
  rw [hb] at this
  exact this.asBool

end

section
variable {C : Ctx} {nt : Nat} {w0 : World} {Fo : Nat → Prop} {B : Option Nat}

theorem run_sound (hty : TyOk C.P C.tt) (hm : C.P.follows .mixedOrders = true) {kb : Nat} {inlK : Nat → List D → List Ent → Nat → (D → List Ent → Nat → Prop) → Prop} (hin : InlOk C inlK) {A : Ann} :
    ∀ (c : Code) (Qa : AExit → St → Prop) (Q : Exit → Act → World → Prop) (σ : St) (a : Act) (w : World) (μ : Nat → Value) (own : List Nat), SInv nt w0 Fo B σ a w μ own → run C kb inlK (strip nt A c) Qa σ →
      (∀ (e : AExit) (a' : Act) (w' : World), After nt w0 Fo B w σ.h μ σ.g own (Qa e) a' w' → Q (cx e) a' w') → c.wp C.P Q a w := by
  intro c
  induction c with
  | skip =>
    intro Qa Q σ a w μ own S hr hQ
    exact wp_skip (hQ .normal a w ⟨σ, μ, own, hr, S.inv.refl, S⟩)
  | label l =>
    intro Qa Q σ a w μ own S hr hQ
    exact wp_label (hQ .normal a w ⟨σ, μ, own, hr, S.inv.refl, S⟩)
  | ret =>
    intro Qa Q σ a w μ own S hr hQ
    exact wp_ret (hQ .ret a w ⟨σ, μ, own, hr, S.inv.refl, S⟩)
  | exit id =>
    intro Qa Q σ a w μ own S hr hQ
    exact wp_exit (hQ (.exit id) a w ⟨σ, μ, own, hr, S.inv.refl, S⟩)
  | region id ops draw =>
    intro Qa Q σ a w μ own S hr hQ
    simp only [strip] at hr
    split at hr
    · rename_i as has
      obtain ⟨hl, hok⟩ := cops_ok _ _ _ has
      have hok' : ∀ (i : Nat) (o : Oper) (ao : AOper), ops[i]? = some o → as[i]? = some ao → OpOk ops nt o ao := fun i o ao ho ha => hok i o ao (by simpa using ho) ha
      have hl' : as.length = ops.size := by simpa using hl
      split at hr
      · -- in the text's order
        simp only [run] at hr
        refine wp_region ?_
        have := ops_sound (C := C) (Q := Q) hty hl' hok' hin as 0 (fun j => by simp) σ a w μ own S hr (fun a' w' hA => ?_)
        · rw [hl'] at this
          rw [List.range_eq_range']
          exact this
        · obtain ⟨σ', μ', o', h1, h2, h3⟩ := hA
          exact hQ .normal a' w' ⟨_, μ', o', h1, h2, h3.keepO _⟩
      · split at hr
        · rename_i ks hex hks
          split at hr
          case' h_2 => exact hr.elim
          rename_i hdc
          simp only [run] at hr
          obtain ⟨M, hd⟩ := drawChk_ok hdc
          refine wp_region_any hm ?_
          have hr := opsKd_of _ _ hr
          obtain ⟨suf, σf, hs, hR, hT, hf1, hf2⟩ := trace_of (τ0 := getT σ.t) (h0 := (σ.h, σ.g)) as [] [] σ rfl (by funext x; simp [tF, gF]) (by simp [hF, gF]) hr
          simp only [List.nil_append, List.length_nil, Nat.zero_add] at hT hf1 hf2
          have S1 : SInv nt w0 Fo B σ a { w with drawn := w.drawn + 1 } μ own := ⟨S.inv.drew.1, S.tmps.evo S.inv.drew.2, S.size, S.defers⟩
          have hnone : ∀ j, (Array.replicate ops.size false).getD j false = false := by
            intro j
            rw [Array.getD_eq_getD_getElem?, Array.getElem?_replicate]
            split <;> rfl
          have hcn : ∀ (S : Nat → Bool) m, cn S m ≤ m := by
            intro S m
            induction m with
            | zero => exact Nat.le_refl _
            | succ m ih => simp only [cn]; split <;> omega
          have hnil : ∀ {V : Type} (u : Nat → Option V) (v0 : V) m, gF u (fun j => (Array.replicate ops.size false).getD j false) v0 m = v0 := by
            intro V u v0 m
            induction m with
            | zero => rfl
            | succ m ih =>
              simp only [gF]
              have hne : ¬ ((Array.replicate ops.size false).getD m false = true) := by rw [hnone m]; simp
              rw [if_neg hne, ih]
          refine any_sound (nt := nt) (w0 := w0) (Fo := Fo) (B := B) (kb := kb) hty hin hd hok' hs (fun i hi => hT i (Nat.zero_le _) (by omega)) (ws := w) (hs := σ.h) (μs := μ) (gs := σ.g) (os := own) ?_ ops.size _ (by simp) ?_ (hcn _ _)
            σ.t σ.h σ.g a _ μ own ?_ ?_ S1 S.inv.drew
          · intro t h g a' w' μ' o' ht hh S' out
            refine hQ .normal a' w' ⟨⟨PS.keepT ks t, h, g⟩, μ', o', ?_, out, S'.keepT _⟩
            rw [← hl'] at ht hh
            have e1 : getT t = getT σf.t := ht.trans hf1.symm
            have e2 : (h, g) = (σf.h, σf.g) := hh.trans hf2.symm
            injection e2 with e2 e3
            have e4 : PS.keepT ks t = PS.keepT ks σf.t := by simp only [PS.keepT, e1]
            rw [e4, e2, e3]
            exact hR
          · intro j o hj
            rw [hnone] at hj
            cases hj
          · funext x
            exact (hnil _ _ _).symm
          · exact (hnil _ _ _).symm
        · rename_i tr kh ks hex hks
          split at hr
          case' h_2 => exact hr.elim
          rename_i hec
          simp only [run] at hr
          refine wp_region_any hm ?_
          have S1 : SInv nt w0 Fo B σ a { w with drawn := w.drawn + 1 } μ own := ⟨S.inv.drew.1, S.tmps.evo S.inv.drew.2, S.size, S.defers⟩
          refine ex_sound hty hin hok' hec (Qc := fun σ' => Qa .normal ⟨PS.keepT ks σ'.t, PS.keepH kh σ'.h, σ'.g⟩) (fun t t' h g e hq => ?_) hr S1 (fun σ' a' w' μ' o' hq out S' => ?_)
          · have : PS.keepT ks t' = PS.keepT ks t := by simp only [PS.keepT, funext e]
            show Qa .normal ⟨PS.keepT ks t', PS.keepH kh h, g⟩
            rw [this]; exact hq
          · obtain ⟨o2, out2, S2⟩ := S'.keepH kh
            exact hQ .normal a' w' ⟨⟨PS.keepT ks σ'.t, PS.keepH kh σ'.h, σ'.g⟩, μ', o2, hq, Out.trans S.inv.drew (Out.trans out out2), S2.keepT _⟩
        · exact hr.elim
    · exact hr.elim
  | seq x y ihx ihy =>
    intro Qa Q σ a w μ own S hr hQ
    simp only [strip, run] at hr
    refine wp_seq (ihx _ _ σ a w μ own S hr (fun e a' w' hA => ?_))
    obtain ⟨σ', μ', o', h1, h2, h3⟩ := hA
    cases e with
    | normal =>
      refine ihy _ _ σ' a' w' μ' o' h3 h1 (fun e2 a2 w2 hA2 => ?_)
      obtain ⟨σ2, μ2, o2, q1, q2, q3⟩ := hA2
      exact hQ e2 a2 w2 ⟨σ2, μ2, o2, q1, Out.trans h2 q2, q3⟩
    | exit id => exact hQ (.exit id) a' w' ⟨σ', μ', o', h1, h2, h3⟩
    | ret => exact hQ .ret a' w' ⟨σ', μ', o', h1, h2, h3⟩
  | cond c x y ihx ihy =>
    intro Qa Q σ a w μ own S hr hQ
    simp only [strip, run] at hr
    split at hr
    · rename_i b hb
      have hv := ev_bool S.tmps hb
      exact wp_cond_split hv (fun e => ihx _ _ σ a w μ own S (hr.1 e) hQ) (fun e => ihy _ _ σ a w μ own S (hr.2 e) hQ)
    · exact hr.elim
  | block id x ihx =>
    intro Qa Q σ a w μ own S hr hQ
    simp only [strip, run] at hr
    refine wp_block (ihx _ _ σ a w μ own S hr (fun e a' w' hA => ?_))
    obtain ⟨σ', μ', o', h1, h2, h3⟩ := hA
    cases e with
    | normal => exact hQ .normal a' w' ⟨σ', μ', o', h1, h2, h3⟩
    | exit id' =>
      simp only [inBlockQ] at h1
      simp only [cx, Exit.inBlock]
      split
      · rename_i e
        rw [if_pos e] at h1
        exact hQ .normal a' w' ⟨σ', μ', o', h1, h2, h3⟩
      · rename_i e
        rw [if_neg e] at h1
        exact hQ (.exit id') a' w' ⟨σ', μ', o', h1, h2, h3⟩
    | ret => exact hQ .ret a' w' ⟨σ', μ', o', h1, h2, h3⟩
  | loop x ihx =>
    intro Qa Q σ a w μ own S hr hQ
    simp only [strip, run] at hr
    obtain ⟨n, hr⟩ := hr
    refine wp_loop_rounds n ?_
    have key : ∀ (n : Nat) (σ : St) (a : Act) (w : World) (μ : Nat → Value) (own : List Nat), SInv nt w0 Fo B σ a w μ own → iter (run C kb inlK (strip nt A x)) (A.lkOf (firstR x)).1 (A.lkOf (firstR x)).2 Qa n σ →
        (∀ (e : AExit) (a' : Act) (w' : World), After nt w0 Fo B w σ.h μ σ.g own (Qa e) a' w' → Q (cx e) a' w') → Code.rounds C.P x Q n a w := by
      intro n
      induction n with
      | zero => intro σ a w μ own S hr _; exact hr.elim
      | succ n ih =>
        intro σ a w μ own S hr hQ
        simp only [iter] at hr
        obtain ⟨o1, out1, S1⟩ := S.keepH (A.lkOf (firstR x)).2
        have S2 := S1.keepT (A.lkOf (firstR x)).1
        refine ihx _ _ _ a w μ o1 S2 hr (fun e a' w' hA => ?_)
        obtain ⟨σ', μ', o', h1, h2, h3⟩ := hA
        cases e with
        | normal =>
          refine ih σ' a' w' μ' o' h3 h1 (fun e2 a2 w2 hA2 => ?_)
          obtain ⟨σ2, μ2, o2, q1, q2, q3⟩ := hA2
          exact hQ e2 a2 w2 ⟨σ2, μ2, o2, q1, Out.trans out1 (Out.trans h2 q2), q3⟩
        | exit id => exact hQ (.exit id) a' w' ⟨σ', μ', o', h1, Out.trans out1 h2, h3⟩
        | ret => exact hQ .ret a' w' ⟨σ', μ', o', h1, Out.trans out1 h2, h3⟩
    exact key n σ a w μ own S hr hQ
  | _ =>
    intro Qa Q σ a w μ own S hr hQ
    exact hr.elim

def RV.of : RV → ResultVar
  | .t r => .tmp r
  | .c r T => .cell r T

/-- A function of the program and its clean text. -/
def FnOk (P : Program) (f : Nat) (fa : FnA) (A : Ann) : Prop :=
  ∃ fn c, P.funcs[f]? = some fn ∧ fn.body = some c ∧ (fn.name == "runtime.NumGoroutine") = false ∧ fn.ntmps = fa.nt ∧ fn.results = (fa.res.map RV.of).toArray ∧ fa.res.length ≤ 4 ∧ strip fa.nt A c = fa.ac

theorem FnOk.enters {P : Program} {f : Nat} {fa : FnA} {A : Ann} (h : FnOk P f fa A) : Enters P f := by
  obtain ⟨fn, c, h1, h2, h3, _⟩ := h
  exact ⟨fn, h1, by simp [h2], h3⟩

theorem getT_args0 : ∀ (ds : List D) (n k : Nat), getT (args0 n ds) k = if n ≤ k then ds.getD (k - n) .junk else .junk
  | [], n, k => by simp [args0, getT]
  | d :: ds, n, k => by
    simp only [args0, getT]
    by_cases h : n = k
    · subst h; simp
    · rw [if_neg h, getT_args0 ds (n + 1) k]
      by_cases hk : n ≤ k
      · have e : k - n = (k - (n + 1)) + 1 := by omega
        rw [if_pos hk, if_pos (by omega), e]
        rfl
      · rw [if_neg hk, if_neg (by omega)]

theorem start_rel {w : World} {F : Nat → Prop} {h : List Ent} {μ : Nat → Value} {G nt : Nat} {ds : List D} {vs : List Value} (hl : vs.length = ds.length) (hr : ∀ (i : Nat) (d : D) (v : Value), ds[i]? = some d → vs[i]? = some v → VRep w F h μ G d v) :
    TRel w F h μ G (args0 0 ds) (vs.toArray ++ Array.replicate nt undef) := by
  intro k
  rw [getT_args0, if_pos (Nat.zero_le _), Nat.sub_zero]
  rcases Nat.lt_or_ge k ds.length with hk | hk
  · have e1 : ds.getD k .junk = ds[k] := by rw [List.getD_eq_getElem?_getD, List.getElem?_eq_getElem hk]; rfl
    have e2 : (vs.toArray ++ Array.replicate nt undef).getD k undef = vs[k]'(by omega) := by
      rw [Array.getD_eq_getD_getElem?, Array.getElem?_append_left (by simp; omega)]
      simp [show k < vs.length by omega]
    rw [e1, e2]
    exact hr k _ _ (List.getElem?_eq_getElem hk) (List.getElem?_eq_getElem (by omega))
  · have e1 : ds.getD k .junk = .junk := by rw [List.getD_eq_getElem?_getD, List.getElem?_eq_none hk]; rfl
    rw [e1]
    exact .imm _ _ (.junk _)

/-- One result. -/
def rvGet (tmps : Array Value) : ResultVar → Sem Value
  | .tmp t => pure (tmps.getD t undef)
  | .cell a t => do loadVar t (← asAddr (tmps.getD a undef))

theorem res1 (hty : TyOk C.P C.tt) {σ : St} {a : Act} {w : World} {μ : Nat → Value} {own : List Nat} (S : SInv nt w0 Fo B σ a w μ own) {r : RV} {K : D → Prop} (hk : resK1 C.tt σ K r) :
    ∃ (v : Value) (d : D), K d ∧ (rvGet a.tmps r.of).run C.P w = .ok v w ∧ VRep w (FF own Fo) σ.h μ σ.g d v := by
  cases r with
  | t r => exact ⟨_, _, hk, by simp [RV.of, rvGet], S.tmps r⟩
  | c r T =>
    simp only [resK1] at hk
    split at hk
    · rename_i j g hev
      have hx := S.tmps r
      rw [hev] at hx
      split at hk
      · rename_i cs hf
        obtain ⟨hs, hsz, hk⟩ := hk
        obtain ⟨_, hp⟩ := hx.asPtr
        obtain ⟨b, hb, hv⟩ := hp (by rw [hf]; simp)
        obtain ⟨o1, he, _⟩ := S.inv.hok.has σ.h own hf
        obtain ⟨b', vs, E, hm, hh, hl, h1, hr, _, _⟩ := he.cellsOf
        have hbb : b' = b := by
          rcases hb with hb | ⟨n', c', hb⟩
          · rw [hm] at hb; injection hb with hb; injection hb with hb; injection hb
          · rw [hm] at hb; cases hb
        subst hbb
        have hc : ∀ (j : Nat) (u : Value), vs[j]? = some u → w.cell? ⟨b', 0 + j, none⟩ = some u := fun j u hu => by simp [World.cell?, hh, hu]
        have hlc : (loadCells ⟨b', 0, none⟩ ((C.tt T).sz)).run C.P w = .ok vs.toArray w := by
          have : vs.length = (C.tt T).sz := by omega
          rw [← this]
          exact run_loadCells_list w ⟨b', 0, none⟩ vs (fun j v hv => by rw [Addr.add_lit]; exact hc j v hv)
        refine ⟨.agg vs.toArray, .agg cs, hk, ?_, .agg cs vs hl hr h1⟩
        simp [RV.of, rvGet, hv, asAddr, loadVar, hty.isAgg w T (.inl hs), hs, hty.size w T (known_ne (.inl hs)), hlc]
      · exact hk.elim
    · exact hk.elim

theorem resL_run (hty : TyOk C.P C.tt) {σ : St} {a : Act} {w : World} {μ : Nat → Value} {own : List Nat} (S : SInv nt w0 Fo B σ a w μ own) : ∀ (rs : List RV) (K : List D → Prop), resL C.tt σ rs K →
    ∃ (vs : List Value) (ds : List D), K ds ∧ vs.length = rs.length ∧ vs.length = ds.length ∧ (∀ (i : Nat) (r : RV) (v : Value), rs[i]? = some r → vs[i]? = some v → (rvGet a.tmps r.of).run C.P w = .ok v w) ∧ ∀ (i : Nat) (d : D) (v : Value), ds[i]? = some d → vs[i]? = some v → VRep w (FF own Fo) σ.h μ σ.g d v
  | [], K, hk => ⟨[], [], hk, rfl, rfl, by simp, by simp⟩
  | r :: rs, K, hk => by
    obtain ⟨v, d, hk, h1, h2⟩ := res1 hty S hk
    obtain ⟨vs, ds, hk, q1, q2, q3, q4⟩ := resL_run hty S rs _ hk
    refine ⟨v :: vs, d :: ds, hk, by simp [q1], by simp [q2], fun i r' v' hr hv => ?_, fun i d' v' hd hv => ?_⟩
    · cases i with
      | zero =>
        obtain rfl : r = r' := by simpa using hr
        obtain rfl : v = v' := by simpa using hv
        exact h1
      | succ i => exact q3 i r' v' (by simpa using hr) (by simpa using hv)
    · cases i with
      | zero =>
        obtain rfl : d = d' := by simpa using hd
        obtain rfl : v = v' := by simpa using hv
        exact h2
      | succ i => exact q4 i d' v' (by simpa using hd) (by simpa using hv)

theorem results_get {fn : Func} (tmps : Array Value) : results fn tmps = (do let vs ← fn.results.mapM (rvGet tmps); pure (if h : vs.size = 1 then vs[0] else .tuple vs)) := by
  unfold results
  rfl

theorem results_ok (hty : TyOk C.P C.tt) {σ : St} {a : Act} {w : World} {μ : Nat → Value} {own : List Nat} (S : SInv nt w0 Fo B σ a w μ own) {fn : Func} {res : List RV} (h : fn.results = (res.map RV.of).toArray) (h4 : res.length ≤ 4) {K : D → Prop} (hk : resK C.tt res σ K) :
    ∃ (v : Value) (d : D), K d ∧ (results fn a.tmps).run C.P w = .ok v w ∧ VRep w (FF own Fo) σ.h μ σ.g d v := by
  rw [results_get, h]
  have many : ∀ (rs : List RV), rs.length ≤ 4 → rs.length ≠ 1 → resL C.tt σ rs (fun ds => K (.tup ds)) →
      ∃ (v : Value) (d : D), K d ∧ (do let vs ← ((rs.map RV.of).toArray).mapM (rvGet a.tmps); pure (if h : vs.size = 1 then vs[0] else Value.tuple vs) : Sem Value).run C.P w = .ok v w ∧ VRep w (FF own Fo) σ.h μ σ.g d v := by
    intro rs h4 h1 hk
    obtain ⟨vs, ds, hk, q1, q2, q3, q4⟩ := resL_run hty S rs _ hk
    refine ⟨.tuple vs.toArray, _, hk, ?_, .tup ds vs q2 q4⟩
    match rs, vs, h4, h1, q1, q3 with
    | [], [], _, _, _, _ => simp
    | [r1, r2], [v1, v2], _, _, _, q3 =>
      have e1 := q3 0 r1 v1 rfl rfl
      have e2 := q3 1 r2 v2 rfl rfl
      simp [e1, e2]
    | [r1, r2, r3], [v1, v2, v3], _, _, _, q3 =>
      have e1 := q3 0 r1 v1 rfl rfl
      have e2 := q3 1 r2 v2 rfl rfl
      have e3 := q3 2 r3 v3 rfl rfl
      simp [e1, e2, e3]
    | [r1, r2, r3, r4], [v1, v2, v3, v4], _, _, _, q3 =>
      have e1 := q3 0 r1 v1 rfl rfl
      have e2 := q3 1 r2 v2 rfl rfl
      have e3 := q3 2 r3 v3 rfl rfl
      have e4 := q3 3 r4 v4 rfl rfl
      simp [e1, e2, e3, e4]
  match res, h4, hk with
  | [r], _, hk =>
    obtain ⟨v, d, hk, h1, h2⟩ := res1 hty S hk
    exact ⟨v, d, hk, by simp [h1], h2⟩
  | [], h4, hk => exact many [] h4 (by simp) hk
  | r1 :: r2 :: rs, h4, hk => exact many (r1 :: r2 :: rs) h4 (by simp) hk

/-- A call that is run in place, or from its start. -/
theorem body_sound (hty : TyOk C.P C.tt) (hm : C.P.follows .mixedOrders = true) {kb : Nat} {inlK : Nat → List D → List Ent → Nat → (D → List Ent → Nat → Prop) → Prop} (hin : InlOk C inlK) {f : Nat} {fa : FnA} {A : Ann} (hf : FnOk C.P f fa A)
    {ds : List D} {vs : List Value} {h : List Ent} {G : Nat} {w : World} {μ : Nat → Value} {own : List Nat} (I : HInv w0 Fo B w h μ G own) (hl : vs.length = ds.length)
    (hr : ∀ (i : Nat) (d : D) (v : Value), ds[i]? = some d → vs[i]? = some v → VRep w (FF own Fo) h μ G d v) {Qa : AExit → St → Prop} (hrun : run C kb inlK fa.ac Qa ⟨args0 0 ds, h, G⟩)
    {K : St → D → Prop} (hQa : ∀ e σ', Qa e σ' → (∀ id, e ≠ .exit id) ∧ resK C.tt fa.res σ' (K σ'))
    {R : Ending → World → Prop} (hend : ∀ (σ' : St) (w' : World) (μ' : Nat → Value) (o' : List Nat) (d : D) (v : Value), K σ' d → Out w0 Fo B w h μ G own w' σ'.h μ' σ'.g o' → VRep w' (FF o' Fo) σ'.h μ' σ'.g d v →
      R (.returned v) w') : Calls C.P f vs.toArray w R := by
  obtain ⟨fn, c, h1, h2, h3, h4, h5, h6, h7⟩ := hf
  refine calls_of_wp h1 h2 ?_
  rw [← h7] at hrun
  have S : SInv fa.nt w0 Fo B ⟨args0 0 ds, h, G⟩ { tmps := vs.toArray ++ Array.replicate (fn.ntmps - vs.toArray.size) undef, defers := [] } w μ own :=
    ⟨I, start_rel hl hr, by simp [h4]; omega, rfl⟩
  refine run_sound hty hm hin c Qa _ _ _ w μ own S hrun (fun e a' w' hA => ?_)
  obtain ⟨σ', μ', o', q1, q2, q3⟩ := hA
  obtain ⟨hne, hres⟩ := hQa e σ' q1
  obtain ⟨v, d, hK, hv1, hv2⟩ := results_ok hty q3 h5 h6 hres
  have hR := hend σ' w' μ' o' d v hK q2 hv2
  cases e with
  | normal => exact ⟨q3.defers, v, hv1, hR⟩
  | exit id => exact absurd rfl (hne id)
  | ret => exact ⟨q3.defers, v, hv1, hR⟩

theorem inl_ok (hty : TyOk C.P C.tt) (hm : C.P.follows .mixedOrders = true) (hinl : ∀ f fa, C.inl f = some fa → ∃ A, FnOk C.P f fa A) : ∀ n kb, InlOk C (inl C n kb) := by
  intro n
  induction n with
  | zero => intro kb id ds h G K hk; exact hk.elim
  | succ n ih =>
    intro kb id ds h G K hk
    simp only [inl] at hk
    split at hk
    · exact hk.elim
    · rename_i fa hfa
      obtain ⟨A, hf⟩ := hinl id fa hfa
      refine ⟨hf.enters, fun w0 Fo B w μ own vs I hl hr => ?_⟩
      refine body_sound hty hm (ih (kb + 4000)) hf I hl hr hk (K := fun σ d => K d σ.h σ.g) (fun e σ' q => ?_) (fun σ' w' μ' o' d v q1 q2 q3 => ⟨v, _, _, _, _, _, rfl, q1, q2, q3⟩)
      cases e with
      | exit id => exact q.elim
      | normal => exact ⟨(fun _ h => by cases h), q⟩
      | ret => exact ⟨(fun _ h => by cases h), q⟩

end

section
variable {C : Ctx}

theorem resK1_mono {tt : Nat → Ty} {σ : St} {K K' : D → Prop} (h : ∀ d, K d → K' d) {r : RV} (hk : resK1 tt σ K r) : resK1 tt σ K' r := by
  cases r with
  | t r => exact h _ hk
  | c r T =>
    simp only [resK1] at hk ⊢
    split at hk
    · split at hk
      · exact ⟨hk.1, hk.2.1, h _ hk.2.2⟩
      · exact hk.elim
    · exact hk.elim

theorem resL_mono {tt : Nat → Ty} {σ : St} : ∀ {rs : List RV} {K K' : List D → Prop}, (∀ d, K d → K' d) → resL tt σ rs K → resL tt σ rs K'
  | [], K, K', h, hk => h _ hk
  | r :: rs, K, K', h, hk => resK1_mono (fun d hd => resL_mono (fun ds hds => h _ hds) hd) hk

theorem resK_mono {tt : Nat → Ty} {σ : St} {res : List RV} {K K' : D → Prop} (h : ∀ d, K d → K' d) (hk : resK tt res σ K) : resK tt res σ K' := by
  match res, hk with
  | [r], hk => exact resK1_mono h hk
  | [], hk => exact h _ hk
  | r1 :: r2 :: rs, hk => exact resL_mono (rs := r1 :: r2 :: rs) (fun ds hds => h _ hds) hk

/-- What is proved by a clean run. -/
theorem pc_of_run (hty : TyOk C.P C.tt) (hm : C.P.follows .mixedOrders = true) {kb : Nat} {inlK : Nat → List D → List Ent → Nat → (D → List Ent → Nat → Prop) → Prop} (hin : InlOk C inlK) {f : Nat} {fa : FnA} {A : Ann} (hf : FnOk C.P f fa A)
    {ds : List D} {io : Option (List D)} {fresh : Bool} {R : D → List D → Prop} (hrun : run C kb inlK fa.ac (retQ C.tt fresh fa.res R io.isSome) ⟨args0 0 ds, hio io, 1⟩) : PC C.P f ds io fresh R := by
  refine ⟨hf.enters, fun w vs F B hF hl hr hio => ?_⟩
  -- the block that it is handed
  have start : ∃ (μ : Nat → Value) (own : List Nat), HInv w F B w (PS.hio io) μ 1 own ∧ (∀ c, FF own F c → F c) ∧ (∀ b, B = some b → μ 0 = .pointer (some ⟨b, 0, none⟩)) ∧ (B ≠ none → io.isSome = true) := by
    cases io with
    | none =>
      have hB : B = none := hio
      exact ⟨fun _ => undef, [], ⟨⟨rfl, rfl, rfl, Nat.le_refl _, fun _ _ _ => rfl⟩, hF, rfl, by simp, by simp [PS.hio]⟩, fun c hc => hc.elim (fun h => by simp at h) id, (fun b hb => by rw [hB] at hb; cases hb), fun h => absurd hB h⟩
    | some cs =>
      obtain ⟨b, bv, E, hB, hFb, hb, hlen, hcs⟩ := hio
      have hFF : ∀ c, FF [b] F c → F c := fun c hc => hc.elim (fun h => by simp at h; rw [h]; exact hFb) id
      refine ⟨fun _ => .pointer (some ⟨b, 0, none⟩), [b], ⟨⟨rfl, rfl, rfl, Nat.le_refl _, fun _ _ _ => rfl⟩, hF, ⟨[b], [], rfl, ⟨Nat.zero_lt_one, ?_⟩, rfl⟩, by simp, by simp [PS.hio]⟩, hFF, (fun b' hb' => by rw [hB] at hb'; injection hb' with hb'; rw [hb']), fun _ => rfl⟩
      refine ⟨b, bv, E, rfl, hb, hlen, ?_, ?_, rfl, .inr hB⟩
      · intro v hv
        obtain ⟨i, hi⟩ := List.mem_iff_getElem?.1 hv
        have hil : i < cs.length := by have := (List.getElem?_eq_some_iff.1 hi).1; omega
        exact (hcs i _ v (List.getElem?_eq_getElem hil) hi).1
      · intro i d v hd hv
        exact .imm _ _ ((hcs i d v hd hv).2.weak (fun c hc _ => hFF c hc))
  obtain ⟨μ, own, I, hFF, hμ, hBs⟩ := start
  refine body_sound hty hm hin hf I (by simpa using hl) (fun i d v hd hv => ?_) hrun
    (K := fun σ d => (match io.isSome with
      | false => endK fresh R [] σ.h d
      | true => ∃ cs, find σ.h 0 0 = some (.cells cs) ∧ pureL cs ∧ endK fresh R cs σ.h d)) (fun e σ' q => ?_) (fun σ' w' μ' o' d v q1 q2 q3 => ?_)
  · rcases hr i d v hd hv with h | ⟨rfl, b, hb, rfl⟩
    · exact .imm _ _ (h.weak (fun c hc _ => hFF c hc))
    · exact .ptr 0 0 0 _ Nat.zero_lt_one (fun _ => ⟨b, .inl (hμ b hb), rfl⟩)
  · have hne : ∀ id, e ≠ .exit id := by
      intro id he
      subst he
      exact q
    refine ⟨hne, ?_⟩
    have q' : (match io.isSome with
      | false => retK C.tt fresh fa.res R [] σ'
      | true => match find σ'.h 0 0 with
        | some (.cells cs) => pureL cs ∧ retK C.tt fresh fa.res R cs σ'
        | _ => False) := by
      cases e with
      | exit id => exact absurd rfl (hne id)
      | normal => exact q
      | ret => exact q
    cases hi : io.isSome with
    | false => rw [hi] at q'; exact q'
    | true =>
      rw [hi] at q'
      simp only [] at q'
      split at q'
      · rename_i cs hfind
        refine resK_mono (fun d hd => ⟨cs, hfind, q'.1, hd⟩) q'.2
      · exact q'.elim
  · have hend : ∀ cs, endK fresh R cs σ'.h d → IoOut w' F B cs io → ∃ (v' : Value) (r : D) (cs' : List D) (own : List Nat), Ending.returned v = .returned v' ∧ R r cs' ∧ (fresh = true → OwnedD r) ∧ w.grownBy w' B ∧
        ORep w' (fun b => if fresh = true then b < w.heap.size else F b) w.heap.size r v' own ∧ own.Nodup ∧ IoOut w' F B cs' io := by
      intro cs hk hio'
      have I' := q2.1
      cases fresh with
      | true =>
        obtain ⟨k1, k2, k3⟩ := hk
        obtain ⟨o1, rest, p1, p2, p3, p4⟩ := own_at 5 _ _ q3 σ'.h o' I'.hok I'.nodup (fun _ _ _ => rfl) k1
        exact ⟨v, _, cs, o1, rfl, k3, fun _ => k2, I'.grown, p1.anyF k2 _, (List.nodup_append.1 p3).1, hio'⟩
      | false =>
        have hk : R (derS 5 d) cs := hk
        exact ⟨v, _, cs, [], rfl, hk, (fun h => by cases h), I'.grown, .base _ _ ((q3.derS 5).weak (fun c hc _ => .inr (by simpa using hc))), by simp, hio'⟩
    cases io with
    | none => exact hend [] q1 trivial
    | some cs0 =>
      obtain ⟨cs, hfind, hpu, q1⟩ := q1
      obtain ⟨b, bv, E, hB, hFb, hb, hlen, hcs⟩ := hio
      obtain ⟨o1, he, _⟩ := HOk.has σ'.h o' q2.1.hok hfind
      obtain ⟨b', bv', E', r1, r2, r3, r4, r5, r6, r7⟩ := he.cellsOf
      have hmu : μ' 0 = μ 0 := q2.2.mu 0 Nat.zero_lt_one
      rw [hmu, hμ b hB] at r1
      injection r1 with r1; injection r1 with r1; injection r1 with r1
      subst r1
      refine hend cs q1 ⟨b, bv', E', hB, r2, r3, fun i d v hd hv => ⟨r4 v (List.mem_of_getElem? hv), ?_⟩⟩
      exact ((r5 i d v hd hv).pure 5 (hpu d (List.mem_of_getElem? hd))).weak (fun c hc _ => .inr hc)

end
end Go.PS
end

section
-- The clean table of types, read off the program.
set_option linter.unusedVariables false
set_option linter.unusedSimpArgs false
set_option linter.unusedSectionVars false
namespace Go.PS

def zd0 : Value → Option D
  | .bool b => some (.bool b)
  | .int k n => some (.int k n)
  | .string s => some (.str s.data.toList)
  | .slice none 0 0 => some .nil
  | _ => none

def zd : Value → Option D
  | .agg vs => (vs.toList.mapM zd0).map .agg
  | v => zd0 v

def kdOf (P : Program) : TypeDesc → Kd
  | .int k => .int k
  | .bool => .bool
  | .string => .str
  | .slice e => .slice e
  | .pointer e => .ptr e
  | .func .. => .func
  | .struct fields => if (fields.toList.all fun f => (P.info? f.type).isSome) = true then .struct (fields.toList.map fun f => (f.offset, f.type)) else .other
  | _ => .other

def fitsB (kd : Kd) (sz : Nat) : D → Bool
  | .agg xs => (match kd with | .struct _ => true | _ => false) && xs.length == sz
  | d => (match kd with | .struct _ | .other => false | _ => true) && sz == 1 && isCell d

def zeroOf (kd : Kd) (sz : Nat) (z : Option Value) : Option D :=
  match z.bind zd with
  | some d => if (fitsB kd sz d && pureD 5 d) = true then some d else none
  | none => none

def tyOf (P : Program) (T : Nat) : Ty :=
  match P.info? T with
  | none => ⟨.other, 0, 0, none⟩
  | some i => if i.bytes ≤ 64 then
      let kd := match P.underlying T with | some d => kdOf P d | none => .other
      ⟨kd, i.size, i.bytes, zeroOf kd i.size i.zero⟩
    else ⟨.other, i.size, i.bytes, none⟩

theorem zd0_rep {v : Value} {d : D} (h : zd0 v = some d) (w : World) (F : Nat → Prop) : Rep w F d v ∧ v.oneCell' = true := by
  unfold zd0 at h
  split at h
  · injection h with h; subst h; exact ⟨.bool _, rfl⟩
  · injection h with h; subst h; exact ⟨.int _ _, rfl⟩
  · rename_i s
    injection h with h; subst h
    have := Rep.str (w := w) (F := F) s.data.toList
    exact ⟨by simpa using this, rfl⟩
  · injection h with h; subst h; exact ⟨.nil, rfl⟩
  · cases h

theorem mapM_zd0 {w : World} {F : Nat → Prop} : ∀ (vs : List Value) (ds : List D), vs.mapM zd0 = some ds → vs.length = ds.length ∧ (∀ (i : Nat) (d : D) (v : Value), ds[i]? = some d → vs[i]? = some v → Rep w F d v) ∧ Ones vs
  | [], ds, h => by
    simp at h
    subst h
    exact ⟨rfl, by simp, by simp [Ones]⟩
  | v :: vs, ds, h => by
    rw [List.mapM_cons] at h
    cases h1 : zd0 v with
    | none => rw [h1] at h; cases h
    | some d =>
      rw [h1] at h
      cases h2 : vs.mapM zd0 with
      | none => rw [h2] at h; cases h
      | some ds' =>
        rw [h2] at h
        obtain rfl : d :: ds' = ds := by simpa using h
        obtain ⟨q1, q2, q3⟩ := mapM_zd0 (w := w) (F := F) vs ds' h2
        obtain ⟨r1, r2⟩ := zd0_rep h1 w F
        refine ⟨by simp [q1], fun i d' v' hd hv => ?_, fun v' hv => ?_⟩
        · cases i with
          | zero =>
            obtain rfl : d = d' := by simpa using hd
            obtain rfl : v = v' := by simpa using hv
            exact r1
          | succ i => exact q2 i d' v' (by simpa using hd) (by simpa using hv)
        · rcases List.mem_cons.1 hv with rfl | hv
          · exact r2
          · exact q3 v' hv

theorem zd_rep {v : Value} {d : D} (h : zd v = some d) (w : World) (F : Nat → Prop) : Rep w F d v := by
  unfold zd at h
  split at h
  · rename_i vs
    cases h1 : vs.toList.mapM zd0 with
    | none => rw [h1] at h; cases h
    | some ds =>
      rw [h1] at h
      obtain rfl : D.agg ds = d := by simpa using h
      obtain ⟨q1, q2, q3⟩ := mapM_zd0 (w := w) (F := F) _ _ h1
      have := Rep.agg (w := w) (F := F) ds vs.toList q1 q2 q3
      simpa using this
  · exact (zd0_rep h w F).1

theorem tyOf_kd {P : Program} {T : Nat} {k : Kd} (h : (tyOf P T).kd = k) (hk : k ≠ .other) : ∃ i d, P.info? T = some i ∧ i.bytes ≤ 64 ∧ P.underlying T = some d ∧ kdOf P d = k ∧ tyOf P T = ⟨k, i.size, i.bytes, zeroOf k i.size i.zero⟩ := by
  unfold tyOf at h ⊢
  split at h
  · exact absurd h.symm hk
  · rename_i i hi
    split at h
    · rename_i hb
      simp only [] at h
      cases hu : P.underlying T with
      | none => rw [hu] at h; exact absurd h.symm hk
      | some d =>
        rw [hu] at h
        simp only [] at h
        refine ⟨i, d, hi, hb, rfl, h, ?_⟩
        rw [if_pos hb]
        subst h
        rfl
    · exact absurd h.symm hk

theorem tyOf_sz {P : Program} {T : Nat} {i : TypeInfo} (h : P.info? T = some i) : (tyOf P T).sz = i.size := by
  unfold tyOf
  rw [h]
  simp only []
  split <;> rfl

theorem mapM_some {α β : Type} {f : α → Option β} {g : α → β} : ∀ (l : List α), (∀ x ∈ l, f x = some (g x)) → l.mapM f = some (l.map g)
  | [], _ => rfl
  | x :: l, h => by
    rw [List.mapM_cons, h x (by simp), mapM_some l (fun y hy => h y (by simp [hy]))]
    rfl

theorem tyOf_ok (P : Program) : TyOk P (tyOf P) where
  int T k h := by
    obtain ⟨i, d, h1, h2, h3, h4, h5⟩ := tyOf_kd h (by simp)
    cases d <;> simp [kdOf] at h4 <;> first | (subst h4; exact h3) | (split at h4 <;> simp at h4)
  bool T h := by
    obtain ⟨i, d, h1, h2, h3, h4, h5⟩ := tyOf_kd h (by simp)
    cases d <;> simp [kdOf] at h4 <;> first | exact h3 | (split at h4 <;> simp at h4)
  str T h := by
    obtain ⟨i, d, h1, h2, h3, h4, h5⟩ := tyOf_kd h (by simp)
    cases d <;> simp [kdOf] at h4 <;> first | exact h3 | (split at h4 <;> simp at h4)
  slice T e h := by
    obtain ⟨i, d, h1, h2, h3, h4, h5⟩ := tyOf_kd h (by simp)
    cases d <;> simp [kdOf] at h4 <;> first | (subst h4; exact h3) | (split at h4 <;> simp at h4)
  ptr T e h := by
    obtain ⟨i, d, h1, h2, h3, h4, h5⟩ := tyOf_kd h (by simp)
    cases d <;> simp [kdOf] at h4 <;> first | (subst h4; exact h3) | (split at h4 <;> simp at h4)
  func T h := by
    obtain ⟨i, d, h1, h2, h3, h4, h5⟩ := tyOf_kd h (by simp)
    cases d <;> simp [kdOf] at h4 <;> first | exact ⟨_, _, _, h3⟩ | (split at h4 <;> simp at h4)
  struct T fs h := by
    obtain ⟨i, d, h1, h2, h3, h4, h5⟩ := tyOf_kd h (by simp)
    cases d with
    | struct fields =>
      simp only [kdOf] at h4
      split at h4
      · rename_i hall
        injection h4 with h4
        subst h4
        refine ⟨fields, h3, fun i => ?_, ?_⟩
        · rw [List.getElem?_map]
          simp
        · rw [List.map_map]
          refine mapM_some _ (fun f hf => ?_)
          have := List.all_eq_true.1 hall f hf
          obtain ⟨j, hj⟩ := Option.isSome_iff_exists.1 this
          simp only [hj, Option.map_some, Function.comp, tyOf_sz hj]
      · cases h4
    | _ => simp [kdOf] at h4
  info T h := by
    obtain ⟨i, d, h1, h2, h3, h4, h5⟩ := tyOf_kd rfl h
    refine ⟨i, h1, by rw [h5], by rw [h5], by rw [h5]; exact h2, fun z hz => ?_⟩
    rw [h5] at hz ⊢
    simp only [zeroOf] at hz
    split at hz
    · rename_i dz hdz
      split at hz
      · rename_i hc
        injection hz with hz
        subst hz
        rw [Bool.and_eq_true] at hc
        cases hiz : i.zero with
        | none => rw [hiz] at hdz; cases hdz
        | some zv =>
          rw [hiz] at hdz
          refine ⟨⟨zv, rfl, fun w F => zd_rep hdz w F⟩, ?_, hc.2⟩
          have hf := hc.1
          unfold fitsB at hf
          unfold fitsT Ty.isStruct Ty.flat
          split at hf
          · rw [Bool.and_eq_true] at hf
            exact ⟨hf.1, by simpa using hf.2⟩
          · rename_i hne
            rw [Bool.and_eq_true, Bool.and_eq_true] at hf
            split
            · rename_i xs; exact absurd rfl (hne xs)
            · exact ⟨hf.1.1, by simpa using hf.1.2, hf.2⟩
      · cases hz
    · cases hz

end Go.PS
end

section
-- The clean run is monotone; loops by what holds at their head.
set_option linter.unusedVariables false
set_option linter.unusedSimpArgs false
set_option linter.unusedSectionVars false
namespace Go.PS

def InlMono (inlK : Nat → List D → List Ent → Nat → (D → List Ent → Nat → Prop) → Prop) : Prop :=
  ∀ f ds h g (K K' : D → List Ent → Nat → Prop), (∀ d h g, K d h g → K' d h g) → inlK f ds h g K → inlK f ds h g K'

section
variable {C : Ctx} {kb : Nat} {inlK : Nat → List D → List Ent → Nat → (D → List Ent → Nat → Prop) → Prop}

theorem callK_mono (hi : InlMono inlK) {k fl : Nat} {f : D} {args : List D} {σ : St} {K K' : D → List Ent → Nat → Prop} (h : ∀ d h g, K d h g → K' d h g) (hk : callK C k inlK fl f args σ K) : callK C k inlK fl f args σ K' := by
  unfold callK at hk ⊢
  split at hk
  · split at hk
    · obtain ⟨R, h1, h2⟩ := hk; exact ⟨R, h1, fun r cs hr => h _ _ _ (h2 r cs hr)⟩
    · obtain ⟨R, h1, h2⟩ := hk; exact ⟨R, h1, fun r cs hr => h _ _ _ (h2 r cs hr)⟩
    · obtain ⟨R, h1, h2⟩ := hk; exact ⟨R, h1, fun r cs hr => h _ _ _ (h2 r cs hr)⟩
    · obtain ⟨v, h1, h2⟩ := hk; exact ⟨v, h1, h _ _ _ h2⟩
    · exact hi _ _ _ _ _ _ h hk
    · split at hk
      · split at hk
        · obtain ⟨hp, hk⟩ := hk
          refine ⟨hp, ?_⟩
          split at hk
          · obtain ⟨R, h1, h2⟩ := hk; exact ⟨R, h1, fun r cs hr => h _ _ _ (h2 r cs hr)⟩
          · exact hk.elim
          · obtain ⟨R, h1, h2⟩ := hk; exact ⟨R, h1, fun r cs hr => h _ _ _ (h2 r cs hr)⟩
        · exact hk.elim
      · exact hk.elim
  · exact hk.elim

theorem opC_mono (hi : InlMono inlK) {a : AOper} {σ : St} {K K' : D → List Ent → Nat → Prop} (h : ∀ d h g, K d h g → K' d h g) (hk : opC C kb inlK a σ K) : opC C kb inlK a σ K' := by
  unfold opC at hk ⊢
  split at hk
  · exact callK_mono hi h hk
  · exact opK_mono hk h

theorem guardK_mono {gd : Option (Nat × Bool)} {t : List (Nat × D)} {K1 K2 K1' K2' : List (Nat × D) → Prop} (h1 : ∀ t, K1 t → K1' t) (h2 : ∀ t, K2 t → K2' t) (hk : guardK gd t K1 K2) : guardK gd t K1' K2' := by
  unfold guardK at hk ⊢
  split at hk
  · exact h1 _ hk
  · split at hk
    · exact ⟨fun e => h1 _ (hk.1 e), fun e => h2 _ (hk.2 e)⟩
    · exact h2 _ hk
    · exact hk.elim

theorem opsK_mono (hi : InlMono inlK) : ∀ (as : List AOper) {σ : St} {Q Q' : St → Prop}, (∀ σ, Q σ → Q' σ) → opsK C kb inlK as σ Q → opsK C kb inlK as σ Q'
  | [], σ, Q, Q', h, hk => h _ hk
  | a :: as, σ, Q, Q', h, hk => guardK_mono (fun t ht => opC_mono hi (fun d h' g hr => opsK_mono hi as h hr) ht) (fun t ht => opsK_mono hi as h ht) hk

theorem opsKc_mono : ∀ (as : List AOper) {σ : St} {Q Q' : St → Prop}, (∀ σ, Q σ → Q' σ) → opsKc C kb inlK as σ Q → opsKc C kb inlK as σ Q'
  | [], σ, Q, Q', h, hk => h _ hk
  | a :: as, σ, Q, Q', h, hk => by
    simp only [opsKc] at hk ⊢
    refine guardK_mono (fun t ht => ?_) (fun t ht => opsKc_mono as h ht) hk
    split at ht
    · obtain ⟨d, h', g, h1, h2, h3⟩ := ht
      exact ⟨d, h', g, h1, h2, opsKc_mono as h h3⟩
    · exact opK_mono ht (fun d h' g hr => opsKc_mono as h hr)

theorem thenQ_mono {n n' : St → Prop} {Q Q' : AExit → St → Prop} (h1 : ∀ σ, n σ → n' σ) (h2 : ∀ e σ, Q e σ → Q' e σ) : ∀ e σ, thenQ n Q e σ → thenQ n' Q' e σ := by
  intro e σ h
  cases e with
  | normal => exact h1 σ h
  | exit id => exact h2 _ σ h
  | ret => exact h2 _ σ h

theorem iter_mono {body : (AExit → St → Prop) → St → Prop} (hb : ∀ (Q Q' : AExit → St → Prop) σ, (∀ e σ, Q e σ → Q' e σ) → body Q σ → body Q' σ) {keep kh : List Nat} {Q Q' : AExit → St → Prop} (h : ∀ e σ, Q e σ → Q' e σ) :
    ∀ n σ, iter body keep kh Q n σ → iter body keep kh Q' n σ
  | 0, σ, hk => hk.elim
  | n + 1, σ, hk => hb _ _ _ (thenQ_mono (fun σ hs => iter_mono hb h n σ hs) h) hk

theorem exT_mono {ops : List AOper} {Q Q' : St → Prop} (h : ∀ σ, Q σ → Q' σ) : ∀ (tr : Ex) (σ : St), exT C kb inlK ops Q tr σ → exT C kb inlK ops Q' tr σ
  | .fin, σ, hk => h σ hk
  | .stop, _, _ => trivial
  | .one i t, σ, hk => by
    simp only [exT, exO] at hk ⊢
    split at hk
    · exact opsKc_mono _ (fun σ' hs => exT_mono h t σ' hs) hk
    · exact hk.elim
  | .imm i t, σ, hk => by
    simp only [exT, exO] at hk ⊢
    refine ⟨hk.1, ?_⟩
    have hk := hk.2
    split at hk
    · exact opsKc_mono _ (fun σ' hs => exT_mono h t σ' hs) hk
    · exact hk.elim
  | .alt i t r, σ, hk => by
    simp only [exT, exO] at hk ⊢
    refine ⟨?_, exT_mono h r σ hk.2⟩
    have hk := hk.1
    split at hk
    · exact opsKc_mono _ (fun σ' hs => exT_mono h t σ' hs) hk
    · exact hk.elim

theorem run_mono (hi : InlMono inlK) : ∀ (c : AC) (Q Q' : AExit → St → Prop) (σ : St), (∀ e σ, Q e σ → Q' e σ) → run C kb inlK c Q σ → run C kb inlK c Q' σ := by
  intro c
  induction c with
  | skip => intro Q Q' σ h hk; exact h _ _ hk
  | ret => intro Q Q' σ h hk; exact h _ _ hk
  | exit id => intro Q Q' σ h hk; exact h _ _ hk
  | region draw ops keep =>
    intro Q Q' σ h hk
    cases draw with
    | false => exact opsK_mono hi ops (fun σ' hs => h _ _ hs) hk
    | true => exact opsKc_mono ops (fun σ' hs => h _ _ hs) hk
  | expl ops tr ks kh => intro Q Q' σ h hk; exact exT_mono (fun σ' hs => h _ _ hs) tr σ hk
  | seq a b iha ihb =>
    intro Q Q' σ h hk
    simp only [run] at hk ⊢
    exact iha _ _ σ (thenQ_mono (fun σ hs => ihb _ _ σ h hs) h) hk
  | cond c a b iha ihb =>
    intro Q Q' σ h hk
    simp only [run] at hk ⊢
    split at hk
    · exact ⟨fun e => iha _ _ σ h (hk.1 e), fun e => ihb _ _ σ h (hk.2 e)⟩
    · exact hk.elim
  | block id a iha =>
    intro Q Q' σ h hk
    simp only [run] at hk ⊢
    refine iha _ _ σ (fun e σ' hs => ?_) hk
    cases e with
    | normal => exact h _ _ hs
    | exit id' =>
      simp only [inBlockQ] at hs ⊢
      split <;> rename_i e
      · rw [if_pos e] at hs; exact h _ _ hs
      · rw [if_neg e] at hs; exact h _ _ hs
    | ret => exact h _ _ hs
  | loop keep kh a iha =>
    intro Q Q' σ h hk
    simp only [run] at hk ⊢
    obtain ⟨n, hk⟩ := hk
    exact ⟨n, iter_mono (fun Q Q' σ hq hb => iha Q Q' σ hq hb) h n σ hk⟩
  | bad => intro Q Q' σ h hk; exact hk.elim

end

theorem inl_mono (C : Ctx) : ∀ n kb, InlMono (inl C n kb) := by
  intro n
  induction n with
  | zero => intro kb f ds h g K K' hm hk; exact hk.elim
  | succ n ih =>
    intro kb f ds h g K K' hm hk
    simp only [inl] at hk ⊢
    split at hk
    · exact hk.elim
    · refine run_mono (ih _) _ _ _ _ (fun e σ hs => ?_) hk
      cases e with
      | exit id => exact hs
      | normal => exact resK_mono (fun d hd => hm _ _ _ hd) hs
      | ret => exact resK_mono (fun d hd => hm _ _ _ hd) hs

section
variable {C : Ctx} {kb n : Nat}

theorem run_mono' {c : AC} {Q Q' : AExit → St → Prop} {σ : St} (h : ∀ e σ, Q e σ → Q' e σ) (hk : run C kb (inl C n kb) c Q σ) : run C kb (inl C n kb) c Q' σ := run_mono (inl_mono C n kb) c Q Q' σ h hk

/-- A loop by what holds at its head, 'm' turns before its end at most. -/
theorem loop_inv {keep kh : List Nat} {a : AC} {Q : AExit → St → Prop} {σ : St} (I : Nat → St → Prop) (m0 : Nat) (h0 : I m0 ⟨keepT keep σ.t, keepH kh σ.h, σ.g⟩)
    (step : ∀ m σ, I m σ → run C kb (inl C n kb) a (fun e σ' => match e with
      | .normal => ∃ m', m' < m ∧ I m' ⟨keepT keep σ'.t, keepH kh σ'.h, σ'.g⟩
      | e => Q e σ') σ) : run C kb (inl C n kb) (.loop keep kh a) Q σ := by
  have key : ∀ m σ, I m ⟨keepT keep σ.t, keepH kh σ.h, σ.g⟩ → iter (run C kb (inl C n kb) a) keep kh Q (m + 1) σ := by
    intro m
    induction m using Nat.strongRecOn with
    | _ m ih =>
      intro σ hI
      simp only [iter]
      refine run_mono' (fun e σ' hs => ?_) (step m _ hI)
      cases e with
      | normal =>
        obtain ⟨m', hm, hI'⟩ := hs
        have h1 := ih m' hm σ' hI'
        -- more turns do no harm
        have more : ∀ k k' σ, k ≤ k' → iter (run C kb (inl C n kb) a) keep kh Q k σ → iter (run C kb (inl C n kb) a) keep kh Q k' σ := by
          intro k
          induction k with
          | zero => intro k' σ _ h; exact h.elim
          | succ k ihk =>
            intro k' σ hle h
            cases k' with
            | zero => omega
            | succ k' =>
              simp only [iter] at h ⊢
              exact run_mono' (thenQ_mono (fun σ hs => ihk k' σ (by omega) hs) (fun _ _ h => h)) h
        exact more _ _ σ' (by omega) h1
      | exit id => exact hs
      | ret => exact hs
  exact ⟨m0 + 1, key m0 σ h0⟩

end
end Go.PS
end

section
-- Words for contracts: how a clean run is carried out, one operation after the other, with what follows left alone until it is reached.
set_option linter.unusedVariables false
set_option linter.unusedSimpArgs false
namespace Go.PS

section
variable {C : Ctx} {kb k : Nat} {i : Nat → List D → List Ent → Nat → (D → List Ent → Nat → Prop) → Prop} {Q : AExit → St → Prop} {σ σ' : St} {tt : Nat → Ty} {K : D → List Ent → Nat → Prop} {K1 : D → Prop}

-- the text

@[congr] theorem run_congr {c : AC} (h : σ = σ') : run C kb i c Q σ = run C kb i c Q σ' := by rw [h]
@[simp] theorem run_skip : run C kb i .skip Q σ = Q .normal σ := (rfl)
@[simp] theorem run_ret : run C kb i .ret Q σ = Q .ret σ := (rfl)
@[simp] theorem run_exit {id : Nat} : run C kb i (.exit id) Q σ = Q (.exit id) σ := (rfl)
/-- What follows a region. -/
def regQ (ks : List Nat) (Q : AExit → St → Prop) (σ : St) : Prop := Q .normal ⟨keepT ks σ.t, σ.h, σ.g⟩
@[simp] theorem regQ_app {ks : List Nat} : regQ ks Q σ = Q .normal ⟨keepT ks σ.t, σ.h, σ.g⟩ := (rfl)
@[simp] theorem run_regF {ops : List AOper} {ks : List Nat} : run C kb i (.region false ops (some ks)) Q σ = opsK C kb i ops σ (regQ ks Q) := (rfl)
@[simp] theorem run_regT {ops : List AOper} {ks : List Nat} : run C kb i (.region true ops (some ks)) Q σ = opsKc C kb i ops σ (regQ ks Q) := (rfl)
/-- What follows a region in all orders. -/
def regH (ks kh : List Nat) (Q : AExit → St → Prop) (σ : St) : Prop := Q .normal ⟨keepT ks σ.t, keepH kh σ.h, σ.g⟩
@[simp] theorem regH_app {ks kh : List Nat} : regH ks kh Q σ = Q .normal ⟨keepT ks σ.t, keepH kh σ.h, σ.g⟩ := (rfl)
theorem run_expl {ops : List AOper} {tr : Ex} {ks kh : List Nat} : run C kb i (.expl ops tr ks kh) Q σ = exT C kb i ops (regH ks kh Q) tr σ := (rfl)
@[congr] theorem exT_congr {ops : List AOper} {Q : St → Prop} {tr : Ex} (h : σ = σ') : exT C kb i ops Q tr σ = exT C kb i ops Q tr σ' := by rw [h]
@[congr] theorem exO_congr {o o' : Option AOper} {K : St → Prop} (e : o = o') (h : σ = σ') : exO C kb i o σ K = exO C kb i o' σ' K := by rw [e, h]
@[simp] theorem exT_fin {ops : List AOper} {Q : St → Prop} : exT C kb i ops Q .fin σ = Q σ := (rfl)
@[simp] theorem exT_stop {ops : List AOper} {Q : St → Prop} : exT C kb i ops Q .stop σ = True := (rfl)
@[simp] theorem exT_one {ops : List AOper} {Q : St → Prop} {n : Nat} {tr : Ex} : exT C kb i ops Q (.one n tr) σ = exO C kb i ops[n]? σ (exT C kb i ops Q tr) := (rfl)
@[simp] theorem exT_alt {ops : List AOper} {Q : St → Prop} {n : Nat} {tr r : Ex} : exT C kb i ops Q (.alt n tr r) σ = (exO C kb i ops[n]? σ (exT C kb i ops Q tr) ∧ exT C kb i ops Q r σ) := (rfl)
@[congr] theorem isImmO_congr {o o' : Option AOper} {t t' : List (Nat × D)} (e : o = o') (h : t = t') : isImmO o t = isImmO o' t' := by rw [e, h]
@[simp] theorem exT_imm {ops : List AOper} {Q : St → Prop} {n : Nat} {tr : Ex} : exT C kb i ops Q (.imm n tr) σ = (isImmO ops[n]? σ.t ∧ exO C kb i ops[n]? σ (exT C kb i ops Q tr)) := (rfl)
def isIptr (d : D) : Prop := match d with | .iptr _ => True | _ => False
def isList (d : D) : Prop := match d with | .list _ _ => True | _ => False
@[simp] theorem isIptr_iptr {d : D} : isIptr (.iptr d) = True := (rfl)
@[simp] theorem isList_list {s : Nat} {xs : List D} : isList (.list s xs) = True := (rfl)
@[simp] theorem isImmO_load {d : Option Nat} {T T2 : Nat} {x : Opd} {gd : Option (Nat × Bool)} {t : List (Nat × D)} : isImmO (some ⟨d, .load T2 x, T, gd, 0⟩) t = isIptr (ev t x) := by
  show (0 = 0 ∧ _) = _
  rw [eq_self, true_and]; rfl
@[simp] theorem isImmO_faddr {d : Option Nat} {T T2 n fl : Nat} {x : Opd} {gd : Option (Nat × Bool)} {t : List (Nat × D)} : isImmO (some ⟨d, .faddr T2 x n, T, gd, fl⟩) t = isIptr (ev t x) := (rfl)
@[simp] theorem isImmO_len {d : Option Nat} {T T2 fl : Nat} {x : Opd} {gd : Option (Nat × Bool)} {t : List (Nat × D)} : isImmO (some ⟨d, .len T2 x, T, gd, fl⟩) t = isList (ev t x) := (rfl)
@[simp] theorem isImmO_iaddr {d : Option Nat} {T T2 fl : Nat} {x y : Opd} {gd : Option (Nat × Bool)} {t : List (Nat × D)} : isImmO (some ⟨d, .iaddr T2 x y, T, gd, fl⟩) t = isList (ev t x) := (rfl)
@[simp] theorem exO_some {a : AOper} {K : St → Prop} : exO C kb i (some a) σ K = opsKc C kb i [a] σ K := (rfl)
/-- What follows the first of two. -/
def seqQ (C : Ctx) (kb : Nat) (i : Nat → List D → List Ent → Nat → (D → List Ent → Nat → Prop) → Prop) (b : AC) (Q : AExit → St → Prop) (e : AExit) (σ : St) : Prop := thenQ (run C kb i b Q) Q e σ
@[congr] theorem seqQ_congr {b : AC} {e e' : AExit} (h : e = e') (h2 : σ = σ') : seqQ C kb i b Q e σ = seqQ C kb i b Q e' σ' := by rw [h, h2]
@[simp] theorem seqQ_normal {b : AC} : seqQ C kb i b Q .normal σ = run C kb i b Q σ := (rfl)
@[simp] theorem seqQ_ret {b : AC} : seqQ C kb i b Q .ret σ = Q .ret σ := (rfl)
@[simp] theorem seqQ_exit {b : AC} {id : Nat} : seqQ C kb i b Q (.exit id) σ = Q (.exit id) σ := (rfl)
@[simp] theorem run_seq {a b : AC} : run C kb i (.seq a b) Q σ = run C kb i a (seqQ C kb i b Q) σ := (rfl)
@[simp] theorem run_block {id : Nat} {a : AC} : run C kb i (.block id a) Q σ = run C kb i a (inBlockQ id Q) σ := (rfl)

def condK (d : D) (P1 P2 : Prop) : Prop := match d with | .bool t => (t = true → P1) ∧ (t = false → P2) | _ => False
@[congr] theorem condK_congr {d d' : D} {P1 P2 : Prop} (h : d = d') : condK d P1 P2 = condK d' P1 P2 := by rw [h]
@[simp] theorem run_cond {c : Opd} {a b : AC} : run C kb i (.cond c a b) Q σ = condK (ev σ.t c) (run C kb i a Q σ) (run C kb i b Q σ) := (rfl)
@[simp] theorem condK_bool {b : Bool} {P1 P2 : Prop} : condK (.bool b) P1 P2 = ((b = true → P1) ∧ (b = false → P2)) := (rfl)
@[simp high] theorem condK_true {P1 P2 : Prop} : condK (.bool true) P1 P2 = P1 := by simp [condK]
@[simp high] theorem condK_false {P1 P2 : Prop} : condK (.bool false) P1 P2 = P2 := by simp [condK]

@[congr] theorem thenQ_congr {n : St → Prop} {e e' : AExit} (h : e = e') (h2 : σ = σ') : thenQ n Q e σ = thenQ n Q e' σ' := by rw [h, h2]
@[simp] theorem thenQ_normal {n : St → Prop} : thenQ n Q .normal σ = n σ := (rfl)
@[simp] theorem thenQ_ret {n : St → Prop} : thenQ n Q .ret σ = Q .ret σ := (rfl)
@[simp] theorem thenQ_exit {n : St → Prop} {id : Nat} : thenQ n Q (.exit id) σ = Q (.exit id) σ := (rfl)
@[congr] theorem inBlockQ_congr {id : Nat} {e e' : AExit} (h : e = e') (h2 : σ = σ') : inBlockQ id Q e σ = inBlockQ id Q e' σ' := by rw [h, h2]
@[simp] theorem inBlockQ_normal {id : Nat} : inBlockQ id Q .normal σ = Q .normal σ := (rfl)
@[simp] theorem inBlockQ_ret {id : Nat} : inBlockQ id Q .ret σ = Q .ret σ := (rfl)
@[simp] theorem inBlockQ_exit {id id' : Nat} : inBlockQ id Q (.exit id') σ = if id' = id then Q .normal σ else Q (.exit id') σ := (rfl)

-- regions

@[congr] theorem opsK_congr {as : List AOper} {Q : St → Prop} (h : σ = σ') : opsK C kb i as σ Q = opsK C kb i as σ' Q := by rw [h]
@[congr] theorem opsKc_congr {as : List AOper} {Q : St → Prop} (h : σ = σ') : opsKc C kb i as σ Q = opsKc C kb i as σ' Q := by rw [h]
@[simp] theorem opsK_nil {Q : St → Prop} : opsK C kb i [] σ Q = Q σ := (rfl)
@[simp] theorem opsKc_nil {Q : St → Prop} : opsKc C kb i [] σ Q = Q σ := (rfl)
@[congr] theorem opC_congrS {a : AOper} (h : σ = σ') : opC C kb i a σ K = opC C kb i a σ' K := by rw [h]
@[congr] theorem opK_congrS {a : AOper} (h : σ = σ') : opK tt k a σ K = opK tt k a σ' K := by rw [h]
@[congr] theorem callK_congrS {fl : Nat} {f f' : D} {as as' : List D} (h : f = f') (h2 : as = as') (h3 : σ = σ') : callK C k i fl f as σ K = callK C k i fl f' as' σ' K := by rw [h, h2, h3]
@[congr] theorem callD_congrS {fl : Nat} {f f' : D} {as as' : List D} (h : f = f') (h2 : as = as') (h3 : σ = σ') : callD C k i fl f as σ K = callD C k i fl f' as' σ' K := by rw [h, h2, h3]

def guard1 (d : D) (w : Bool) (P1 P2 P3 : Prop) : Prop := match d with | .bool b => (b = w → P1) ∧ (b = !w → P2) | .undef => P3 | _ => False
@[congr] theorem guard1_congr {d d' : D} {w : Bool} {P1 P2 P3 : Prop} (h : d = d') : guard1 d w P1 P2 P3 = guard1 d' w P1 P2 P3 := by rw [h]
@[simp] theorem guard1_bT {b : Bool} {P1 P2 P3 : Prop} : guard1 (.bool b) true P1 P2 P3 = ((b = true → P1) ∧ (b = false → P2)) := (rfl)
@[simp] theorem guard1_bF {b : Bool} {P1 P2 P3 : Prop} : guard1 (.bool b) false P1 P2 P3 = ((b = false → P1) ∧ (b = true → P2)) := (rfl)
@[simp high] theorem guard1_tt {P1 P2 P3 : Prop} : guard1 (.bool true) true P1 P2 P3 = P1 := by simp [guard1]
@[simp high] theorem guard1_ff {P1 P2 P3 : Prop} : guard1 (.bool false) false P1 P2 P3 = P1 := by simp [guard1]
@[simp high] theorem guard1_tf {P1 P2 P3 : Prop} : guard1 (.bool true) false P1 P2 P3 = P2 := by simp [guard1]
@[simp high] theorem guard1_ft {P1 P2 P3 : Prop} : guard1 (.bool false) true P1 P2 P3 = P2 := by simp [guard1]
@[simp] theorem guard1_undef {w : Bool} {P1 P2 P3 : Prop} : guard1 .undef w P1 P2 P3 = P3 := (rfl)

theorem guardK_some {j : Nat} {w : Bool} {t : List (Nat × D)} {X Y : List (Nat × D) → Prop} : guardK (some (j, w)) t X Y = guard1 (getT t j) w (X ((j, .bool w) :: t)) (Y ((j, .bool !w) :: t)) (Y t) := (rfl)

/-- What follows an operation. -/
def nextK (C : Ctx) (kb : Nat) (i : Nat → List D → List Ent → Nat → (D → List Ent → Nat → Prop) → Prop) (t : List (Nat × D)) (d : Option Nat) (as : List AOper) (Q : St → Prop) (v : D) (h : List Ent) (g : Nat) : Prop := opsK C kb i as ⟨put t d v, h, g⟩ Q
def nextKc (C : Ctx) (kb : Nat) (i : Nat → List D → List Ent → Nat → (D → List Ent → Nat → Prop) → Prop) (t : List (Nat × D)) (d : Option Nat) (as : List AOper) (Q : St → Prop) (v : D) (h : List Ent) (g : Nat) : Prop := opsKc C kb i as ⟨put t d v, h, g⟩ Q
@[simp] theorem nextK_app {t : List (Nat × D)} {d : Option Nat} {as : List AOper} {Q : St → Prop} {v : D} {h : List Ent} {g : Nat} : nextK C kb i t d as Q v h g = opsK C kb i as ⟨put t d v, h, g⟩ Q := (rfl)
@[simp] theorem nextKc_app {t : List (Nat × D)} {d : Option Nat} {as : List AOper} {Q : St → Prop} {v : D} {h : List Ent} {g : Nat} : nextKc C kb i t d as Q v h g = opsKc C kb i as ⟨put t d v, h, g⟩ Q := (rfl)
@[simp] theorem opsK_one {d : Option Nat} {o : AOp} {T fl : Nat} {as : List AOper} {Q : St → Prop} : opsK C kb i (⟨d, o, T, none, fl⟩ :: as) σ Q = opC C kb i ⟨d, o, T, none, fl⟩ σ (nextK C kb i σ.t d as Q) := (rfl)
@[simp] theorem opsK_grd {d : Option Nat} {o : AOp} {T fl j : Nat} {w : Bool} {as : List AOper} {Q : St → Prop} : opsK C kb i (⟨d, o, T, some (j, w), fl⟩ :: as) σ Q =
    guard1 (getT σ.t j) w (opC C kb i ⟨d, o, T, some (j, w), fl⟩ ⟨(j, .bool w) :: σ.t, σ.h, σ.g⟩ (nextK C kb i ((j, .bool w) :: σ.t) d as Q)) (opsK C kb i as ⟨put ((j, .bool !w) :: σ.t) d .undef, σ.h, σ.g⟩ Q) (opsK C kb i as ⟨put σ.t d .undef, σ.h, σ.g⟩ Q) := (rfl)

def opCc (C : Ctx) (kb : Nat) (i : Nat → List D → List Ent → Nat → (D → List Ent → Nat → Prop) → Prop) (a : AOper) (σ : St) (K : D → List Ent → Nat → Prop) : Prop :=
  match callOf a.o with
  | some (f, args) => callD C (kb + 8 * a.d.getD 0) i a.fl (ev σ.t f) (evL σ.t args) σ K
  | none => opK C.tt (kb + 8 * a.d.getD 0) a σ K
@[congr] theorem opCc_congrS {a : AOper} (h : σ = σ') : opCc C kb i a σ K = opCc C kb i a σ' K := by rw [h]
@[simp] theorem opsKc_one {d : Option Nat} {o : AOp} {T fl : Nat} {as : List AOper} {Q : St → Prop} : opsKc C kb i (⟨d, o, T, none, fl⟩ :: as) σ Q = opCc C kb i ⟨d, o, T, none, fl⟩ σ (nextKc C kb i σ.t d as Q) := (rfl)
@[simp] theorem opsKc_grd {d : Option Nat} {o : AOp} {T fl j : Nat} {w : Bool} {as : List AOper} {Q : St → Prop} : opsKc C kb i (⟨d, o, T, some (j, w), fl⟩ :: as) σ Q =
    guard1 (getT σ.t j) w (opCc C kb i ⟨d, o, T, some (j, w), fl⟩ ⟨(j, .bool w) :: σ.t, σ.h, σ.g⟩ (nextKc C kb i ((j, .bool w) :: σ.t) d as Q)) (opsKc C kb i as ⟨put ((j, .bool !w) :: σ.t) d .undef, σ.h, σ.g⟩ Q) (opsKc C kb i as ⟨put σ.t d .undef, σ.h, σ.g⟩ Q) := (rfl)

/-- A call, and what follows it. -/
def callO (C : Ctx) (kb : Nat) (i : Nat → List D → List Ent → Nat → (D → List Ent → Nat → Prop) → Prop) (d : Option Nat) (fl : Nat) (f : D) (args : List D) (σ : St) (as : List AOper) (Q : St → Prop) : Prop :=
  callK C (kb + 8 * d.getD 0) i fl f args σ fun v h g => opsK C kb i as ⟨put σ.t d v, h, g⟩ Q
def callDO (C : Ctx) (kb : Nat) (i : Nat → List D → List Ent → Nat → (D → List Ent → Nat → Prop) → Prop) (d : Option Nat) (fl : Nat) (f : D) (args : List D) (σ : St) (as : List AOper) (Q : St → Prop) : Prop :=
  callD C (kb + 8 * d.getD 0) i fl f args σ fun v h g => opsKc C kb i as ⟨put σ.t d v, h, g⟩ Q
@[congr] theorem callO_congr {d : Option Nat} {fl : Nat} {f f' : D} {args args' : List D} {as : List AOper} {Q : St → Prop} (h : f = f') (h2 : args = args') (h3 : σ = σ') : callO C kb i d fl f args σ as Q = callO C kb i d fl f' args' σ' as Q := by rw [h, h2, h3]
@[congr] theorem callDO_congr {d : Option Nat} {fl : Nat} {f f' : D} {args args' : List D} {as : List AOper} {Q : St → Prop} (h : f = f') (h2 : args = args') (h3 : σ = σ') : callDO C kb i d fl f args σ as Q = callDO C kb i d fl f' args' σ' as Q := by rw [h, h2, h3]
@[simp high] theorem opsK_call {d : Option Nat} {f : Opd} {cs : List Opd} {T fl : Nat} {as : List AOper} {Q : St → Prop} : opsK C kb i (⟨d, .call f cs, T, none, fl⟩ :: as) σ Q = callO C kb i d fl (ev σ.t f) (evL σ.t cs) σ as Q := (rfl)
@[simp high] theorem opsKc_call {d : Option Nat} {f : Opd} {cs : List Opd} {T fl : Nat} {as : List AOper} {Q : St → Prop} : opsKc C kb i (⟨d, .call f cs, T, none, fl⟩ :: as) σ Q = callDO C kb i d fl (ev σ.t f) (evL σ.t cs) σ as Q := (rfl)
@[simp high] theorem opsK_gcall {d : Option Nat} {f : Opd} {cs : List Opd} {T fl j : Nat} {w : Bool} {as : List AOper} {Q : St → Prop} : opsK C kb i (⟨d, .call f cs, T, some (j, w), fl⟩ :: as) σ Q =
    guard1 (getT σ.t j) w (callO C kb i d fl (ev ((j, .bool w) :: σ.t) f) (evL ((j, .bool w) :: σ.t) cs) ⟨(j, .bool w) :: σ.t, σ.h, σ.g⟩ as Q) (opsK C kb i as ⟨put ((j, .bool !w) :: σ.t) d .undef, σ.h, σ.g⟩ Q) (opsK C kb i as ⟨put σ.t d .undef, σ.h, σ.g⟩ Q) := (rfl)
@[simp high] theorem opsKc_gcall {d : Option Nat} {f : Opd} {cs : List Opd} {T fl j : Nat} {w : Bool} {as : List AOper} {Q : St → Prop} : opsKc C kb i (⟨d, .call f cs, T, some (j, w), fl⟩ :: as) σ Q =
    guard1 (getT σ.t j) w (callDO C kb i d fl (ev ((j, .bool w) :: σ.t) f) (evL ((j, .bool w) :: σ.t) cs) ⟨(j, .bool w) :: σ.t, σ.h, σ.g⟩ as Q) (opsKc C kb i as ⟨put ((j, .bool !w) :: σ.t) d .undef, σ.h, σ.g⟩ Q) (opsKc C kb i as ⟨put σ.t d .undef, σ.h, σ.g⟩ Q) := (rfl)

@[simp] theorem getT_nil {j : Nat} : getT [] j = .junk := (rfl)
@[simp] theorem getT_cons {l : List (Nat × D)} {n j : Nat} {d : D} : getT ((n, d) :: l) j = if n = j then d else getT l j := (rfl)
@[simp] theorem put_none {t : List (Nat × D)} {v : D} : put t none v = t := (rfl)
@[simp] theorem put_some {t : List (Nat × D)} {n : Nat} {v : D} : put t (some n) v = (n, v) :: t := (rfl)
@[simp] theorem ev_t {t : List (Nat × D)} {n : Nat} : ev t (.t n) = getT t n := (rfl)
@[simp] theorem ev_c {t : List (Nat × D)} {d : D} : ev t (.c d) = d := (rfl)
@[simp] theorem ev_f {t : List (Nat × D)} {n : Nat} : ev t (.f n) = .fn n [] := (rfl)
attribute [simp] evL args0 keepT keepH find hset hdel hdels own keys thaw thaw.go ioOf dio isCell pureD cellsD scal fillP hio isAgg pureL

-- what leaves come to, at once
section
variable {h : List Ent} {n : Nat}
@[simp] theorem der_bool {b : Bool} : der h n (.bool b) = .bool b := by cases n <;> rfl
@[simp] theorem der_int {k : IntKind} {m : Int} : der h n (.int k m) = .int k m := by cases n <;> rfl
@[simp] theorem der_str {s : List UInt8} : der h n (.str s) = .str s := by cases n <;> rfl
@[simp] theorem der_nil : der h n .nil = .list 1 [] := by cases n <;> rfl
@[simp] theorem der_list {sz : Nat} {xs : List D} : der h n (.list sz xs) = .list sz xs := by cases n <;> rfl
@[simp] theorem der_iptr {d : D} : der h n (.iptr d) = .iptr d := by cases n <;> rfl
@[simp] theorem der_arr {k g : Nat} : der h (n + 1) (.arr k g) = match find h k g with | some (.arr sz xs) => .list sz (xs.map (imm n)) | _ => .junk := by rfl
@[simp] theorem der_ptr {k g : Nat} : der h (n + 1) (.ptr k g 0) = match find h k g with | some (.cells [c]) => .iptr (der h n c) | some (.cells cs) => .iptr (.agg (cs.map (der h n))) | _ => .junk := by rfl
@[simp] theorem der_row {k g x : Nat} : der h (n + 1) (.row k g x) = rowD (rowAt h k g x) n := by rfl
@[simp] theorem der_lit {sz : Nat} {xs : List D} : der h (n + 1) (.lit sz xs) = .list sz (xs.map (der h n)) := by rfl
@[simp] theorem der_agg {xs : List D} : der h (n + 1) (.agg xs) = .agg (xs.map (der h n)) := by rfl
@[simp] theorem der_tup {xs : List D} : der h (n + 1) (.tup xs) = .tup (xs.map (der h n)) := by rfl
@[simp] theorem der_fn {f : Nat} {xs : List D} : der h (n + 1) (.fn f xs) = .fn f (xs.map (der h n)) := by rfl
@[simp] theorem derS_bool {b : Bool} : derS n (.bool b) = .bool b := by cases n <;> rfl
@[simp] theorem derS_int {k : IntKind} {m : Int} : derS n (.int k m) = .int k m := by cases n <;> rfl
@[simp] theorem derS_str {s : List UInt8} : derS n (.str s) = .str s := by cases n <;> rfl
@[simp] theorem derS_nil : derS n .nil = .list 1 [] := by cases n <;> rfl
@[simp] theorem derS_list {sz : Nat} {xs : List D} : derS n (.list sz xs) = .list sz xs := by cases n <;> rfl
@[simp] theorem derS_iptr {d : D} : derS n (.iptr d) = .iptr d := by cases n <;> rfl
@[simp] theorem derS_lit {sz : Nat} {xs : List D} : derS (n + 1) (.lit sz xs) = .list sz (xs.map (derS n)) := by rfl
@[simp] theorem derS_agg {xs : List D} : derS (n + 1) (.agg xs) = .agg (xs.map (derS n)) := by rfl
@[simp] theorem derS_tup {xs : List D} : derS (n + 1) (.tup xs) = .tup (xs.map (derS n)) := by rfl
@[simp] theorem derS_fn {f : Nat} {xs : List D} : derS (n + 1) (.fn f xs) = .fn f (xs.map (derS n)) := by rfl
@[simp] theorem imm_bool {b : Bool} : imm n (.bool b) = .bool b := by cases n <;> rfl
@[simp] theorem imm_int {k : IntKind} {m : Int} : imm n (.int k m) = .int k m := by cases n <;> rfl
@[simp] theorem imm_str {s : List UInt8} : imm n (.str s) = .str s := by cases n <;> rfl
@[simp] theorem imm_nil : imm n .nil = .nil := by cases n <;> rfl
@[simp] theorem imm_list {sz : Nat} {xs : List D} : imm n (.list sz xs) = .list sz xs := by cases n <;> rfl
@[simp] theorem imm_iptr {d : D} : imm n (.iptr d) = .iptr d := by cases n <;> rfl
@[simp] theorem imm_fn {f : Nat} {xs : List D} : imm n (.fn f xs) = .fn f xs := by cases n <;> rfl
@[simp] theorem imm_olist {sz : Nat} {xs : List D} : imm (n + 1) (.olist sz xs) = .list sz (xs.map (imm n)) := by rfl
@[simp] theorem imm_agg {xs : List D} : imm (n + 1) (.agg xs) = .agg (xs.map (imm n)) := by rfl
@[simp] theorem imm_tup {xs : List D} : imm (n + 1) (.tup xs) = .tup (xs.map (imm n)) := by rfl
end
-- operations

section
variable {d : Option Nat} {T T2 fl : Nat} {gd : Option (Nat × Bool)} {x y z : Opd}

@[simp] theorem opC_call {f : Opd} {as : List Opd} : opC C kb i ⟨d, .call f as, T, gd, fl⟩ σ K = callK C (kb + 8 * d.getD 0) i fl (ev σ.t f) (evL σ.t as) σ K := (rfl)
@[simp] theorem opCc_call {f : Opd} {as : List Opd} : opCc C kb i ⟨d, .call f as, T, gd, fl⟩ σ K = callD C (kb + 8 * d.getD 0) i fl (ev σ.t f) (evL σ.t as) σ K := (rfl)

theorem opC_op {a : AOper} (h : callOf a.o = none) : opC C kb i a σ K = opK C.tt (kb + 8 * a.d.getD 0) a σ K := by
  obtain ⟨d, o, T, gd, fl⟩ := a
  cases o <;> first | rfl | (cases h)
theorem opCc_op {a : AOper} (h : callOf a.o = none) : opCc C kb i a σ K = opK C.tt (kb + 8 * a.d.getD 0) a σ K := by
  unfold opCc
  rw [h]

@[simp] theorem opK_mv0 : opK tt k ⟨d, .mv x, T, gd, 0⟩ σ K = K (ev σ.t x) σ.h σ.g := (rfl)
def mv1K (v : D) (o : Option Nat) (k : Nat) (σ : St) (K : D → List Ent → Nat → Prop) : Prop := match v, o with
  | .nil, some sz => K (.arr k σ.g) (⟨k, σ.g, .arr sz []⟩ :: hdel σ.h k) (σ.g + 1)
  | _, _ => False
@[congr] theorem mv1K_congr {v v' : D} {o o' : Option Nat} (h : v = v') (h2 : o = o') (h3 : σ = σ') : mv1K v o k σ K = mv1K v' o' k σ' K := by rw [h, h2, h3]
@[simp] theorem opK_mv1 : opK tt k ⟨d, .mv x, T, gd, 1⟩ σ K = mv1K (ev σ.t x) (esz tt T) k σ K := (rfl)
@[simp] theorem mv1K_nil {sz : Nat} : mv1K .nil (some sz) k σ K = K (.arr k σ.g) (⟨k, σ.g, .arr sz []⟩ :: hdel σ.h k) (σ.g + 1) := (rfl)
def mv2K (v : D) (σ : St) (K : D → List Ent → Nat → Prop) : Prop := match v with
  | .arr j g => match find σ.h j g with
    | some (.arr sz xs) => K (.list sz (xs.map (imm 5))) (hdel σ.h j) σ.g
    | _ => False
  | _ => False
@[congr] theorem mv2K_congr {v v' : D} (h : v = v') (h3 : σ = σ') : mv2K v σ K = mv2K v' σ' K := by rw [h, h3]
@[simp] theorem opK_mv2 : opK tt k ⟨d, .mv x, T, gd, 2⟩ σ K = mv2K (ev σ.t x) σ K := (rfl)
def blkK (b : Option Blk) (P1 : List D → Prop) (P2 : Nat → List D → Prop) : Prop := match b with
  | some (.cells cs) => P1 cs
  | some (.arr sz xs) => P2 sz xs
  | none => False
@[congr] theorem blkK_congr {b b' : Option Blk} {P1 : List D → Prop} {P2 : Nat → List D → Prop} (h : b = b') : blkK b P1 P2 = blkK b' P1 P2 := by rw [h]
@[simp] theorem blkK_cells {cs : List D} {P1 : List D → Prop} {P2 : Nat → List D → Prop} : blkK (some (.cells cs)) P1 P2 = P1 cs := (rfl)
@[simp] theorem blkK_arr {sz : Nat} {xs : List D} {P1 : List D → Prop} {P2 : Nat → List D → Prop} : blkK (some (.arr sz xs)) P1 P2 = P2 sz xs := (rfl)
@[simp] theorem mv2K_arr {j g : Nat} : mv2K (.arr j g) σ K = blkK (find σ.h j g) (fun _ => False) (fun sz xs => K (.list sz (xs.map (imm 5))) (hdel σ.h j) σ.g) := by
  show (match find σ.h j g with | some (.arr sz xs) => _ | _ => False) = _
  split
  · rename_i h; rw [h]; rfl
  · rename_i h
    cases hb : find σ.h j g with
    | none => rfl
    | some b => cases b with
      | cells cs => rfl
      | arr sz xs => exact absurd hb (h sz xs)

def boolK (v : D) (K : Bool → Prop) : Prop := match v with | .bool b => K b | _ => False
@[congr] theorem boolK_congr {v v' : D} {K : Bool → Prop} (h : v = v') : boolK v K = boolK v' K := by rw [h]
@[simp] theorem boolK_bool {b : Bool} {K : Bool → Prop} : boolK (.bool b) K = K b := (rfl)
@[simp] theorem opK_pick : opK tt k ⟨d, .pick z x y, T, gd, fl⟩ σ K = boolK (ev σ.t z) fun b => K (if b then ev σ.t x else ev σ.t y) σ.h σ.g := (rfl)

@[congr] theorem fitsT_congr {t t' : Ty} {v v' : D} (h : t = t') (h2 : v = v') : fitsT t v = fitsT t' v' := by rw [h, h2]
@[simp] theorem opK_box0 : opK tt k ⟨d, .box T2 x, T, gd, 0⟩ σ K = (pureD 5 (ev σ.t x) = true ∧ fitsT (tt T2) (ev σ.t x) ∧ K (.iptr (ev σ.t x)) σ.h σ.g) := (rfl)
@[simp] theorem opK_box1 : opK tt k ⟨d, .box T2 x, T, gd, 1⟩ σ K = (fitsT (tt T2) (ev σ.t x) ∧ K (.ptr k σ.g 0) (⟨k, σ.g, .cells (cellsD (ev σ.t x))⟩ :: hdel σ.h k) (σ.g + 1)) := (rfl)
def someK (o : Option D) (K : D → Prop) : Prop := match o with | some z => K z | none => False
@[congr] theorem someK_congr {o o' : Option D} (h : o = o') : someK o K1 = someK o' K1 := by rw [h]
@[simp] theorem someK_some {v : D} : someK (some v) K1 = K1 v := (rfl)
@[simp] theorem opK_alloc : opK tt k ⟨d, .alloc T2, T, gd, fl⟩ σ K = someK (tt T2).zero fun z => fitsT (tt T2) z ∧ K (.ptr k σ.g 0) (⟨k, σ.g, .cells (cellsD z)⟩ :: hdel σ.h k) (σ.g + 1) := (rfl)
def buildK (tt : Nat → Ty) (kd : Kd) (z : Option D) (t : List (Nat × D)) (ps : List (Nat × Opd)) (K : D → Prop) : Prop := match kd, z with
  | .struct fs, some (.agg zs) => match fillP tt fs t zs ps with | some cs => K (.agg cs) | none => False
  | _, _ => False
@[congr] theorem buildK_congr {kd kd' : Kd} {z z' : Option D} {t : List (Nat × D)} {ps : List (Nat × Opd)} (h : kd = kd') (h2 : z = z') : buildK tt kd z t ps K1 = buildK tt kd' z' t ps K1 := by rw [h, h2]
def cellsK (o : Option (List D)) (K : List D → Prop) : Prop := match o with | some cs => K cs | none => False
@[congr] theorem cellsK_congr {o o' : Option (List D)} {K : List D → Prop} (h : o = o') : cellsK o K = cellsK o' K := by rw [h]
@[simp] theorem cellsK_some {cs : List D} {K : List D → Prop} : cellsK (some cs) K = K cs := (rfl)
@[simp] theorem buildK_struct {fs : List (Nat × Nat)} {zs : List D} {t : List (Nat × D)} {ps : List (Nat × Opd)} : buildK tt (.struct fs) (some (.agg zs)) t ps K1 = cellsK (fillP tt fs t zs ps) fun cs => K1 (.agg cs) := (rfl)
@[simp] theorem opK_build {ps : List (Nat × Opd)} : opK tt k ⟨d, .build T2 ps, T, gd, fl⟩ σ K = buildK tt (tt T2).kd (tt T2).zero σ.t ps fun v => K v σ.h σ.g := (rfl)

def elemK (o : Option Ty) (K : Ty → Prop) : Prop := match o with | some E => K E | none => False
@[congr] theorem elemK_congr {o o' : Option Ty} {K : Ty → Prop} (h : o = o') : elemK o K = elemK o' K := by rw [h]
@[simp] theorem elemK_some {E : Ty} {K : Ty → Prop} : elemK (some E) K = K E := (rfl)
@[simp] theorem opK_bslice0 {n : Nat} {ps : List (Nat × Opd)} : opK tt k ⟨d, .bslice T2 n ps, T, gd, 0⟩ σ K = elemK (elemT tt T2) fun E =>
    ps.map Prod.fst = List.range n ∧ n ≤ 1000 ∧ E.sz ≤ 16 ∧ E.zero.isSome = true ∧ (∀ x ∈ ps.map (fun p => ev σ.t p.2), fitsT E x) ∧ (∀ x ∈ ps.map (fun p => ev σ.t p.2), pureD 5 x = true) ∧ K (.list E.sz (ps.map fun p => ev σ.t p.2)) σ.h σ.g := (rfl)
@[simp] theorem opK_bslice1 {n : Nat} {ps : List (Nat × Opd)} : opK tt k ⟨d, .bslice T2 n ps, T, gd, 1⟩ σ K = elemK (elemT tt T2) fun E =>
    ps.map Prod.fst = List.range n ∧ n ≤ 1000 ∧ E.sz ≤ 16 ∧ E.zero.isSome = true ∧ (∀ x ∈ ps.map (fun p => ev σ.t p.2), fitsT E x) ∧ (∀ x ∈ ps.map (fun p => ev σ.t p.2), pureD 5 x = true) ∧ K (.arr k σ.g) (⟨k, σ.g, .arr E.sz (ps.map fun p => ev σ.t p.2)⟩ :: hdel σ.h k) (σ.g + 1) := (rfl)
@[simp] theorem opK_bslice2 {n : Nat} {ps : List (Nat × Opd)} : opK tt k ⟨d, .bslice T2 n ps, T, gd, 2⟩ σ K = elemK (elemT tt T2) fun E =>
    ps.map Prod.fst = List.range n ∧ n ≤ 1000 ∧ E.sz ≤ 16 ∧ E.zero.isSome = true ∧ (∀ x ∈ ps.map (fun p => ev σ.t p.2), fitsT E x) ∧ K (.lit E.sz (ps.map fun p => ev σ.t p.2)) σ.h σ.g := (rfl)

/-- A row, if there is one. -/
def rowK2 (o : Option (Nat × List D)) (K : Nat → List D → Prop) : Prop := match o with
  | some (s, ys) => K s ys
  | none => False
@[congr] theorem rowK2_congr {o o' : Option (Nat × List D)} {K : Nat → List D → Prop} (h : o = o') : rowK2 o K = rowK2 o' K := by rw [h]
@[simp] theorem rowK2_some {s : Nat} {ys : List D} {K : Nat → List D → Prop} : rowK2 (some (s, ys)) K = K s ys := (rfl)
def loadK (t : Ty) (v : D) (h : List Ent) (K : D → Prop) : Prop := match v with
  | .iptr d => fitsT t d ∧ K d
  | .ptr j g off => match find h j g with
    | some (.cells cs) => if t.isStruct then off + t.sz ≤ cs.length ∧ K (.agg ((cs.drop off).take t.sz)) else t.flat = true ∧ off < cs.length ∧ K (cs.getD off .junk)
    | some (.arr sz xs) => sz = 1 ∧ t.flat = true ∧ scalK xs off K
    | none => False
  | .rptr j g x y => rowK2 (rowAt h j g x) (fun s ys => s = 1 ∧ t.flat = true ∧ scalK ys y K)
  | _ => False
/-- A load out of a list of the run's own: a row of it. -/
def rloadK (fl : Nat) (t : Ty) (v : D) (σ : St) (K : D → List Ent → Nat → Prop) : Prop := match v with
  | .iptr d => fitsT t d ∧ K d σ.h σ.g
  | .ptr j g off => match find σ.h j g with
    | some (.cells cs) => if t.isStruct then off + t.sz ≤ cs.length ∧ K (.agg ((cs.drop off).take t.sz)) σ.h σ.g else t.flat = true ∧ off < cs.length ∧ K (cs.getD off .junk) σ.h σ.g
    | some (.arr sz xs) => sz = 1 ∧ t.flat = true ∧ rowK fl j g xs off σ K
    | none => False
  | .rptr j g x y => rowK2 (rowAt σ.h j g x) (fun s ys => s = 1 ∧ t.flat = true ∧ scalK ys y fun d => K d σ.h σ.g)
  | _ => False
@[congr] theorem rloadK_congr {fl : Nat} {t t' : Ty} {v v' : D} (e : t = t') (e2 : v = v') (e3 : σ = σ') : rloadK fl t v σ K = rloadK fl t' v' σ' K := by rw [e, e2, e3]
@[congr] theorem loadK_congr {t t' : Ty} {v v' : D} {h h' : List Ent} (e : t = t') (e2 : v = v') (e3 : h = h') : loadK t v h K1 = loadK t' v' h' K1 := by rw [e, e2, e3]
@[simp] theorem opK_load : opK tt k ⟨d, .load T2 x, T, gd, 0⟩ σ K = loadK (tt T2) (ev σ.t x) σ.h fun v => K v σ.h σ.g := by
  unfold opK
  dsimp only
  cases ev σ.t x <;> rfl
theorem opK_loadR {n : Nat} : opK tt k ⟨d, .load T2 x, T, gd, n + 1⟩ σ K = rloadK (n + 1) (tt T2) (ev σ.t x) σ K := by
  unfold opK
  dsimp only
  cases ev σ.t x <;> rfl
@[simp] theorem opK_load1 : opK tt k ⟨d, .load T2 x, T, gd, 1⟩ σ K = rloadK 1 (tt T2) (ev σ.t x) σ K := opK_loadR
@[simp] theorem opK_load2 : opK tt k ⟨d, .load T2 x, T, gd, 2⟩ σ K = rloadK 2 (tt T2) (ev σ.t x) σ K := opK_loadR
@[simp] theorem rloadK_ptr {fl : Nat} {t : Ty} {j g off : Nat} : rloadK fl t (.ptr j g off) σ K = blkK (find σ.h j g) (fun cs => if t.isStruct then off + t.sz ≤ cs.length ∧ K (.agg ((cs.drop off).take t.sz)) σ.h σ.g else t.flat = true ∧ off < cs.length ∧ K (cs.getD off .junk) σ.h σ.g) (fun sz xs => sz = 1 ∧ t.flat = true ∧ rowK fl j g xs off σ K) := by
  unfold rloadK blkK
  rfl
@[simp] theorem loadK_rptr {t : Ty} {j g r y : Nat} {h : List Ent} : loadK t (.rptr j g r y) h K1 = rowK2 (rowAt h j g r) (fun s ys => s = 1 ∧ t.flat = true ∧ scalK ys y K1) := (rfl)
def rowOK (fl j g : Nat) (xs : List D) (off : Nat) (o : Option D) (σ : St) (K : D → List Ent → Nat → Prop) : Prop := match o with
  | some (.olist s ys) => match fl with
    | 1 => K (.row j g off) σ.h σ.g
    | _ => K (.list s (ys.map (imm 5))) (hset σ.h j g (.arr 1 (xs.set off (.list s (ys.map (imm 5)))))) σ.g
  | _ => False
@[congr] theorem rowOK_congr {fl j g : Nat} {xs : List D} {off : Nat} {o o' : Option D} (e : o = o') (e2 : σ = σ') : rowOK fl j g xs off o σ K = rowOK fl j g xs off o' σ' K := by rw [e, e2]
@[simp] theorem rowK_eq {fl j g : Nat} {xs : List D} {off : Nat} : rowK fl j g xs off σ K = rowOK fl j g xs off xs[off]? σ K := (rfl)
@[simp] theorem rowOK_1 {j g : Nat} {xs : List D} {off s : Nat} {ys : List D} : rowOK 1 j g xs off (some (.olist s ys)) σ K = K (.row j g off) σ.h σ.g := (rfl)
@[simp] theorem rowOK_2 {j g : Nat} {xs : List D} {off s : Nat} {ys : List D} : rowOK 2 j g xs off (some (.olist s ys)) σ K = K (.list s (ys.map (imm 5))) (hset σ.h j g (.arr 1 (xs.set off (.list s (ys.map (imm 5)))))) σ.g := (rfl)
@[simp] theorem loadK_iptr {t : Ty} {v : D} {h : List Ent} : loadK t (.iptr v) h K1 = (fitsT t v ∧ K1 v) := (rfl)
def takeK (p : Bool) (t : Ty) (off : Nat) (cs : List D) (K : D → Prop) : Prop := match p with
  | true => off + t.sz ≤ cs.length ∧ K (.agg ((cs.drop off).take t.sz))
  | false => t.flat = true ∧ off < cs.length ∧ K (cs.getD off .junk)
@[congr] theorem takeK_congr {p p' : Bool} {t : Ty} {off : Nat} {cs : List D} (h : p = p') : takeK p t off cs K1 = takeK p' t off cs K1 := by rw [h]
@[simp] theorem takeK_true {t : Ty} {off : Nat} {cs : List D} : takeK true t off cs K1 = (off + t.sz ≤ cs.length ∧ K1 (.agg ((cs.drop off).take t.sz))) := (rfl)
@[simp] theorem takeK_false {t : Ty} {off : Nat} {cs : List D} : takeK false t off cs K1 = (t.flat = true ∧ off < cs.length ∧ K1 (cs.getD off .junk)) := (rfl)
@[simp] theorem loadK_ptr {t : Ty} {j g off : Nat} {h : List Ent} : loadK t (.ptr j g off) h K1 = blkK (find h j g) (fun cs => takeK t.isStruct t off cs K1) (fun sz xs => sz = 1 ∧ t.flat = true ∧ scalK xs off K1) := by
  unfold loadK blkK takeK
  simp only []
  cases find h j g with
  | none => rfl
  | some b => cases b with
    | cells cs => cases hs : t.isStruct <;> simp [hs]
    | arr sz xs => rfl
@[congr] theorem scalK_congr {xs xs' : List D} {n n' : Nat} (h : xs = xs') (h2 : n = n') : scalK xs n K1 = scalK xs' n' K1 := by rw [h, h2]
@[congr] theorem idxK_congr {xs xs' : List D} {n n' : Int} (h : xs = xs') (h2 : n = n') : idxK xs n K1 = idxK xs' n' K1 := by rw [h, h2]

def storeK (tt : Nat → Ty) (T : Nat) (p v : D) (σ : St) (K : List Ent → Prop) : Prop := match p with
  | .ptr j g off => fitsT (tt T) v ∧ match find σ.h j g with
    | some (.cells cs) => off + (cellsD v).length ≤ cs.length ∧ K (hset σ.h j g (.cells (cs.take off ++ cellsD v ++ cs.drop (off + (cellsD v).length))))
    | some (.arr sz xs) => sz = 1 ∧ (tt T).flat = true ∧ off < xs.length ∧ pureD 5 v = true ∧ (isNilD v = false ∨ isNilD (xs.getD off .junk) = true) ∧ K (hset σ.h j g (.arr sz (xs.set off v)))
    | none => False
  | .rptr j g x y => fitsT (tt T) v ∧ blkK (find σ.h j g) (fun _ => False) (fun sz xs => rowK2 (rowB (.arr sz xs) x) fun s ys => sz = 1 ∧ s = 1 ∧ (tt T).flat = true ∧ y < ys.length ∧ pureD 5 v = true ∧ K (hset σ.h j g (rowSet xs x s ys y v)))
  | _ => False
@[simp] theorem storeK_rptr {T j g r y : Nat} {v : D} {K : List Ent → Prop} : storeK tt T (.rptr j g r y) v σ K = (fitsT (tt T) v ∧ blkK (find σ.h j g) (fun _ => False) (fun sz xs => rowK2 (rowB (.arr sz xs) r) fun s ys => sz = 1 ∧ s = 1 ∧ (tt T).flat = true ∧ y < ys.length ∧ pureD 5 v = true ∧ K (hset σ.h j g (rowSet xs r s ys y v)))) := (rfl)
@[congr] theorem storeK_congr {T : Nat} {p p' v v' : D} {K : List Ent → Prop} (h : p = p') (h2 : v = v') (h3 : σ = σ') : storeK tt T p v σ K = storeK tt T p' v' σ' K := by rw [h, h2, h3]
@[simp] theorem isNilD_int {kd : IntKind} {n : Int} : isNilD (.int kd n) = false := rfl
@[simp] theorem isNilD_bool {b : Bool} : isNilD (.bool b) = false := rfl
@[simp] theorem isNilD_str {s : List UInt8} : isNilD (.str s) = false := rfl
@[simp] theorem isNilD_list {s : Nat} {xs : List D} : isNilD (.list s xs) = false := rfl
@[simp] theorem isNilD_nil : isNilD .nil = true := rfl
@[simp] theorem isNilD_agg {xs : List D} : isNilD (.agg xs) = false := rfl
/-- A list of the run's own laid into a list of the run's own. -/
def storeM (tt : Nat → Ty) (T : Nat) (p v : D) (σ : St) (K : D → List Ent → Nat → Prop) : Prop := match p with
  | .ptr j g off => fitsT (tt T) v ∧ blkK (find σ.h j g) (fun cs => off + (cellsD v).length ≤ cs.length ∧ K .undef (hset σ.h j g (.cells (cs.take off ++ cellsD v ++ cs.drop (off + (cellsD v).length)))) σ.g)
    (fun sz xs => sz = 1 ∧ (tt T).flat = true ∧ off < xs.length ∧ moveK j g sz xs off v σ K)
  | .rptr j g x y => fitsT (tt T) v ∧ blkK (find σ.h j g) (fun _ => False) (fun sz xs => rowK2 (rowB (.arr sz xs) x) fun s ys => sz = 1 ∧ s = 1 ∧ (tt T).flat = true ∧ y < ys.length ∧ pureD 5 v = true ∧ K .undef (hset σ.h j g (rowSet xs x s ys y v)) σ.g)
  | _ => False
@[congr] theorem storeM_congr {T : Nat} {p p' v v' : D} (h : p = p') (h2 : v = v') (h3 : σ = σ') : storeM tt T p v σ K = storeM tt T p' v' σ' K := by rw [h, h2, h3]
@[simp] theorem storeM_ptr {T j g off : Nat} {v : D} : storeM tt T (.ptr j g off) v σ K = (fitsT (tt T) v ∧ blkK (find σ.h j g) (fun cs => off + (cellsD v).length ≤ cs.length ∧ K .undef (hset σ.h j g (.cells (cs.take off ++ cellsD v ++ cs.drop (off + (cellsD v).length)))) σ.g)
    (fun sz xs => sz = 1 ∧ (tt T).flat = true ∧ off < xs.length ∧ moveK j g sz xs off v σ K)) := (rfl)
@[simp] theorem opK_store1 : opK tt k ⟨d, .store T2 x y, T, gd, 1⟩ σ K = storeM tt T2 (ev σ.t x) (ev σ.t y) σ K := by
  unfold opK
  dsimp only
  cases ev σ.t x <;> try rfl
  all_goals
    simp only [storeM, blkK]
    cases find σ.h _ _ with
    | none => rfl
    | some b => cases b <;> rfl
@[simp] theorem moveK_arr {j g sz off j' g' : Nat} {xs : List D} : moveK j g sz xs off (.arr j' g') σ K = blkK (find σ.h j' g') (fun _ => False) (fun s ys => j' ≠ j ∧ isNilD (xs.getD off .junk) = true ∧ K .undef (hset (hdel σ.h j') j g (.arr sz (xs.set off (.olist s ys)))) σ.g) := by
  show (match find σ.h j' g' with | some (.arr s ys) => _ | _ => False) = _
  unfold blkK
  cases find σ.h j' g' with
  | none => rfl
  | some b => cases b <;> rfl
@[simp] theorem opK_store : opK tt k ⟨d, .store T2 x y, T, gd, 0⟩ σ K = storeK tt T2 (ev σ.t x) (ev σ.t y) σ fun h => K .undef h σ.g := by
  unfold opK
  dsimp only
  cases ev σ.t x <;> try rfl
  rename_i j g r q
  simp only [storeK, blkK]
  cases find σ.h j g with
  | none => rfl
  | some b => cases b <;> rfl
@[simp] theorem storeK_ptr {T j g off : Nat} {v : D} {K : List Ent → Prop} : storeK tt T (.ptr j g off) v σ K = (fitsT (tt T) v ∧ blkK (find σ.h j g) (fun cs => off + (cellsD v).length ≤ cs.length ∧ K (hset σ.h j g (.cells (cs.take off ++ cellsD v ++ cs.drop (off + (cellsD v).length)))))
    (fun sz xs => sz = 1 ∧ (tt T).flat = true ∧ off < xs.length ∧ pureD 5 v = true ∧ (isNilD v = false ∨ isNilD (xs.getD off .junk) = true) ∧ K (hset σ.h j g (.arr sz (xs.set off v))))) := by
  unfold storeK blkK
  rfl

def nilckK (v : D) (h : List Ent) (K : D → Prop) : Prop := match v with | .iptr d => K (.iptr d) | .fn f c => K (.fn f c) | .ptr j g o => (find h j g).isSome = true ∧ K (.ptr j g o) | _ => False
@[congr] theorem nilckK_congr {v v' : D} {h h' : List Ent} (e : v = v') (e2 : h = h') : nilckK v h K1 = nilckK v' h' K1 := by rw [e, e2]
@[simp] theorem opK_nilck : opK tt k ⟨d, .nilck x, T, gd, fl⟩ σ K = nilckK (ev σ.t x) σ.h fun v => K v σ.h σ.g := (rfl)
@[simp] theorem nilckK_iptr {v : D} {h : List Ent} : nilckK (.iptr v) h K1 = K1 (.iptr v) := (rfl)
@[simp] theorem nilckK_fn {f : Nat} {c : List D} {h : List Ent} : nilckK (.fn f c) h K1 = K1 (.fn f c) := (rfl)
@[simp] theorem nilckK_ptr {j g o : Nat} {h : List Ent} : nilckK (.ptr j g o) h K1 = ((find h j g).isSome = true ∧ K1 (.ptr j g o)) := (rfl)

@[congr] theorem binK_congr {kd kd' : Kd} {op : BinOp} {v v' u u' : D} (e0 : kd = kd') (e : v = v') (e2 : u = u') : binK kd op v u K1 = binK kd' op v' u' K1 := by rw [e0, e, e2]
@[simp] theorem opK_bin {op : BinOp} : opK tt k ⟨d, .bin op T2 x y, T, gd, fl⟩ σ K = binK (tt T2).kd op (ev σ.t x) (ev σ.t y) fun v => K v σ.h σ.g := (rfl)
section
variable {kd : IntKind} {a b : Int}
@[simp] theorem binK_add {kt : Kd} : binK kt .add (.int kd a) (.int kd b) K1 = K1 (.int kd (kd.wrap (a + b))) := by simp [binK, binI]
@[simp] theorem binK_sub {kt : Kd} : binK kt .sub (.int kd a) (.int kd b) K1 = K1 (.int kd (kd.wrap (a - b))) := by simp [binK, binI]
@[simp] theorem binK_mul {kt : Kd} : binK kt .mul (.int kd a) (.int kd b) K1 = K1 (.int kd (kd.wrap (a * b))) := by simp [binK, binI]
@[simp] theorem binK_quo {kt : Kd} : binK kt .quo (.int kd a) (.int kd b) K1 = (b ≠ 0 ∧ K1 (.int kd (kd.wrap (a.tdiv b)))) := by simp [binK, binI]
@[simp] theorem binK_rem {kt : Kd} : binK kt .rem (.int kd a) (.int kd b) K1 = (b ≠ 0 ∧ K1 (.int kd (a.tmod b))) := by simp [binK, binI]
@[simp] theorem binK_and {kt : Kd} : binK kt .and (.int kd a) (.int kd b) K1 = K1 (.int kd (bAnd kd a b)) := by simp [binK, binI]
@[simp] theorem binK_or {kt : Kd} : binK kt .or (.int kd a) (.int kd b) K1 = K1 (.int kd (bOr kd a b)) := by simp [binK, binI]
@[simp] theorem binK_xor {kt : Kd} : binK kt .xor (.int kd a) (.int kd b) K1 = K1 (.int kd (bXor kd a b)) := by simp [binK, binI]
@[simp] theorem binK_andNot {kt : Kd} : binK kt .andNot (.int kd a) (.int kd b) K1 = K1 (.int kd (bAndNot kd a b)) := by simp [binK, binI]
@[simp] theorem binK_eql {kt : Kd} : binK kt .eql (.int kd a) (.int kd b) K1 = K1 (.bool (decide (a = b))) := by simp [binK, binI]; rfl
@[simp] theorem binK_neq {kt : Kd} : binK kt .neq (.int kd a) (.int kd b) K1 = K1 (.bool (decide (a ≠ b))) := by
  have : (a != b) = decide (a ≠ b) := by by_cases h : a = b <;> simp [h]
  simp only [binK, binI, true_and, this]
@[simp] theorem binK_lss {kt : Kd} : binK kt .lss (.int kd a) (.int kd b) K1 = K1 (.bool (decide (a < b))) := by simp [binK, binI]
@[simp] theorem binK_leq {kt : Kd} : binK kt .leq (.int kd a) (.int kd b) K1 = K1 (.bool (decide (a ≤ b))) := by simp [binK, binI]
@[simp] theorem binK_gtr {kt : Kd} : binK kt .gtr (.int kd a) (.int kd b) K1 = K1 (.bool (decide (b < a))) := by simp [binK, binI]
@[simp] theorem binK_geq {kt : Kd} : binK kt .geq (.int kd a) (.int kd b) K1 = K1 (.bool (decide (b ≤ a))) := by simp [binK, binI]
@[simp] theorem binK_shl {kt : Kd} : binK kt .shl (.int kd a) (.int kd b) K1 = (0 ≤ b ∧ K1 (.int kd (bShl kd a b))) := by simp [binK, binI]
@[simp] theorem binK_shr {kt : Kd} : binK kt .shr (.int kd a) (.int kd b) K1 = (0 ≤ b ∧ K1 (.int kd (bShr kd a b))) := by simp [binK, binI]
end
@[simp] theorem binK_seql {kt : Kd} {a b : List UInt8} : binK kt .eql (.str a) (.str b) K1 = K1 (.bool (decide (a = b))) := by
  have : (a == b) = decide (a = b) := by by_cases h : a = b <;> simp [h]
  simp only [binK, binS, this]
@[simp] theorem binK_sneq {kt : Kd} {a b : List UInt8} : binK kt .neq (.str a) (.str b) K1 = K1 (.bool (decide (a ≠ b))) := by
  have : (a != b) = decide (a ≠ b) := by by_cases h : a = b <;> simp [h]
  simp only [binK, binS, this]
@[simp] theorem binK_beql {a b : Bool} : binK .bool .eql (.bool a) (.bool b) K1 = K1 (.bool (a == b)) := by simp only [binK, binL, true_and]
@[simp] theorem binK_bneq {a b : Bool} : binK .bool .neq (.bool a) (.bool b) K1 = K1 (.bool (a != b)) := by simp only [binK, binL, true_and]
@[simp] theorem binK_nil {e sz : Nat} {v : D} {xs : List D} : binK (.slice e) .eql (.list sz (v :: xs)) .nil K1 = K1 (.bool false) := by simp [binK, binN, Kd.isSlice]
@[simp] theorem binK_nnil {e sz : Nat} {v : D} {xs : List D} : binK (.slice e) .neq (.list sz (v :: xs)) .nil K1 = K1 (.bool true) := by simp [binK, binN, Kd.isSlice]
@[simp] theorem binK_sadd {kt : Kd} {a b : List UInt8} : binK kt .add (.str a) (.str b) K1 = (a.length + b.length ≤ big ∧ K1 (.str (a ++ b))) := (rfl)

def unK (op : UnOp) (v : D) (K : D → Prop) : Prop := match op, v with
  | .not, .bool b => K (.bool !b)
  | .neg, .int kd n => K (.int kd (kd.wrap (0 - n)))
  | _, _ => False
@[congr] theorem unK_congr {op : UnOp} {v v' : D} (e : v = v') : unK op v K1 = unK op v' K1 := by rw [e]
@[simp] theorem opK_un {op : UnOp} : opK tt k ⟨d, .un op x, T, gd, fl⟩ σ K = unK op (ev σ.t x) fun v => K v σ.h σ.g := (rfl)
@[simp] theorem unK_not {b : Bool} : unK .not (.bool b) K1 = K1 (.bool !b) := (rfl)
@[simp] theorem unK_neg {kd : IntKind} {n : Int} : unK .neg (.int kd n) K1 = K1 (.int kd (kd.wrap (0 - n))) := (rfl)

def convK (t : Kd) (p : Bool) (v : D) (K : D → Prop) : Prop := match t, v with
  | .int kd, .int _ n => p = true ∧ K (.int kd (kd.wrap n))
  | _, _ => False
@[congr] theorem convK_congr {t t' : Kd} {p p' : Bool} {v v' : D} (e : t = t') (e2 : p = p') (e3 : v = v') : convK t p v K1 = convK t' p' v' K1 := by rw [e, e2, e3]
@[simp] theorem opK_conv {S : Nat} : opK tt k ⟨d, .conv S T2 x, T, gd, fl⟩ σ K = convK (tt T2).kd (tt S).flat (ev σ.t x) fun v => K v σ.h σ.g := (rfl)
@[simp] theorem convK_int {kd kd2 : IntKind} {p : Bool} {n : Int} : convK (.int kd) p (.int kd2 n) K1 = (p = true ∧ K1 (.int kd (kd.wrap n))) := (rfl)

@[simp] theorem opK_mkfn {f : Nat} {cs : List Opd} : opK tt k ⟨d, .mkfn f cs, T, gd, fl⟩ σ K = K (.fn f (evL σ.t cs)) σ.h σ.g := (rfl)

def makeK (o : Option Ty) (z : Option D) (l c : D) (k : Nat) (σ : St) (K : D → List Ent → Nat → Prop) : Prop := match o, z, l, c with
  | some E, some z, .int _ n, .int _ m => 0 ≤ n ∧ n = m ∧ n ≤ big ∧ fitsT E z ∧ pureD 5 z = true ∧ K (.arr k σ.g) (⟨k, σ.g, .arr E.sz (List.replicate n.toNat z)⟩ :: hdel σ.h k) (σ.g + 1)
  | _, _, _, _ => False
@[congr] theorem makeK_congr {o o' : Option Ty} {u u' : Option D} {l l' c c' : D} (e : o = o') (e2 : u = u') (e3 : l = l') (e4 : c = c') (e5 : σ = σ') : makeK o u l c k σ K = makeK o' u' l' c' k σ' K := by rw [e, e2, e3, e4, e5]
@[simp] theorem opK_make : opK tt k ⟨d, .make T2 x y, T, gd, fl⟩ σ K = makeK (elemT tt T2) (ezero tt T2) (ev σ.t x) (ev σ.t y) k σ K := (rfl)
@[simp] theorem makeK_some {E : Ty} {v : D} {k1 k2 : IntKind} {n m : Int} : makeK (some E) (some v) (.int k1 n) (.int k2 m) k σ K = (0 ≤ n ∧ n = m ∧ n ≤ big ∧ fitsT E v ∧ pureD 5 v = true ∧ K (.arr k σ.g) (⟨k, σ.g, .arr E.sz (List.replicate n.toNat v)⟩ :: hdel σ.h k) (σ.g + 1)) := (rfl)

def intK (v : D) (K : Int → Prop) : Prop := match v with | .int _ n => K n | _ => False
@[congr] theorem intK_congr {v v' : D} {K : Int → Prop} (e : v = v') : intK v K = intK v' K := by rw [e]
@[simp] theorem intK_int {kd : IntKind} {n : Int} {K : Int → Prop} : intK (.int kd n) K = K n := (rfl)
@[congr] theorem optI_congrS {t : List (Nat × D)} {n n' : Int} {o : Option Opd} {K : Int → Prop} (e : n = n') : optI t n o K = optI t n' o K := by rw [e]
@[simp] theorem optI_none {t : List (Nat × D)} {n : Int} {K : Int → Prop} : optI t n none K = K n := (rfl)
@[simp] theorem optI_some {t : List (Nat × D)} {n : Int} {x : Opd} {K : Int → Prop} : optI t n (some x) K = intK (ev t x) K := (rfl)
def sliceK (tt : Nat → Ty) (T : Nat) (v : D) (t : List (Nat × D)) (lo hi : Option Opd) (K : D → Prop) : Prop := match v with
  | .list sz xs => some sz = esz tt T ∧ optI t 0 lo fun l => optI t xs.length hi fun u => 0 ≤ l ∧ l ≤ u ∧ u ≤ xs.length ∧ K (.list sz ((xs.take u.toNat).drop l.toNat))
  | .str s => (match (tt T).kd with | .str => True | _ => False) ∧ optI t 0 lo fun l => optI t s.length hi fun u => 0 ≤ l ∧ l ≤ u ∧ u ≤ s.length ∧ K (.str ((s.take u.toNat).drop l.toNat))
  | _ => False
@[congr] theorem sliceK_congr {T : Nat} {v v' : D} {t : List (Nat × D)} {lo hi : Option Opd} (e : v = v') : sliceK tt T v t lo hi K1 = sliceK tt T v' t lo hi K1 := by rw [e]
@[simp] theorem opK_slice {lo hi : Option Opd} : opK tt k ⟨d, .slice T2 x lo hi, T, gd, 0⟩ σ K = sliceK tt T2 (ev σ.t x) σ.t lo hi fun v => K v σ.h σ.g := by
  unfold opK
  dsimp only
  cases ev σ.t x <;> try rfl
  simp only [sliceK]
  apply propext
  refine ⟨fun h => ?_, False.elim⟩
  split at h
  · exact absurd h.1 (by decide)
  · exact h
/-- A piece of a list of the run's own, which is never written again. -/
def sliceR (tt : Nat → Ty) (T : Nat) (v : D) (σ : St) (lo hi : Option Opd) (K : D → List Ent → Nat → Prop) : Prop := match v with
  | .arr j g => blkK (find σ.h j g) (fun _ => False) (fun sz xs => some sz = esz tt T ∧ optI σ.t 0 lo fun l => optI σ.t xs.length hi fun u => 0 ≤ l ∧ l ≤ u ∧ u ≤ xs.length ∧ K (.list sz (((xs.map (imm 5)).take u.toNat).drop l.toNat)) (hdel σ.h j) σ.g)
  | v => sliceK tt T v σ.t lo hi fun v => K v σ.h σ.g
@[congr] theorem sliceR_congr {T : Nat} {v v' : D} {lo hi : Option Opd} (e : v = v') (e2 : σ = σ') : sliceR tt T v σ lo hi K = sliceR tt T v' σ' lo hi K := by rw [e, e2]
@[simp] theorem sliceR_arr {T j g : Nat} {lo hi : Option Opd} : sliceR tt T (.arr j g) σ lo hi K = blkK (find σ.h j g) (fun _ => False) (fun sz xs => some sz = esz tt T ∧ optI σ.t 0 lo fun l => optI σ.t xs.length hi fun u => 0 ≤ l ∧ l ≤ u ∧ u ≤ xs.length ∧ K (.list sz (((xs.map (imm 5)).take u.toNat).drop l.toNat)) (hdel σ.h j) σ.g) := (rfl)
@[simp] theorem sliceR_list {T sz : Nat} {xs : List D} {lo hi : Option Opd} : sliceR tt T (.list sz xs) σ lo hi K = sliceK tt T (.list sz xs) σ.t lo hi fun v => K v σ.h σ.g := (rfl)
@[simp] theorem opK_slice2 {lo hi : Option Opd} : opK tt k ⟨d, .slice T2 x lo hi, T, gd, 2⟩ σ K = sliceR tt T2 (ev σ.t x) σ lo hi K := by
  unfold opK
  dsimp only
  cases ev σ.t x <;> try rfl
  rename_i j g
  simp only [sliceR_arr, blkK]
  cases find σ.h j g with
  | none => rfl
  | some b => cases b with
    | cells cs => rfl
    | arr sz xs => simp
@[simp] theorem sliceK_list {T sz : Nat} {xs : List D} {t : List (Nat × D)} {lo hi : Option Opd} : sliceK tt T (.list sz xs) t lo hi K1 = (some sz = esz tt T ∧ optI t 0 lo fun l => optI t xs.length hi fun u => 0 ≤ l ∧ l ≤ u ∧ u ≤ xs.length ∧ K1 (.list sz ((xs.take u.toNat).drop l.toNat))) := (rfl)
@[simp] theorem sliceK_str {T : Nat} {s : List UInt8} {t : List (Nat × D)} {lo hi : Option Opd} : sliceK tt T (.str s) t lo hi K1 = ((match (tt T).kd with | .str => True | _ => False) ∧ optI t 0 lo fun l => optI t s.length hi fun u => 0 ≤ l ∧ l ≤ u ∧ u ≤ s.length ∧ K1 (.str ((s.take u.toNat).drop l.toNat))) := (rfl)

def fieldsK (kd : Kd) (n : Nat) (K : Nat → Nat → Prop) : Prop := match kd with
  | .struct fs => match fs[n]? with
    | some (off, E) => K off E
    | none => False
  | _ => False
@[congr] theorem fieldsK_congr {kd kd' : Kd} {n : Nat} {K : Nat → Nat → Prop} (e : kd = kd') : fieldsK kd n K = fieldsK kd' n K := by rw [e]
def offK (o : Option (Nat × Nat)) (K : Nat → Nat → Prop) : Prop := match o with | some (off, E) => K off E | none => False
@[congr] theorem offK_congr {o o' : Option (Nat × Nat)} {K : Nat → Nat → Prop} (e : o = o') : offK o K = offK o' K := by rw [e]
@[simp] theorem offK_some {a b : Nat} {K : Nat → Nat → Prop} : offK (some (a, b)) K = K a b := (rfl)
@[simp] theorem fieldsK_struct {fs : List (Nat × Nat)} {n : Nat} {K : Nat → Nat → Prop} : fieldsK (.struct fs) n K = offK fs[n]? K := (rfl)
def faddr2 (v : D) (off : Nat) (h : List Ent) (K : D → Prop) : Prop := match v with
  | .iptr (.agg ds) => off < ds.length ∧ K (.iptr (ds.getD off .junk))
  | .ptr j g o => (find h j g).isSome = true ∧ K (.ptr j g (o + off))
  | _ => False
@[congr] theorem faddr2_congr {v v' : D} {off : Nat} {h h' : List Ent} (e : v = v') (e2 : h = h') : faddr2 v off h K1 = faddr2 v' off h' K1 := by rw [e, e2]
@[simp] theorem faddr2_iptr {ds : List D} {off : Nat} {h : List Ent} : faddr2 (.iptr (.agg ds)) off h K1 = (off < ds.length ∧ K1 (.iptr (ds.getD off .junk))) := (rfl)
@[simp] theorem faddr2_ptr {j g o off : Nat} {h : List Ent} : faddr2 (.ptr j g o) off h K1 = ((find h j g).isSome = true ∧ K1 (.ptr j g (o + off))) := (rfl)
@[simp] theorem opK_faddr {n : Nat} : opK tt k ⟨d, .faddr T2 x n, T, gd, fl⟩ σ K = fieldsK (tt T2).kd n fun off E => (tt E).sz = 1 ∧ (tt E).flat = true ∧ faddr2 (ev σ.t x) off σ.h fun v => K v σ.h σ.g := (rfl)
def field2 (v : D) (off : Nat) (K : D → Prop) : Prop := match v with
  | .agg ds => off < ds.length ∧ K (ds.getD off .junk)
  | _ => False
@[congr] theorem field2_congr {v v' : D} {off : Nat} (e : v = v') : field2 v off K1 = field2 v' off K1 := by rw [e]
@[simp] theorem field2_agg {ds : List D} {off : Nat} : field2 (.agg ds) off K1 = (off < ds.length ∧ K1 (ds.getD off .junk)) := (rfl)
@[simp] theorem opK_field {n : Nat} : opK tt k ⟨d, .field T2 x n, T, gd, fl⟩ σ K = fieldsK (tt T2).kd n fun off E => (tt E).sz = 1 ∧ (tt E).flat = true ∧ field2 (ev σ.t x) off fun v => K v σ.h σ.g := (rfl)

def iaddr2 (o : Option Nat) (v : D) (n : Int) (h : List Ent) (K : D → Prop) : Prop := match v with
  | .list sz xs => some sz = o ∧ idxK xs n fun d => K (.iptr d)
  | .arr j g => match find h j g with
    | some (.arr sz xs) => sz = 1 ∧ o = some 1 ∧ 0 ≤ n ∧ n < xs.length ∧ K (.ptr j g n.toNat)
    | _ => False
  | .row j g r => rowK2 (rowAt h j g r) (fun s ys => s = 1 ∧ o = some 1 ∧ 0 ≤ n ∧ n < ys.length ∧ K (.rptr j g r n.toNat))
  | _ => False
@[simp] theorem iaddr2_row {o : Option Nat} {j g r : Nat} {n : Int} {h : List Ent} : iaddr2 o (.row j g r) n h K1 = rowK2 (rowAt h j g r) (fun s ys => s = 1 ∧ o = some 1 ∧ 0 ≤ n ∧ n < ys.length ∧ K1 (.rptr j g r n.toNat)) := (rfl)
@[congr] theorem iaddr2_congr {o o' : Option Nat} {v v' : D} {n n' : Int} {h h' : List Ent} (e : o = o') (e1 : v = v') (e2 : n = n') (e3 : h = h') : iaddr2 o v n h K1 = iaddr2 o' v' n' h' K1 := by rw [e, e1, e2, e3]
@[simp] theorem iaddr2_list {o : Option Nat} {sz : Nat} {xs : List D} {n : Int} {h : List Ent} : iaddr2 o (.list sz xs) n h K1 = (some sz = o ∧ idxK xs n fun d => K1 (.iptr d)) := (rfl)
@[simp] theorem iaddr2_arr {o : Option Nat} {j g : Nat} {n : Int} {h : List Ent} : iaddr2 o (.arr j g) n h K1 = blkK (find h j g) (fun _ => False) (fun sz xs => sz = 1 ∧ o = some 1 ∧ 0 ≤ n ∧ n < xs.length ∧ K1 (.ptr j g n.toNat)) := by
  unfold iaddr2 blkK
  simp only []
  cases find h j g with
  | none => rfl
  | some b => cases b <;> rfl
@[simp] theorem opK_iaddr : opK tt k ⟨d, .iaddr T2 x y, T, gd, fl⟩ σ K = intK (ev σ.t y) fun n => iaddr2 (esz tt T2) (ev σ.t x) n σ.h fun v => K v σ.h σ.g := by
  show (match ev σ.t y with | .int _ n => _ | _ => False) = _
  cases ev σ.t y <;> cases ev σ.t x <;> rfl

def index2 (v : D) (n : Int) (kd : Kd) (K : D → Prop) : Prop := match v, kd with
  | .str s, .str => 0 ≤ n ∧ n < s.length ∧ K (.int .u8 ((s.getD n.toNat 0).toNat : Int))
  | _, _ => False
@[congr] theorem index2_congr {v v' : D} {n n' : Int} {kd kd' : Kd} (e1 : v = v') (e2 : n = n') (e3 : kd = kd') : index2 v n kd K1 = index2 v' n' kd' K1 := by rw [e1, e2, e3]
@[simp] theorem index2_str {s : List UInt8} {n : Int} : index2 (.str s) n .str K1 = (0 ≤ n ∧ n < s.length ∧ K1 (.int .u8 ((s.getD n.toNat 0).toNat : Int))) := (rfl)
@[simp] theorem opK_index : opK tt k ⟨d, .index T2 x y, T, gd, fl⟩ σ K = intK (ev σ.t y) fun n => index2 (ev σ.t x) n (tt T2).kd fun v => K v σ.h σ.g := by
  show (match ev σ.t x, ev σ.t y, (tt T2).kd with | .str s, .int _ n, .str => _ | _, _, _ => False) = _
  unfold intK index2
  cases ev σ.t y <;> cases ev σ.t x <;> cases (tt T2).kd <;> rfl

def ext2 (v : D) (n : Nat) (K : D → Prop) : Prop := match v with | .tup xs => n < xs.length ∧ K (xs.getD n .junk) | _ => False
@[congr] theorem ext2_congr {v v' : D} {n : Nat} (e : v = v') : ext2 v n K1 = ext2 v' n K1 := by rw [e]
@[simp] theorem ext2_tup {xs : List D} {n : Nat} : ext2 (.tup xs) n K1 = (n < xs.length ∧ K1 (xs.getD n .junk)) := (rfl)
@[simp] theorem opK_ext {n : Nat} : opK tt k ⟨d, .ext x n, T, gd, fl⟩ σ K = ext2 (ev σ.t x) n fun v => K v σ.h σ.g := (rfl)

def len2 (kd : Kd) (v : D) (h : List Ent) (K : D → Prop) : Prop := match kd with
  | .str => match v with | .str s => K (.int .i64 s.length) | _ => False
  | .slice _ => match lenD h v with | some n => K (.int .i64 n) | none => False
  | _ => False
@[congr] theorem len2_congr {kd kd' : Kd} {v v' : D} {h h' : List Ent} (e : kd = kd') (e1 : v = v') (e2 : h = h') : len2 kd v h K1 = len2 kd' v' h' K1 := by rw [e, e1, e2]
@[simp] theorem opK_len : opK tt k ⟨d, .len T2 x, T, gd, fl⟩ σ K = len2 (tt T2).kd (ev σ.t x) σ.h fun v => K v σ.h σ.g := (rfl)
@[simp] theorem len2_str {s : List UInt8} {h : List Ent} : len2 .str (.str s) h K1 = K1 (.int .i64 s.length) := (rfl)
@[simp] theorem len2_list {e sz : Nat} {xs : List D} {h : List Ent} : len2 (.slice e) (.list sz xs) h K1 = K1 (.int .i64 xs.length) := (rfl)
@[simp] theorem len2_lit {e sz : Nat} {xs : List D} {h : List Ent} : len2 (.slice e) (.lit sz xs) h K1 = K1 (.int .i64 xs.length) := (rfl)
@[simp] theorem len2_nil {e : Nat} {h : List Ent} : len2 (.slice e) .nil h K1 = K1 (.int .i64 0) := (rfl)
@[simp] theorem len2_arr {e j g : Nat} {h : List Ent} : len2 (.slice e) (.arr j g) h K1 = blkK (find h j g) (fun _ => False) (fun _ xs => K1 (.int .i64 xs.length)) := by
  unfold len2 blkK lenD
  simp only []
  cases find h j g with
  | none => rfl
  | some b => cases b <;> rfl

@[simp] theorem len2_row {e j g r : Nat} {h : List Ent} : len2 (.slice e) (.row j g r) h K1 = rowK2 (rowAt h j g r) (fun _ ys => K1 (.int .i64 ys.length)) := by
  unfold len2 rowK2 lenD
  simp only []
  cases rowAt h j g r with
  | none => rfl
  | some q => rfl

def int2 (v u : D) (K : IntKind → Int → Int → Prop) : Prop := match v, u with | .int kd n, .int _ m => K kd n m | _, _ => False
@[congr] theorem int2_congr {v v' u u' : D} {K : IntKind → Int → Int → Prop} (e : v = v') (e2 : u = u') : int2 v u K = int2 v' u' K := by rw [e, e2]
@[simp] theorem int2_int {k1 k2 : IntKind} {n m : Int} {K : IntKind → Int → Int → Prop} : int2 (.int k1 n) (.int k2 m) K = K k1 n m := (rfl)
@[simp] theorem opK_max : opK tt k ⟨d, .max x y, T, gd, fl⟩ σ K = int2 (ev σ.t x) (ev σ.t y) fun kd n m => K (.int kd (if m > n then m else n)) σ.h σ.g := (rfl)
@[simp] theorem opK_min : opK tt k ⟨d, .min x y, T, gd, fl⟩ σ K = int2 (ev σ.t x) (ev σ.t y) fun kd n m => K (.int kd (if m < n then m else n)) σ.h σ.g := (rfl)

def natK (o : Option Nat) (K : Nat → Prop) : Prop := match o with | none => False | some n => K n
@[congr] theorem natK_congr {o o' : Option Nat} {K : Nat → Prop} (e : o = o') : natK o K = natK o' K := by rw [e]
@[simp] theorem natK_some {n : Nat} {K : Nat → Prop} : natK (some n) K = K n := (rfl)
@[simp] theorem frz_0 : frz 0 K = K := (rfl)
@[simp] theorem frz_1 : frz 1 K = K := (rfl)
@[simp] theorem frz_2 {j g : Nat} {h : List Ent} {n : Nat} : frz 2 K (.arr j g) h n = blkK (find h j g) (fun _ => False) (fun sz xs => K (.list sz (xs.map (imm 5))) (hdel h j) n) := by
  show (match find h j g with | some (.arr sz xs) => _ | _ => False) = _
  unfold blkK
  cases find h j g with
  | none => rfl
  | some b => cases b <;> rfl
def app2 (k sz : Nat) (σ : St) (u v : D) (K : D → List Ent → Nat → Prop) : Prop := match v with
  | .nil => opK.appK k sz σ u [] [] K
  | .list s ys => s = sz ∧ opK.appK k sz σ u ys [] K
  | .lit s ys => s = sz ∧ ((ys.map (keys 5)).flatten).Nodup ∧ opK.appK k sz σ u (ys.map (own σ.h 5)) ((ys.map (keys 5)).flatten) K
  | .arr j g => match find σ.h j g with
    | some (.arr s ys) => s = sz ∧ (∀ d ∈ ys, scal d = true) ∧ (match u with | .arr j' _ => j' ≠ j | _ => True) ∧ opK.appK k sz σ u ys [] K
    | _ => False
  | _ => False
@[congr] theorem app2_congr {sz : Nat} {u u' v v' : D} (e : σ = σ') (e1 : u = u') (e2 : v = v') : app2 k sz σ u v K = app2 k sz σ' u' v' K := by rw [e, e1, e2]
@[simp] theorem app2_nil {sz : Nat} {u : D} : app2 k sz σ u .nil K = opK.appK k sz σ u [] [] K := (rfl)
@[simp] theorem app2_list {sz s : Nat} {u : D} {ys : List D} : app2 k sz σ u (.list s ys) K = (s = sz ∧ opK.appK k sz σ u ys [] K) := (rfl)
@[simp] theorem app2_lit {sz s : Nat} {u : D} {ys : List D} : app2 k sz σ u (.lit s ys) K = (s = sz ∧ ((ys.map (keys 5)).flatten).Nodup ∧ opK.appK k sz σ u (ys.map (own σ.h 5)) ((ys.map (keys 5)).flatten) K) := (rfl)
@[simp] theorem app2_arr {sz j g : Nat} {u : D} : app2 k sz σ u (.arr j g) K = blkK (find σ.h j g) (fun _ => False) (fun s ys => s = sz ∧ (∀ d ∈ ys, scal d = true) ∧ (match u with | .arr j' _ => j' ≠ j | _ => True) ∧ opK.appK k sz σ u ys [] K) := by
  unfold app2 blkK
  simp only []
  cases find σ.h j g with
  | none => rfl
  | some b => cases b <;> rfl
@[congr] theorem appK_congr {sz : Nat} {u u' : D} {es es' : List D} {ks ks' : List Nat} (e : σ = σ') (e1 : u = u') (e2 : es = es') (e3 : ks = ks') : opK.appK k sz σ u es ks K = opK.appK k sz σ' u' es' ks' K := by rw [e, e1, e2, e3]
@[simp] theorem appK_nil {sz : Nat} {es : List D} {ks : List Nat} : opK.appK k sz σ .nil es ks K = (es.length ≤ big ∧ K (.arr k σ.g) (⟨k, σ.g, .arr sz es⟩ :: hdel (hdels σ.h ks) k) (σ.g + 1)) := (rfl)
@[simp] theorem appK_arr {sz j g : Nat} {es : List D} {ks : List Nat} : opK.appK k sz σ (.arr j g) es ks K = blkK (find σ.h j g) (fun _ => False) (fun s' xs => s' = sz ∧ j ∉ ks ∧ xs.length + es.length ≤ big ∧ K (.arr j σ.g) (hset (hdels σ.h ks) j σ.g (.arr sz (xs ++ es))) (σ.g + 1)) := by
  unfold opK.appK blkK
  simp only []
  cases find σ.h j g with
  | none => rfl
  | some b => cases b <;> rfl
@[simp] theorem opK_app {S : Nat} : opK tt k ⟨d, .app T2 S x y, T, gd, fl⟩ σ K = natK (esz tt T2) fun sz => S = T2 ∧ (ezero tt T2).isSome = true ∧ app2 k sz σ (ev σ.t x) (ev σ.t y) (frz fl K) := by
  show (match esz tt T2 with | none => False | some sz => _) = _
  unfold natK app2
  cases esz tt T2 with
  | none => rfl
  | some sz =>
    simp only []
    cases ev σ.t y <;> rfl

section
variable {op : BinOp} {uop : UnOp} {S f n : Nat} {ps : List (Nat × Opd)} {cs : List Opd} {lo hi : Option Opd}
@[simp] theorem opC_mv : opC C kb i ⟨d, .mv x, T, gd, fl⟩ σ K = opK C.tt (kb + 8 * d.getD 0) ⟨d, .mv x, T, gd, fl⟩ σ K := (rfl)
@[simp] theorem opC_pick : opC C kb i ⟨d, .pick z x y, T, gd, fl⟩ σ K = opK C.tt (kb + 8 * d.getD 0) ⟨d, .pick z x y, T, gd, fl⟩ σ K := (rfl)
@[simp] theorem opC_box : opC C kb i ⟨d, .box T2 x, T, gd, fl⟩ σ K = opK C.tt (kb + 8 * d.getD 0) ⟨d, .box T2 x, T, gd, fl⟩ σ K := (rfl)
@[simp] theorem opC_alloc : opC C kb i ⟨d, .alloc T2, T, gd, fl⟩ σ K = opK C.tt (kb + 8 * d.getD 0) ⟨d, .alloc T2, T, gd, fl⟩ σ K := (rfl)
@[simp] theorem opC_build : opC C kb i ⟨d, .build T2 ps, T, gd, fl⟩ σ K = opK C.tt (kb + 8 * d.getD 0) ⟨d, .build T2 ps, T, gd, fl⟩ σ K := (rfl)
@[simp] theorem opC_bslice : opC C kb i ⟨d, .bslice T2 n ps, T, gd, fl⟩ σ K = opK C.tt (kb + 8 * d.getD 0) ⟨d, .bslice T2 n ps, T, gd, fl⟩ σ K := (rfl)
@[simp] theorem opC_load : opC C kb i ⟨d, .load T2 x, T, gd, fl⟩ σ K = opK C.tt (kb + 8 * d.getD 0) ⟨d, .load T2 x, T, gd, fl⟩ σ K := (rfl)
@[simp] theorem opC_store : opC C kb i ⟨d, .store T2 x y, T, gd, fl⟩ σ K = opK C.tt (kb + 8 * d.getD 0) ⟨d, .store T2 x y, T, gd, fl⟩ σ K := (rfl)
@[simp] theorem opC_nilck : opC C kb i ⟨d, .nilck x, T, gd, fl⟩ σ K = opK C.tt (kb + 8 * d.getD 0) ⟨d, .nilck x, T, gd, fl⟩ σ K := (rfl)
@[simp] theorem opC_bin : opC C kb i ⟨d, .bin op T2 x y, T, gd, fl⟩ σ K = opK C.tt (kb + 8 * d.getD 0) ⟨d, .bin op T2 x y, T, gd, fl⟩ σ K := (rfl)
@[simp] theorem opC_un : opC C kb i ⟨d, .un uop x, T, gd, fl⟩ σ K = opK C.tt (kb + 8 * d.getD 0) ⟨d, .un uop x, T, gd, fl⟩ σ K := (rfl)
@[simp] theorem opC_conv : opC C kb i ⟨d, .conv S T2 x, T, gd, fl⟩ σ K = opK C.tt (kb + 8 * d.getD 0) ⟨d, .conv S T2 x, T, gd, fl⟩ σ K := (rfl)
@[simp] theorem opC_mkfn : opC C kb i ⟨d, .mkfn f cs, T, gd, fl⟩ σ K = opK C.tt (kb + 8 * d.getD 0) ⟨d, .mkfn f cs, T, gd, fl⟩ σ K := (rfl)
@[simp] theorem opC_make : opC C kb i ⟨d, .make T2 x y, T, gd, fl⟩ σ K = opK C.tt (kb + 8 * d.getD 0) ⟨d, .make T2 x y, T, gd, fl⟩ σ K := (rfl)
@[simp] theorem opC_slice : opC C kb i ⟨d, .slice T2 x lo hi, T, gd, fl⟩ σ K = opK C.tt (kb + 8 * d.getD 0) ⟨d, .slice T2 x lo hi, T, gd, fl⟩ σ K := (rfl)
@[simp] theorem opC_faddr : opC C kb i ⟨d, .faddr T2 x n, T, gd, fl⟩ σ K = opK C.tt (kb + 8 * d.getD 0) ⟨d, .faddr T2 x n, T, gd, fl⟩ σ K := (rfl)
@[simp] theorem opC_field : opC C kb i ⟨d, .field T2 x n, T, gd, fl⟩ σ K = opK C.tt (kb + 8 * d.getD 0) ⟨d, .field T2 x n, T, gd, fl⟩ σ K := (rfl)
@[simp] theorem opC_iaddr : opC C kb i ⟨d, .iaddr T2 x y, T, gd, fl⟩ σ K = opK C.tt (kb + 8 * d.getD 0) ⟨d, .iaddr T2 x y, T, gd, fl⟩ σ K := (rfl)
@[simp] theorem opC_index : opC C kb i ⟨d, .index T2 x y, T, gd, fl⟩ σ K = opK C.tt (kb + 8 * d.getD 0) ⟨d, .index T2 x y, T, gd, fl⟩ σ K := (rfl)
@[simp] theorem opC_ext : opC C kb i ⟨d, .ext x n, T, gd, fl⟩ σ K = opK C.tt (kb + 8 * d.getD 0) ⟨d, .ext x n, T, gd, fl⟩ σ K := (rfl)
@[simp] theorem opC_len : opC C kb i ⟨d, .len T2 x, T, gd, fl⟩ σ K = opK C.tt (kb + 8 * d.getD 0) ⟨d, .len T2 x, T, gd, fl⟩ σ K := (rfl)
@[simp] theorem opC_app : opC C kb i ⟨d, .app T2 S x y, T, gd, fl⟩ σ K = opK C.tt (kb + 8 * d.getD 0) ⟨d, .app T2 S x y, T, gd, fl⟩ σ K := (rfl)
@[simp] theorem opC_max : opC C kb i ⟨d, .max x y, T, gd, fl⟩ σ K = opK C.tt (kb + 8 * d.getD 0) ⟨d, .max x y, T, gd, fl⟩ σ K := (rfl)
@[simp] theorem opC_min : opC C kb i ⟨d, .min x y, T, gd, fl⟩ σ K = opK C.tt (kb + 8 * d.getD 0) ⟨d, .min x y, T, gd, fl⟩ σ K := (rfl)
@[simp] theorem opCc_mv : opCc C kb i ⟨d, .mv x, T, gd, fl⟩ σ K = opK C.tt (kb + 8 * d.getD 0) ⟨d, .mv x, T, gd, fl⟩ σ K := (rfl)
@[simp] theorem opCc_pick : opCc C kb i ⟨d, .pick z x y, T, gd, fl⟩ σ K = opK C.tt (kb + 8 * d.getD 0) ⟨d, .pick z x y, T, gd, fl⟩ σ K := (rfl)
@[simp] theorem opCc_box : opCc C kb i ⟨d, .box T2 x, T, gd, fl⟩ σ K = opK C.tt (kb + 8 * d.getD 0) ⟨d, .box T2 x, T, gd, fl⟩ σ K := (rfl)
@[simp] theorem opCc_alloc : opCc C kb i ⟨d, .alloc T2, T, gd, fl⟩ σ K = opK C.tt (kb + 8 * d.getD 0) ⟨d, .alloc T2, T, gd, fl⟩ σ K := (rfl)
@[simp] theorem opCc_build : opCc C kb i ⟨d, .build T2 ps, T, gd, fl⟩ σ K = opK C.tt (kb + 8 * d.getD 0) ⟨d, .build T2 ps, T, gd, fl⟩ σ K := (rfl)
@[simp] theorem opCc_bslice : opCc C kb i ⟨d, .bslice T2 n ps, T, gd, fl⟩ σ K = opK C.tt (kb + 8 * d.getD 0) ⟨d, .bslice T2 n ps, T, gd, fl⟩ σ K := (rfl)
@[simp] theorem opCc_load : opCc C kb i ⟨d, .load T2 x, T, gd, fl⟩ σ K = opK C.tt (kb + 8 * d.getD 0) ⟨d, .load T2 x, T, gd, fl⟩ σ K := (rfl)
@[simp] theorem opCc_store : opCc C kb i ⟨d, .store T2 x y, T, gd, fl⟩ σ K = opK C.tt (kb + 8 * d.getD 0) ⟨d, .store T2 x y, T, gd, fl⟩ σ K := (rfl)
@[simp] theorem opCc_nilck : opCc C kb i ⟨d, .nilck x, T, gd, fl⟩ σ K = opK C.tt (kb + 8 * d.getD 0) ⟨d, .nilck x, T, gd, fl⟩ σ K := (rfl)
@[simp] theorem opCc_bin : opCc C kb i ⟨d, .bin op T2 x y, T, gd, fl⟩ σ K = opK C.tt (kb + 8 * d.getD 0) ⟨d, .bin op T2 x y, T, gd, fl⟩ σ K := (rfl)
@[simp] theorem opCc_un : opCc C kb i ⟨d, .un uop x, T, gd, fl⟩ σ K = opK C.tt (kb + 8 * d.getD 0) ⟨d, .un uop x, T, gd, fl⟩ σ K := (rfl)
@[simp] theorem opCc_conv : opCc C kb i ⟨d, .conv S T2 x, T, gd, fl⟩ σ K = opK C.tt (kb + 8 * d.getD 0) ⟨d, .conv S T2 x, T, gd, fl⟩ σ K := (rfl)
@[simp] theorem opCc_mkfn : opCc C kb i ⟨d, .mkfn f cs, T, gd, fl⟩ σ K = opK C.tt (kb + 8 * d.getD 0) ⟨d, .mkfn f cs, T, gd, fl⟩ σ K := (rfl)
@[simp] theorem opCc_make : opCc C kb i ⟨d, .make T2 x y, T, gd, fl⟩ σ K = opK C.tt (kb + 8 * d.getD 0) ⟨d, .make T2 x y, T, gd, fl⟩ σ K := (rfl)
@[simp] theorem opCc_slice : opCc C kb i ⟨d, .slice T2 x lo hi, T, gd, fl⟩ σ K = opK C.tt (kb + 8 * d.getD 0) ⟨d, .slice T2 x lo hi, T, gd, fl⟩ σ K := (rfl)
@[simp] theorem opCc_faddr : opCc C kb i ⟨d, .faddr T2 x n, T, gd, fl⟩ σ K = opK C.tt (kb + 8 * d.getD 0) ⟨d, .faddr T2 x n, T, gd, fl⟩ σ K := (rfl)
@[simp] theorem opCc_field : opCc C kb i ⟨d, .field T2 x n, T, gd, fl⟩ σ K = opK C.tt (kb + 8 * d.getD 0) ⟨d, .field T2 x n, T, gd, fl⟩ σ K := (rfl)
@[simp] theorem opCc_iaddr : opCc C kb i ⟨d, .iaddr T2 x y, T, gd, fl⟩ σ K = opK C.tt (kb + 8 * d.getD 0) ⟨d, .iaddr T2 x y, T, gd, fl⟩ σ K := (rfl)
@[simp] theorem opCc_index : opCc C kb i ⟨d, .index T2 x y, T, gd, fl⟩ σ K = opK C.tt (kb + 8 * d.getD 0) ⟨d, .index T2 x y, T, gd, fl⟩ σ K := (rfl)
@[simp] theorem opCc_ext : opCc C kb i ⟨d, .ext x n, T, gd, fl⟩ σ K = opK C.tt (kb + 8 * d.getD 0) ⟨d, .ext x n, T, gd, fl⟩ σ K := (rfl)
@[simp] theorem opCc_len : opCc C kb i ⟨d, .len T2 x, T, gd, fl⟩ σ K = opK C.tt (kb + 8 * d.getD 0) ⟨d, .len T2 x, T, gd, fl⟩ σ K := (rfl)
@[simp] theorem opCc_app : opCc C kb i ⟨d, .app T2 S x y, T, gd, fl⟩ σ K = opK C.tt (kb + 8 * d.getD 0) ⟨d, .app T2 S x y, T, gd, fl⟩ σ K := (rfl)
@[simp] theorem opCc_max : opCc C kb i ⟨d, .max x y, T, gd, fl⟩ σ K = opK C.tt (kb + 8 * d.getD 0) ⟨d, .max x y, T, gd, fl⟩ σ K := (rfl)
@[simp] theorem opCc_min : opCc C kb i ⟨d, .min x y, T, gd, fl⟩ σ K = opK C.tt (kb + 8 * d.getD 0) ⟨d, .min x y, T, gd, fl⟩ σ K := (rfl)
end
end
end

-- ends

@[simp] theorem retQ_normal {tt : Nat → Ty} {fresh : Bool} {res : List RV} {R : D → List D → Prop} {σ : St} : retQ tt fresh res R false .normal σ = retK tt fresh res R [] σ := (rfl)
@[simp] theorem retQ_ret {tt : Nat → Ty} {fresh : Bool} {res : List RV} {R : D → List D → Prop} {σ : St} : retQ tt fresh res R false .ret σ = retK tt fresh res R [] σ := (rfl)
attribute [simp] retK resK resK1 resL endK esz elemT ezero Ty.isStruct Ty.flat Ty.known fitsT

@[simp] theorem ownedD_bool (b : Bool) : OwnedD (.bool b) ↔ True := ⟨fun _ => trivial, fun _ => .bool b⟩
@[simp] theorem ownedD_int (k : IntKind) (n : Int) : OwnedD (.int k n) ↔ True := ⟨fun _ => trivial, fun _ => .int k n⟩
@[simp] theorem ownedD_str (s : List UInt8) : OwnedD (.str s) ↔ True := ⟨fun _ => trivial, fun _ => .str s⟩
@[simp] theorem ownedD_olist (sz : Nat) (xs : List D) : OwnedD (.olist sz xs) ↔ ∀ x ∈ xs, OwnedD x := ⟨fun h => by cases h; assumption, .olist sz xs⟩
@[simp] theorem ownedD_agg (xs : List D) : OwnedD (.agg xs) ↔ ∀ x ∈ xs, OwnedD x := ⟨fun h => by cases h; assumption, .agg xs⟩
@[simp] theorem ownedD_tup (xs : List D) : OwnedD (.tup xs) ↔ ∀ x ∈ xs, OwnedD x := ⟨fun h => by cases h; assumption, .tup xs⟩

-- lists

abbrev I64 (n : Int) : D := .int .i64 n
def ints (xs : List Int) : List D := xs.map (D.int .i64)
/-- A list of whole numbers, never written again; owned. -/
abbrev IL (xs : List Int) : D := .list 1 (ints xs)
abbrev IO1 (xs : List Int) : D := .olist 1 (ints xs)
def rowsD (xs : List (List Int)) : List D := xs.map IL
def orowsD (xs : List (List Int)) : List D := xs.map IO1
abbrev RL (xs : List (List Int)) : D := .list 1 (rowsD xs)
abbrev RO (xs : List (List Int)) : D := .olist 1 (orowsD xs)

theorem getD_map {α : Type} [Inhabited α] {f : α → D} {xs : List α} {n : Nat} (h : n < xs.length) : (xs.map f).getD n .junk = f (xs.getD n default) := by
  simp [List.getD_eq_getElem?_getD, List.getElem?_eq_getElem h]

theorem idxK_map {α : Type} [Inhabited α] {f : α → D} {xs : List α} {n : Int} {K : D → Prop} : idxK (xs.map f) n K ↔ 0 ≤ n ∧ n < xs.length ∧ K (f (xs.getD n.toNat default)) := by
  unfold idxK
  rw [List.length_map]
  constructor
  · rintro ⟨h1, h2, h3⟩
    rw [getD_map (by omega)] at h3
    exact ⟨h1, h2, h3⟩
  · rintro ⟨h1, h2, h3⟩
    rw [getD_map (by omega)]
    exact ⟨h1, h2, h3⟩
/-- The number in a place of a list, the row in a place. -/
def gi (xs : List Int) (n : Nat) : Int := xs[n]?.getD 0
def gr (xs : List (List Int)) (n : Nat) : List Int := xs[n]?.getD []
theorem gi_getD {xs : List Int} {n : Nat} : xs.getD n default = gi xs n := by simp [gi, List.getD_eq_getElem?_getD]
theorem gr_getD {xs : List (List Int)} {n : Nat} : xs.getD n default = gr xs n := by simp [gr, List.getD_eq_getElem?_getD]; rfl
@[simp] theorem idxK_ints {xs : List Int} {n : Int} {K : D → Prop} : idxK (ints xs) n K ↔ 0 ≤ n ∧ n < xs.length ∧ K (.int .i64 (gi xs n.toNat)) := by rw [← gi_getD]; exact idxK_map
@[simp] theorem idxK_rows {xs : List (List Int)} {n : Int} {K : D → Prop} : idxK (rowsD xs) n K ↔ 0 ≤ n ∧ n < xs.length ∧ K (IL (gr xs n.toNat)) := by rw [← gr_getD]; exact idxK_map
@[simp] theorem scalK_ints {xs : List Int} {n : Nat} {K : D → Prop} : scalK (ints xs) n K ↔ n < xs.length ∧ K (.int .i64 (gi xs n)) := by
  rw [← gi_getD]
  unfold scalK ints
  rw [List.length_map]
  constructor
  · rintro ⟨h1, h2, h3⟩
    rw [getD_map (by omega)] at h3
    exact ⟨h1, h3⟩
  · rintro ⟨h1, h3⟩
    rw [getD_map (by omega)]
    exact ⟨h1, rfl, h3⟩
section
variable {xs ys : List Int} {n : Nat} {v : Int} {r s : List (List Int)}
@[simp] theorem ints_length : (ints xs).length = xs.length := by simp [ints]
@[simp] theorem rowsD_length : (rowsD r).length = r.length := by simp [rowsD]
@[simp] theorem orowsD_length : (orowsD r).length = r.length := by simp [orowsD]
@[simp] theorem ints_set : (ints xs).set n (.int .i64 v) = ints (xs.set n v) := by simp [ints, List.map_set]
@[simp] theorem ints_inj : ints xs = ints ys ↔ xs = ys := by
  constructor
  · intro h
    have := congrArg (List.map fun d => match d with | .int _ n => n | _ => 0) h
    simpa [ints, Function.comp_def] using this
  · rintro rfl; rfl
@[simp] theorem rowsD_inj : rowsD r = rowsD s ↔ r = s := by
  constructor
  · intro h
    have := congrArg (List.map fun d => match d with | D.list _ l => l.map (fun d => match d with | D.int _ n => n | _ => 0) | _ => []) h
    simpa [rowsD, ints, Function.comp_def] using this
  · rintro rfl; rfl
@[simp] theorem orowsD_inj : orowsD r = orowsD s ↔ r = s := by
  constructor
  · intro h
    have := congrArg (List.map fun d => match d with | D.olist _ l => l.map (fun d => match d with | D.int _ n => n | _ => 0) | _ => []) h
    simpa [orowsD, ints, Function.comp_def] using this
  · rintro rfl; rfl
@[simp] theorem ints_owned {d : D} (h : d ∈ ints xs) : OwnedD d := by
  obtain ⟨n, _, rfl⟩ := List.mem_map.1 h
  exact .int _ n
@[simp] theorem ints_owned' : (∀ d ∈ ints xs, OwnedD d) ↔ True := ⟨fun _ => trivial, fun _ d h => ints_owned h⟩
@[simp] theorem orowsD_owned' : (∀ d ∈ orowsD r, OwnedD d) ↔ True := ⟨fun _ => trivial, fun _ d h => by
  obtain ⟨n, _, rfl⟩ := List.mem_map.1 h
  simp⟩
@[simp] theorem ints_push : ints xs ++ [.int .i64 v] = ints (xs ++ [v]) := by simp [ints]
@[simp] theorem ints_append : ints xs ++ ints ys = ints (xs ++ ys) := by simp [ints]
@[simp] theorem orowsD_push : orowsD r ++ [.olist 1 (ints xs)] = orowsD (r ++ [xs]) := by simp [orowsD]
theorem orowsD_one : [D.olist 1 (ints xs)] = orowsD [xs] := by simp [orowsD]
theorem ints_one : [D.int .i64 v] = ints [v] := by simp [ints]
theorem ints_cons : D.int .i64 v :: ints xs = ints (v :: xs) := by simp [ints]
@[simp] theorem ints_replicate : List.replicate n (D.int .i64 v) = ints (List.replicate n v) := by simp [ints]
@[simp] theorem ints_take : (ints xs).take n = ints (xs.take n) := by simp [ints, List.map_take]
@[simp] theorem ints_drop : (ints xs).drop n = ints (xs.drop n) := by simp [ints, List.map_drop]
@[simp] theorem ints_imm : (ints xs).map (imm n) = ints xs := by cases n <;> simp [ints, Function.comp_def]
@[simp] theorem ints_scal : (∀ d ∈ ints xs, scal d = true) ↔ True := ⟨fun _ => trivial, fun _ d h => by
  obtain ⟨n, _, rfl⟩ := List.mem_map.1 h
  rfl⟩
@[simp] theorem rowsD_imm : (rowsD r).map (imm n) = rowsD r := by
  unfold rowsD
  rw [List.map_map]
  apply List.map_congr_left
  intro x _
  cases n <;> simp
theorem rowsD_get (h : n < r.length) : (rowsD r)[n]? = some (IL (r[n]?.getD default)) := by simp [rowsD, List.getElem?_eq_getElem h]
@[simp] theorem orowsD_imm : (orowsD r).map (imm (n + 1)) = rowsD r := by
  unfold orowsD rowsD
  rw [List.map_map]
  apply List.map_congr_left
  intro x _
  simp
theorem ints_nil : ints [] = [] := (rfl)
theorem rowsD_nil : rowsD [] = [] := (rfl)
@[simp] theorem nil_ints : ([] : List D) = ints xs ↔ [] = xs := by rw [← ints_nil, ints_inj]
@[simp] theorem nil_orows : ([] : List D) = orowsD r ↔ [] = r := by rw [show ([] : List D) = orowsD [] from rfl, orowsD_inj]
end

theorem list_ext0 {α : Type} [Inhabited α] {a b : List α} (hl : a.length = b.length) (h : ∀ j, j < a.length → a[j]?.getD default = b[j]?.getD default) : a = b := by
  apply List.ext_getElem hl
  intro i h1 h2
  have := h i h1
  simpa [List.getElem?_eq_getElem h1, List.getElem?_eq_getElem h2] using this

/-- The first 'i' copied, the others as made. -/
def fillL {α : Type} (z : α) (a : List α) (i : Nat) : List α := a.take i ++ List.replicate (a.length - i) z
section
variable {α : Type} {z : α} {a : List α} {i : Nat}
@[simp] theorem fillL_zero : fillL z a 0 = List.replicate a.length z := by simp [fillL]
theorem fillL_length (h : i ≤ a.length) : (fillL z a i).length = a.length := by simp [fillL]; omega
theorem fillL_set [Inhabited α] (h : i < a.length) : (fillL z a i).set i (a[i]?.getD default) = fillL z a (i + 1) := by
  apply List.ext_getElem?
  intro j
  unfold fillL
  rw [List.getElem?_set]
  by_cases hj : i = j
  · subst hj
    rw [if_pos rfl, if_pos (by simp; omega), List.getElem?_append_left (by simp; omega), List.getElem?_take, if_pos (by omega), List.getElem?_eq_getElem h]
    rfl
  · rw [if_neg hj]
    by_cases h1 : j < i
    · rw [List.getElem?_append_left (by simp; omega), List.getElem?_append_left (by simp; omega), List.getElem?_take, List.getElem?_take, if_pos h1, if_pos (by omega)]
    · rw [List.getElem?_append_right (by simp; omega), List.getElem?_append_right (by simp; omega)]
      simp only [List.length_take, List.getElem?_replicate]
      by_cases h2 : j < a.length
      · rw [if_pos (by omega), if_pos (by omega)]
      · rw [if_neg (by omega), if_neg (by omega)]
theorem fillL_setv {v : α} (hv : a[i]? = some v) : (fillL z a i).set i v = fillL z a (i + 1) := by
  have h := (List.getElem?_eq_some_iff.1 hv).1
  haveI : Inhabited α := ⟨v⟩
  have := fillL_set (z := z) h
  rw [hv] at this
  exact this
theorem fillL_all (h : a.length ≤ i) : fillL z a i = a := by simp [fillL, List.take_of_length_le h, Nat.sub_eq_zero_of_le h]
end

theorem gr_mem {a : List (List Int)} {i : Nat} (h : i < a.length) : gr a i ∈ a := by
  rw [gr, List.getElem?_eq_getElem h]; exact List.getElem_mem h
theorem gi_mem {a : List Int} {i : Nat} (h : i < a.length) : gi a i ∈ a := by
  rw [gi, List.getElem?_eq_getElem h]; exact List.getElem_mem h
theorem gi_ext {a b : List Int} (hl : a.length = b.length) (h : ∀ j, j < a.length → gi a j = gi b j) : a = b := list_ext0 hl h
theorem gr_ext {a b : List (List Int)} (hl : a.length = b.length) (h : ∀ j, j < a.length → gr a j = gr b j) : a = b := list_ext0 hl h
theorem gi_drop {a : List Int} {i : Nat} (h : i < a.length) : a.drop i = gi a i :: a.drop (i + 1) := by
  rw [List.drop_eq_getElem_cons h, gi, List.getElem?_eq_getElem h]; rfl
theorem gr_drop {a : List (List Int)} {i : Nat} (h : i < a.length) : a.drop i = gr a i :: a.drop (i + 1) := by
  rw [List.drop_eq_getElem_cons h, gr, List.getElem?_eq_getElem h]; rfl
theorem gr_get {r : List (List Int)} {n : Nat} (h : n < r.length) : (rowsD r)[n]? = some (IL (gr r n)) := rowsD_get h
theorem fillL_gi {a : List Int} {i : Nat} {z : Int} (h : i < a.length) : (fillL z a i).set i (gi a i) = fillL z a (i + 1) := fillL_set h
theorem fillL_gr {a : List (List Int)} {i : Nat} {z : D} (h : i < a.length) : (fillL z (rowsD a) i).set i (IL (gr a i)) = fillL z (rowsD a) (i + 1) := fillL_setv (gr_get h)

section
variable {C : Ctx} {kb id : Nat} {d : Option Nat} {i : Nat → List D → List Ent → Nat → (D → List Ent → Nat → Prop) → Prop} {caps args ds : List D} {σ : St} {as : List AOper} {Q : St → Prop} {v : D}
/-- A call by its contract. -/
theorem call0 (hp : PC C.P id ds none true (fun r _ => r = v)) (hd : (args ++ caps).map (der σ.h 5) = ds) (hk : opsK C kb i as ⟨put σ.t d (imm 5 v), σ.h, σ.g⟩ Q) : callO C kb i d 0 (.fn id caps) args σ as Q :=
  ⟨_, by rw [hd]; exact hp, fun r cs h => by rw [h]; exact hk⟩
theorem call1 (hp : PC C.P id ds none true (fun r _ => r = v)) (hd : (args ++ caps).map (der σ.h 5) = ds)
    (hk : opsK C kb i as ⟨put σ.t d (thaw 5 (kb + 8 * d.getD 0) σ.g v).1, (thaw 5 (kb + 8 * d.getD 0) σ.g v).2.1 ++ hdels σ.h ((thaw 5 (kb + 8 * d.getD 0) σ.g v).2.1.map Ent.k), (thaw 5 (kb + 8 * d.getD 0) σ.g v).2.2.2⟩ Q) : callO C kb i d 1 (.fn id caps) args σ as Q :=
  ⟨_, by rw [hd]; exact hp, fun r cs h => by rw [h]; exact hk⟩
theorem call2 (hp : PC C.P id ds none false (fun r _ => r = v)) (hd : (args ++ caps).map (derS 5) = ds) (hk : opsK C kb i as ⟨put σ.t d (imm 5 v), σ.h, σ.g⟩ Q) : callO C kb i d 2 (.fn id caps) args σ as Q :=
  ⟨_, by rw [hd]; exact hp, fun r cs h => by rw [h]; exact hk⟩
theorem callD0 (hp : PC C.P id ds none true (fun r _ => r = v)) (hd : (args ++ caps).map (der σ.h 5) = ds) (hk : opsKc C kb i as ⟨put σ.t d (imm 5 v), σ.h, σ.g⟩ Q) : callDO C kb i d 0 (.fn id caps) args σ as Q :=
  ⟨_, _, _, ⟨_, by rw [hd]; exact hp, fun r cs h => by rw [h]; exact ⟨rfl, rfl, rfl⟩⟩, .inr ⟨rfl, rfl⟩, hk⟩
theorem callD1 (hp : PC C.P id ds none true (fun r _ => r = v)) (hd : (args ++ caps).map (der σ.h 5) = ds)
    (hk : opsKc C kb i as ⟨put σ.t d (thaw 5 (kb + 8 * d.getD 0) σ.g v).1, (thaw 5 (kb + 8 * d.getD 0) σ.g v).2.1 ++ hdels σ.h ((thaw 5 (kb + 8 * d.getD 0) σ.g v).2.1.map Ent.k), (thaw 5 (kb + 8 * d.getD 0) σ.g v).2.2.2⟩ Q) : callDO C kb i d 1 (.fn id caps) args σ as Q :=
  ⟨_, _, _, ⟨_, by rw [hd]; exact hp, fun r cs h => by rw [h]; exact ⟨rfl, rfl, rfl⟩⟩, .inl rfl, hk⟩
theorem callD2 (hp : PC C.P id ds none false (fun r _ => r = v)) (hd : (args ++ caps).map (derS 5) = ds) (hk : opsKc C kb i as ⟨put σ.t d (imm 5 v), σ.h, σ.g⟩ Q) : callDO C kb i d 2 (.fn id caps) args σ as Q :=
  ⟨_, _, _, ⟨_, by rw [hd]; exact hp, fun r cs h => by rw [h]; exact ⟨rfl, rfl, rfl⟩⟩, .inr ⟨rfl, rfl⟩, hk⟩
end

/-- The turns of a loop that counts up. -/
def upQ (keep kh : List Nat) (N : Nat) (S : Nat → Nat → St) (P : Nat → Prop) (i : Nat) (Q : AExit → St → Prop) : AExit → St → Prop
  | .normal, σ => i < N ∧ P (i + 1) ∧ ∃ g, (⟨keepT keep σ.t, keepH kh σ.h, σ.g⟩ : St) = S (i + 1) g
  | e, σ => Q e σ
@[congr] theorem upQ_congr {keep kh : List Nat} {N : Nat} {S : Nat → Nat → St} {P : Nat → Prop} {i : Nat} {Q : AExit → St → Prop} {e e' : AExit} {σ σ' : St} (h : e = e') (h2 : σ = σ') : upQ keep kh N S P i Q e σ = upQ keep kh N S P i Q e' σ' := by rw [h, h2]
section
variable {keep kh : List Nat} {N : Nat} {S : Nat → Nat → St} {P : Nat → Prop} {i : Nat} {Q : AExit → St → Prop} {σ : St}
@[simp] theorem upQ_normal : upQ keep kh N S P i Q .normal σ = (i < N ∧ P (i + 1) ∧ ∃ g, (⟨keepT keep σ.t, keepH kh σ.h, σ.g⟩ : St) = S (i + 1) g) := (rfl)
@[simp] theorem upQ_ret : upQ keep kh N S P i Q .ret σ = Q .ret σ := (rfl)
@[simp] theorem upQ_exit {id : Nat} : upQ keep kh N S P i Q (.exit id) σ = Q (.exit id) σ := (rfl)
end

theorem loop_up {C : Ctx} {kb n : Nat} {keep kh : List Nat} {a : AC} {Q : AExit → St → Prop} {σ : St} (N : Nat) (S : Nat → Nat → St) (P : Nat → Prop) (g0 : Nat) (h0 : (⟨keepT keep σ.t, keepH kh σ.h, σ.g⟩ : St) = S 0 g0) (hP : P 0)
    (step : ∀ i g, i ≤ N → P i → run C kb (inl C n kb) a (upQ keep kh N S P i Q) (S i g)) : run C kb (inl C n kb) (.loop keep kh a) Q σ := by
  refine loop_inv (fun m σ => ∃ i g, m = N - i ∧ i ≤ N ∧ P i ∧ σ = S i g) N ⟨0, g0, rfl, Nat.zero_le _, hP, h0⟩ ?_
  rintro m σ ⟨i, g, rfl, hi, hp, rfl⟩
  refine run_mono' (fun e σ' hs => ?_) (step i g hi hp)
  cases e with
  | normal =>
    obtain ⟨h1, h2, g', h3⟩ := hs
    exact ⟨N - (i + 1), by omega, i + 1, g', rfl, h1, h2, h3⟩
  | exit id => exact hs
  | ret => exact hs

/-- The same where the turns carry something on. -/
def upxQ {α : Type} (keep kh : List Nat) (N : Nat) (S : Nat → α → Nat → St) (P : Nat → α → Prop) (i : Nat) (Q : AExit → St → Prop) : AExit → St → Prop
  | .normal, σ => i < N ∧ ∃ x g, (⟨keepT keep σ.t, keepH kh σ.h, σ.g⟩ : St) = S (i + 1) x g ∧ P (i + 1) x
  | e, σ => Q e σ
section
variable {α : Type} {keep kh : List Nat} {N : Nat} {S : Nat → α → Nat → St} {P : Nat → α → Prop} {i : Nat} {Q : AExit → St → Prop} {σ σ' : St}
@[congr] theorem upxQ_congr {e e' : AExit} (h : e = e') (h2 : σ = σ') : upxQ keep kh N S P i Q e σ = upxQ keep kh N S P i Q e' σ' := by rw [h, h2]
@[simp] theorem upxQ_normal : upxQ keep kh N S P i Q .normal σ = (i < N ∧ ∃ x g, (⟨keepT keep σ.t, keepH kh σ.h, σ.g⟩ : St) = S (i + 1) x g ∧ P (i + 1) x) := (rfl)
@[simp] theorem upxQ_ret : upxQ keep kh N S P i Q .ret σ = Q .ret σ := (rfl)
@[simp] theorem upxQ_exit {id : Nat} : upxQ keep kh N S P i Q (.exit id) σ = Q (.exit id) σ := (rfl)
end

theorem loop_upx {C : Ctx} {kb n : Nat} {keep kh : List Nat} {a : AC} {Q : AExit → St → Prop} {σ : St} {α : Type} (N : Nat) (S : Nat → α → Nat → St) (P : Nat → α → Prop) (x0 : α) (g0 : Nat) (h0 : (⟨keepT keep σ.t, keepH kh σ.h, σ.g⟩ : St) = S 0 x0 g0) (hP : P 0 x0)
    (step : ∀ i x g, i ≤ N → P i x → run C kb (inl C n kb) a (upxQ keep kh N S P i Q) (S i x g)) : run C kb (inl C n kb) (.loop keep kh a) Q σ := by
  refine loop_inv (fun m σ => ∃ i x g, m = N - i ∧ i ≤ N ∧ P i x ∧ σ = S i x g) N ⟨0, x0, g0, rfl, Nat.zero_le _, hP, h0⟩ ?_
  rintro m σ ⟨i, x, g, rfl, hi, hp, rfl⟩
  refine run_mono' (fun e σ' hs => ?_) (step i x g hi hp)
  cases e with
  | normal =>
    obtain ⟨h1, x', g', h3, h2⟩ := hs
    exact ⟨N - (i + 1), by omega, i + 1, x', g', rfl, h1, h2, h3⟩
  | exit id => exact hs
  | ret => exact hs

theorem wrap64 {n : Int} (h1 : -9223372036854775808 ≤ n) (h2 : n < 9223372036854775808) : IntKind.i64.wrap n = n := by
  unfold IntKind.wrap
  simp [IntKind.bits, IntKind.signed]
  omega

theorem wrap_succ {i N : Nat} (h : i ≤ N) (hN : N ≤ 1099511627776) : IntKind.i64.wrap ((i : Int) + 1) = (i : Int) + 1 := wrap64 (by omega) (by omega)


end Go.PS
end

section
-- Calls by tables of contracts; loops by the slots that change; regions with guards by what they come to.
set_option linter.unusedVariables false
set_option linter.unusedSimpArgs false
namespace Go.PS

/-- The contracts of one function, as a table: what it hands back for which arguments. -/
structure Fam (P : Program) where
  id : Nat
  fresh : Bool
  look : List D → Option D
  ok : ∀ ds v, look ds = some v → PC P id ds none fresh (fun r _ => r = v)

open Classical in
noncomputable def lookF {X : Type} (args : X → List D) (pre : X → Prop) (val : X → D) (ds : List D) : Option D :=
  if h : ∃ x, pre x ∧ args x = ds then some (val (Classical.choose h)) else none

theorem lookF_of {X : Type} {args : X → List D} {pre : X → Prop} {val : X → D} (inj : ∀ x y, args x = args y → val x = val y) (x : X) (h : pre x) : lookF args pre val (args x) = some (val x) := by
  unfold lookF
  have h1 : ∃ y, pre y ∧ args y = args x := ⟨x, h, rfl⟩
  rw [dif_pos h1]
  exact congrArg some (inj _ _ (Classical.choose_spec h1).2)

noncomputable def mkFam {P : Program} {X : Type} (id : Nat) (fresh : Bool) (args : X → List D) (pre : X → Prop) (val : X → D) (ok : ∀ x, pre x → PC P id (args x) none fresh (fun r _ => r = val x)) : Fam P where
  id := id
  fresh := fresh
  look := lookF args pre val
  ok := by
    intro ds v h
    unfold lookF at h
    split at h
    · rename_i hx
      have hs := Classical.choose_spec hx
      injection h with h
      generalize Classical.choose hx = y at hs h
      obtain ⟨hp, rfl⟩ := hs
      rw [← h]
      exact ok y hp
    · cases h

/-- A table for one proof: what it is made of is not looked into. -/
theorem famE {P : Program} {X : Type} (id : Nat) (fresh : Bool) (args : X → List D) (pre : X → Prop) (val : X → D) (inj : ∀ x y, args x = args y → val x = val y) (ok : ∀ x, pre x → PC P id (args x) none fresh (fun r _ => r = val x)) :
    ∃ fm : Fam P, fm.id = id ∧ fm.fresh = fresh ∧ ∀ x, pre x → fm.look (args x) = some (val x) :=
  ⟨mkFam id fresh args pre val ok, rfl, rfl, fun x h => lookF_of inj x h⟩

def findF {P : Program} (id : Nat) : List (Fam P) → Option (Fam P)
  | [] => none
  | f :: l => if f.id = id then some f else findF id l

theorem findF_id {P : Program} {id : Nat} : ∀ {l : List (Fam P)} {f : Fam P}, findF id l = some f → f.id = id
  | [], f, h => by cases h
  | f' :: l, f, h => by
    simp only [findF] at h
    split at h
    · injection h with h; rw [← h]; assumption
    · exact findF_id h

def dmode : Bool → List Ent → D → D
  | true, h => der h 5
  | false, _ => derS 5
@[simp] theorem dmode_true {h : List Ent} : dmode true h = der h 5 := by funext d; rfl
@[simp] theorem dmode_false {h : List Ent} : dmode false h = derS 5 := by funext d; rfl

def tabK {P : Program} (T : List (Fam P)) (id : Nat) (ds : List D) (h : List Ent) (g : Nat) (K : D → List Ent → Nat → Prop) : Prop :=
  match findF id T with
  | none => False
  | some f => ∃ v, f.look (ds.map (dmode f.fresh h)) = some v ∧ K (imm 5 v) h g

theorem tabK_mono {P : Program} (T : List (Fam P)) : InlMono (tabK T) := by
  intro f ds h g K K' hm hk
  unfold tabK at hk ⊢
  split at hk
  · exact hk.elim
  · obtain ⟨v, h1, h2⟩ := hk
    exact ⟨v, h1, hm _ _ _ h2⟩

theorem tabK_ok {C : Ctx} (T : List (Fam C.P)) : InlOk C (tabK T) := by
  intro id ds h G K hk
  unfold tabK at hk
  split at hk
  · exact hk.elim
  · rename_i f hf
    obtain ⟨v, hl, hk⟩ := hk
    have hid : f.id = id := findF_id hf
    have hpc := f.ok _ _ hl
    rw [hid] at hpc
    refine ⟨hpc.1, fun w0 Fo B w μ own vs I hlen hr => ?_⟩
    cases hfr : f.fresh with
    | true =>
      rw [hfr] at hpc
      have hder : ∀ (i : Nat) (d : D) (v : Value), (ds.map (der h 5))[i]? = some d → vs[i]? = some v → Rep w (fun _ => False) d v := by
        intro i d v hd hv
        obtain ⟨e, he, rfl⟩ := getElem?_map_some hd
        exact VRep.der I.hok 5 e v (hr i e v he hv)
      exact pc_plain I (F := fun _ => False) (fun _ h => h.elim) (fun h => by cases h) hpc (by simpa using hlen) hder (fun r cs e => by rw [e]; exact hk)
    | false =>
      rw [hfr] at hpc
      have hders : ∀ (i : Nat) (d : D) (v : Value), (ds.map (derS 5))[i]? = some d → vs[i]? = some v → Rep w (FF own Fo) d v := by
        intro i d v hd hv
        obtain ⟨e, he, rfl⟩ := getElem?_map_some hd
        exact (hr i e v he hv).derS 5
      exact pc_plain I (F := FF own Fo) I.blk (fun _ _ h => h) hpc (by simpa using hlen) hders (fun r cs e => by rw [e]; exact hk)

def lookK (o : Option D) (K : D → Prop) : Prop := match o with
  | some v => K v
  | none => False
@[congr] theorem lookK_congr {o o' : Option D} {K : D → Prop} (h : o = o') : lookK o K = lookK o' K := by rw [h]
@[simp] theorem lookK_some {v : D} {K : D → Prop} : lookK (some v) K = K v := (rfl)
/-- A call by the table. -/
def tab2 {P : Program} (o : Option (Fam P)) (ds : List D) (h : List Ent) (K : D → Prop) : Prop := match o with
  | some f => lookK (f.look (ds.map (dmode f.fresh h))) K
  | none => False
@[congr] theorem tab2_congr {P : Program} {o o' : Option (Fam P)} {ds ds' : List D} {h h' : List Ent} {K : D → Prop} (e : o = o') (e2 : ds = ds') (e3 : h = h') : tab2 o ds h K = tab2 o' ds' h' K := by rw [e, e2, e3]
@[simp] theorem tab2_some {P : Program} {f : Fam P} {ds : List D} {h : List Ent} {K : D → Prop} : tab2 (some f) ds h K = lookK (f.look (ds.map (dmode f.fresh h))) K := (rfl)
@[simp] theorem findF_cons {P : Program} {f : Fam P} {l : List (Fam P)} {id : Nat} : findF id (f :: l) = if f.id = id then some f else findF id l := (rfl)

theorem lookK_ex {o : Option D} {K : D → Prop} : lookK o K ↔ ∃ v, o = some v ∧ K v := by
  cases o with
  | none => exact ⟨fun h => h.elim, fun ⟨_, h, _⟩ => by cases h⟩
  | some v => exact ⟨fun h => ⟨v, rfl, h⟩, fun ⟨_, h, hk⟩ => by injection h with h; subst h; exact hk⟩

section
variable {C : Ctx} {kb : Nat} {σ : St} {Q : AExit → St → Prop}

/-- What follows a call. -/
def putK (C : Ctx) (kb : Nat) (i : Nat → List D → List Ent → Nat → (D → List Ent → Nat → Prop) → Prop) (d : Option Nat) (σ : St) (as : List AOper) (Q : St → Prop) (v : D) : Prop := opsK C kb i as ⟨put σ.t d (imm 5 v), σ.h, σ.g⟩ Q
def putKc (C : Ctx) (kb : Nat) (i : Nat → List D → List Ent → Nat → (D → List Ent → Nat → Prop) → Prop) (d : Option Nat) (σ : St) (as : List AOper) (Q : St → Prop) (v : D) : Prop := opsKc C kb i as ⟨put σ.t d (imm 5 v), σ.h, σ.g⟩ Q
@[simp] theorem putK_app {i : Nat → List D → List Ent → Nat → (D → List Ent → Nat → Prop) → Prop} {d : Option Nat} {as : List AOper} {Q : St → Prop} {v : D} : putK C kb i d σ as Q v = opsK C kb i as ⟨put σ.t d (imm 5 v), σ.h, σ.g⟩ Q := (rfl)
@[simp] theorem putKc_app {i : Nat → List D → List Ent → Nat → (D → List Ent → Nat → Prop) → Prop} {d : Option Nat} {as : List AOper} {Q : St → Prop} {v : D} : putKc C kb i d σ as Q v = opsKc C kb i as ⟨put σ.t d (imm 5 v), σ.h, σ.g⟩ Q := (rfl)

@[simp] theorem callO3 {P : Program} {T : List (Fam P)} {id : Nat} {caps args : List D} {d : Option Nat} {as : List AOper} {Q : St → Prop} :
    callO C kb (tabK T) d 3 (.fn id caps) args σ as Q = tab2 (findF id T) (args ++ caps) σ.h (putK C kb (tabK T) d σ as Q) := by
  apply propext
  show (∃ v, tabK T id (args ++ caps) σ.h σ.g (fun d h g => d = v ∧ h = σ.h ∧ g = σ.g) ∧ opsK C kb (tabK T) as ⟨put σ.t d v, σ.h, σ.g⟩ Q) ↔ _
  unfold tabK tab2
  cases findF id T with
  | none => exact ⟨fun ⟨_, h, _⟩ => h.elim, fun h => h.elim⟩
  | some f =>
    simp only [lookK_ex]
    constructor
    · rintro ⟨v, ⟨u, h1, h2, _, _⟩, h3⟩
      subst h2
      exact ⟨u, h1, h3⟩
    · rintro ⟨u, h1, h3⟩
      exact ⟨_, ⟨u, h1, rfl, trivial, trivial⟩, h3⟩

@[simp] theorem callDO3 {P : Program} {T : List (Fam P)} {id : Nat} {caps args : List D} {d : Option Nat} {as : List AOper} {Q : St → Prop} :
    callDO C kb (tabK T) d 3 (.fn id caps) args σ as Q = tab2 (findF id T) (args ++ caps) σ.h (putKc C kb (tabK T) d σ as Q) := by
  apply propext
  show (∃ d1 h1 g1, (∃ v, tabK T id (args ++ caps) σ.h σ.g (fun d h g => d = v ∧ h = σ.h ∧ g = σ.g) ∧ (v = d1 ∧ σ.h = h1 ∧ σ.g = g1)) ∧ _ ∧ opsKc C kb (tabK T) as ⟨put σ.t d d1, h1, g1⟩ Q) ↔ _
  unfold tabK tab2
  cases findF id T with
  | none => exact ⟨fun ⟨_, _, _, ⟨_, h, _⟩, _⟩ => h.elim, fun h => h.elim⟩
  | some f =>
    simp only [lookK_ex]
    constructor
    · rintro ⟨d1, h1, g1, ⟨v, ⟨u, q1, q2, _, _⟩, rfl, rfl, rfl⟩, _, h3⟩
      subst q2
      exact ⟨u, q1, h3⟩
    · rintro ⟨u, q1, h3⟩
      exact ⟨_, _, _, ⟨_, ⟨u, q1, rfl, trivial, trivial⟩, rfl, rfl, rfl⟩, .inr ⟨rfl, rfl⟩, h3⟩

-- slots that change

def lookD : List (Nat × D) → Nat → D → D
  | [], _, v => v
  | (j, u) :: ws, k, v => if j = k then u else lookD ws k v
def updL (ws : List (Nat × D)) : List (Nat × D) → List (Nat × D)
  | [] => []
  | (k, v) :: t => (k, lookD ws k v) :: updL ws t
@[simp] theorem lookD_nil {k : Nat} {v : D} : lookD [] k v = v := (rfl)
@[simp] theorem lookD_cons {ws : List (Nat × D)} {j k : Nat} {u v : D} : lookD ((j, u) :: ws) k v = if j = k then u else lookD ws k v := (rfl)
@[simp] theorem updL_nil {ws : List (Nat × D)} : updL ws [] = [] := (rfl)
@[simp] theorem updL_cons {ws t : List (Nat × D)} {k : Nat} {v : D} : updL ws ((k, v) :: t) = (k, lookD ws k v) :: updL ws t := (rfl)

variable {inlK : Nat → List D → List Ent → Nat → (D → List Ent → Nat → Prop) → Prop}

/-- A region with guards: not gone into by itself. -/
def gops (l : List AOper) : List AOper := l
def cutQ (ks : List Nat) (ws : List (Nat × D)) (σ σ' : St) : Prop := keepT ks σ'.t = updL ws (keepT ks σ.t) ∧ σ'.h = σ.h ∧ σ'.g = σ.g
@[simp] theorem cutQ_app {ks : List Nat} {ws : List (Nat × D)} {σ σ' : St} : cutQ ks ws σ σ' = (keepT ks σ'.t = updL ws (keepT ks σ.t) ∧ σ'.h = σ.h ∧ σ'.g = σ.g) := (rfl)

/-- A region by what it comes to. -/
theorem cutW (hm : InlMono inlK) {ops : List AOper} {ks : List Nat} (ws : List (Nat × D)) (h1 : opsK C kb inlK ops σ (cutQ ks ws σ)) (h2 : Q .normal ⟨updL ws (keepT ks σ.t), σ.h, σ.g⟩) : opsK C kb inlK (gops ops) σ (regQ ks Q) := by
  refine opsK_mono hm ops (fun σ' h => ?_) h1
  obtain ⟨e1, e2, e3⟩ := h
  show Q .normal ⟨keepT ks σ'.t, σ'.h, σ'.g⟩
  rw [e1, e2, e3]; exact h2
theorem cutWc (hm : InlMono inlK) {ops : List AOper} {ks : List Nat} (ws : List (Nat × D)) (h1 : opsKc C kb inlK ops σ (cutQ ks ws σ)) (h2 : Q .normal ⟨updL ws (keepT ks σ.t), σ.h, σ.g⟩) : opsKc C kb inlK (gops ops) σ (regQ ks Q) := by
  refine opsKc_mono ops (fun σ' h => ?_) h1
  obtain ⟨e1, e2, e3⟩ := h
  show Q .normal ⟨keepT ks σ'.t, σ'.h, σ'.g⟩
  rw [e1, e2, e3]; exact h2

/-- A loop by what holds at its head, 'm' turns before its end at most. -/
theorem loop_invM (hi : InlMono inlK) {keep kh : List Nat} {a : AC} (I : Nat → St → Prop) (m0 : Nat) (h0 : I m0 ⟨keepT keep σ.t, keepH kh σ.h, σ.g⟩)
    (step : ∀ m σ, I m σ → run C kb inlK a (fun e σ' => match e with
      | .normal => ∃ m', m' < m ∧ I m' ⟨keepT keep σ'.t, keepH kh σ'.h, σ'.g⟩
      | e => Q e σ') σ) : run C kb inlK (.loop keep kh a) Q σ := by
  have key : ∀ m σ, I m ⟨keepT keep σ.t, keepH kh σ.h, σ.g⟩ → iter (run C kb inlK a) keep kh Q (m + 1) σ := by
    intro m
    induction m using Nat.strongRecOn with
    | _ m ih =>
      intro σ hI
      simp only [iter]
      refine run_mono hi a _ _ _ (fun e σ' hs => ?_) (step m _ hI)
      cases e with
      | normal =>
        obtain ⟨m', hm, hI'⟩ := hs
        have h1 := ih m' hm σ' hI'
        have more : ∀ k k' σ, k ≤ k' → iter (run C kb inlK a) keep kh Q k σ → iter (run C kb inlK a) keep kh Q k' σ := by
          intro k
          induction k with
          | zero => intro k' σ _ h; exact h.elim
          | succ k ihk =>
            intro k' σ hle h
            cases k' with
            | zero => omega
            | succ k' =>
              simp only [iter] at h ⊢
              exact run_mono hi a _ _ _ (thenQ_mono (fun σ hs => ihk k' σ (by omega) hs) (fun _ _ h => h)) h
        exact more _ _ σ' (by omega) h1
      | exit id => exact hs
      | ret => exact hs
  exact ⟨m0 + 1, key m0 σ h0⟩

/-- The turns of a loop: which slots change ('W'), what the run's own is ('H'), what holds ('P'). -/
def wQ {α : Type} (keep kh : List Nat) (T : List (Nat × D)) (N : Nat) (W : Nat → α → List (Nat × D)) (H : Nat → α → List Ent) (P : Nat → α → Prop) (i : Nat) (Q : AExit → St → Prop) : AExit → St → Prop
  | .normal, σ => i < N ∧ ∃ x, (keepT keep σ.t = updL (W (i + 1) x) T ∧ keepH kh σ.h = H (i + 1) x) ∧ P (i + 1) x
  | e, σ => Q e σ
section
variable {α : Type} {keep kh : List Nat} {T : List (Nat × D)} {N : Nat} {W : Nat → α → List (Nat × D)} {H : Nat → α → List Ent} {P : Nat → α → Prop} {i : Nat}
@[congr] theorem wQ_congr {e e' : AExit} {σ σ' : St} (h : e = e') (h2 : σ = σ') : wQ keep kh T N W H P i Q e σ = wQ keep kh T N W H P i Q e' σ' := by rw [h, h2]
@[simp] theorem wQ_normal : wQ keep kh T N W H P i Q .normal σ = (i < N ∧ ∃ x, (keepT keep σ.t = updL (W (i + 1) x) T ∧ keepH kh σ.h = H (i + 1) x) ∧ P (i + 1) x) := (rfl)
@[simp] theorem wQ_ret : wQ keep kh T N W H P i Q .ret σ = Q .ret σ := (rfl)
@[simp] theorem wQ_exit {id : Nat} : wQ keep kh T N W H P i Q (.exit id) σ = Q (.exit id) σ := (rfl)

theorem loopX (hi : InlMono inlK) {a : AC} (N : Nat) (W : Nat → α → List (Nat × D)) (H : Nat → α → List Ent) (P : Nat → α → Prop) (x0 : α)
    (h0 : keepT keep σ.t = updL (W 0 x0) (keepT keep σ.t)) (hH : keepH kh σ.h = H 0 x0) (hP : P 0 x0)
    (step : ∀ i x g, i ≤ N → P i x → run C kb inlK a (wQ keep kh (keepT keep σ.t) N W H P i Q) ⟨updL (W i x) (keepT keep σ.t), H i x, g⟩) : run C kb inlK (.loop keep kh a) Q σ := by
  refine loop_invM hi (fun m σ' => ∃ i x g, m = N - i ∧ i ≤ N ∧ P i x ∧ σ' = ⟨updL (W i x) (keepT keep σ.t), H i x, g⟩) N ⟨0, x0, σ.g, rfl, Nat.zero_le _, hP, ?_⟩ ?_
  · rw [← h0, ← hH]
  · rintro m σ' ⟨i, x, g, rfl, hi', hp, rfl⟩
    refine run_mono hi a _ _ _ (fun e σ' hs => ?_) (step i x g hi' hp)
    cases e with
    | normal =>
      obtain ⟨h1, x', ⟨h2, h3⟩, h4⟩ := hs
      exact ⟨N - (i + 1), by omega, i + 1, x', σ'.g, rfl, h1, h4, by rw [h2, h3]⟩
    | exit id => exact hs
    | ret => exact hs
end

/-- The same where nothing is carried on but by the count. -/
def vQ (keep kh : List Nat) (T : List (Nat × D)) (N : Nat) (W : Nat → List (Nat × D)) (H : Nat → List Ent) (P : Nat → Prop) (i : Nat) (Q : AExit → St → Prop) : AExit → St → Prop
  | .normal, σ => i < N ∧ (keepT keep σ.t = updL (W (i + 1)) T ∧ keepH kh σ.h = H (i + 1)) ∧ P i
  | e, σ => Q e σ
section
variable {keep kh : List Nat} {T : List (Nat × D)} {N : Nat} {W : Nat → List (Nat × D)} {H : Nat → List Ent} {P : Nat → Prop} {i : Nat}
@[congr] theorem vQ_congr {e e' : AExit} {σ σ' : St} (h : e = e') (h2 : σ = σ') : vQ keep kh T N W H P i Q e σ = vQ keep kh T N W H P i Q e' σ' := by rw [h, h2]
@[simp] theorem vQ_normal : vQ keep kh T N W H P i Q .normal σ = (i < N ∧ (keepT keep σ.t = updL (W (i + 1)) T ∧ keepH kh σ.h = H (i + 1)) ∧ P i) := (rfl)
@[simp] theorem vQ_ret : vQ keep kh T N W H P i Q .ret σ = Q .ret σ := (rfl)
@[simp] theorem vQ_exit {id : Nat} : vQ keep kh T N W H P i Q (.exit id) σ = Q (.exit id) σ := (rfl)

/-- A loop in which 'P i' holds after turn 'i', or it ends there. -/
theorem loopA (hi : InlMono inlK) {a : AC} (N : Nat) (W : Nat → List (Nat × D)) (H : Nat → List Ent) (P : Nat → Prop)
    (h0 : keepT keep σ.t = updL (W 0) (keepT keep σ.t)) (hH : keepH kh σ.h = H 0)
    (step : ∀ i g, i ≤ N → (∀ j, j < i → P j) → run C kb inlK a (vQ keep kh (keepT keep σ.t) N W H P i Q) ⟨updL (W i) (keepT keep σ.t), H i, g⟩) : run C kb inlK (.loop keep kh a) Q σ := by
  refine loopX (α := Unit) hi N (fun i _ => W i) (fun i _ => H i) (fun i _ => ∀ j, j < i → P j) () h0 hH (fun j hj => absurd hj (Nat.not_lt_zero j)) (fun i x g hi' hp => ?_)
  refine run_mono hi a _ _ _ (fun e σ' hs => ?_) (step i g hi' hp)
  cases e with
  | normal =>
    obtain ⟨h1, h2, h3⟩ := hs
    refine ⟨h1, (), h2, fun j hj => ?_⟩
    rcases Nat.lt_or_ge j i with q | q
    · exact hp j q
    · obtain rfl : j = i := by omega
      exact h3
  | exit id => exact hs
  | ret => exact hs
end
end
-- long regions in parts: between two parts only the slots that are read later are kept

/-- The slots that are read before they are written. -/
def liveS : List AOper → List Nat → List Nat
  | [], ks => ks
  | a :: as, ks => rd a ++ (liveS as ks).filter fun n => a.d != some n
def segOk (ks : List Nat) (rest : List AOper) (KS : List Nat) : Bool := (liveS rest KS).all fun n => ks.contains n
/-- The first part of a region, the slots kept after it, the rest. -/
def seg (ks : List Nat) (as rest : List AOper) (KS : List Nat) (_ : segOk ks rest KS = true) : List AOper := as ++ rest

theorem getT_keep {ks : List Nat} {t : List (Nat × D)} {n : Nat} (h : n ∈ ks) : getT (keepT ks t) n = getT t n := by
  induction ks with
  | nil => cases h
  | cons k ks ih =>
    show getT ((k, getT t k) :: keepT ks t) n = _
    simp only [getT]
    by_cases hk : k = n
    · rw [if_pos hk, hk]
    · rw [if_neg hk]
      exact ih ((List.mem_cons.1 h).resolve_left (fun e => hk e.symm))

theorem keepT_agree {ks : List Nat} {t t' : List (Nat × D)} (h : ∀ n ∈ ks, getT t n = getT t' n) : keepT ks t = keepT ks t' := by
  unfold keepT
  exact List.map_congr_left (fun n hn => by rw [h n hn])

/-- What follows depends on these slots alone. -/
def QDep (ks : List Nat) (Q : St → Prop) : Prop := ∀ t t' h g, (∀ n ∈ ks, getT t n = getT t' n) → Q ⟨t, h, g⟩ → Q ⟨t', h, g⟩
theorem regQ_dep {ks : List Nat} {Q : AExit → St → Prop} : QDep ks (regQ ks Q) := fun t t' h g hh hq => by
  show Q .normal ⟨keepT ks t', h, g⟩
  rw [← keepT_agree hh]; exact hq
theorem cutQ_dep {ks : List Nat} {ws : List (Nat × D)} {σ : St} : QDep ks (cutQ ks ws σ) := fun t t' h g hh hq => by
  obtain ⟨h1, h2, h3⟩ := hq
  exact ⟨(keepT_agree hh).symm.trans h1, h2, h3⟩

theorem agree_put {as : List AOper} {a : AOper} {ks : List Nat} {t t' : List (Nat × D)} {v : D} (hh : ∀ n ∈ liveS (a :: as) ks, getT t n = getT t' n) : ∀ n ∈ liveS as ks, getT (put t a.d v) n = getT (put t' a.d v) n := by
  intro n hn
  rw [getT_put, getT_put]
  split
  · rfl
  · rename_i hd
    refine hh n ?_
    simp only [liveS, List.mem_append, List.mem_filter]
    exact .inr ⟨hn, by simpa using hd⟩

theorem agree_cons {ks : List Nat} {t t' : List (Nat × D)} {j : Nat} {d : D} (hh : ∀ n ∈ ks, getT t n = getT t' n) : ∀ n ∈ ks, getT ((j, d) :: t) n = getT ((j, d) :: t') n := by
  intro n hn
  simp only [getT]
  split
  · rfl
  · exact hh n hn

theorem rd_op {a : AOper} {n : Nat} (h : n ∈ aopT a.o) : n ∈ rd a := List.mem_append.2 (.inl h)

section
variable {C : Ctx} {kb : Nat} {i : Nat → List D → List Ent → Nat → (D → List Ent → Nat → Prop) → Prop} {ks : List Nat} {Q : St → Prop}

theorem opsK_agree (hm : InlMono i) (hq : QDep ks Q) : ∀ (as : List AOper) (t t' : List (Nat × D)) (h : List Ent) (g : Nat), (∀ n ∈ liveS as ks, getT t n = getT t' n) → opsK C kb i as ⟨t, h, g⟩ Q → opsK C kb i as ⟨t', h, g⟩ Q
  | [], t, t', h, g, hh, hk => hq t t' h g hh hk
  | a :: as, t, t', h, g, hh, hk => by
    have go : ∀ u u', (∀ n ∈ liveS (a :: as) ks, getT u n = getT u' n) → (opC C kb i a ⟨u, h, g⟩ fun d h g => opsK C kb i as ⟨put u a.d d, h, g⟩ Q) → (opC C kb i a ⟨u', h, g⟩ fun d h g => opsK C kb i as ⟨put u' a.d d, h, g⟩ Q) := by
      intro u u' hu hk
      have h1 := opC_congr (t' := u') (fun n hn => hu n (List.mem_append.2 (.inl (rd_op hn)))) hk
      exact opC_mono hm (fun d h' g' hr => opsK_agree hm hq as _ _ _ _ (agree_put hu) hr) h1
    have sk : ∀ u u', (∀ n ∈ liveS (a :: as) ks, getT u n = getT u' n) → opsK C kb i as ⟨put u a.d .undef, h, g⟩ Q → opsK C kb i as ⟨put u' a.d .undef, h, g⟩ Q := fun u u' hu hk => opsK_agree hm hq as _ _ _ _ (agree_put hu) hk
    simp only [opsK, guardK] at hk ⊢
    split at hk
    · exact go _ _ hh hk
    · rename_i j w hgd
      have hj : getT t j = getT t' j := hh j (List.mem_append.2 (.inl (List.mem_append.2 (.inr (by rw [hgd]; simp [gdT])))))
      rw [← hj]
      split at hk
      · exact ⟨fun e => go _ _ (agree_cons hh) (hk.1 e), fun e => sk _ _ (agree_cons hh) (hk.2 e)⟩
      · exact sk _ _ hh hk
      · exact hk.elim

theorem opsKc_agree (hq : QDep ks Q) : ∀ (as : List AOper) (t t' : List (Nat × D)) (h : List Ent) (g : Nat), (∀ n ∈ liveS as ks, getT t n = getT t' n) → opsKc C kb i as ⟨t, h, g⟩ Q → opsKc C kb i as ⟨t', h, g⟩ Q
  | [], t, t', h, g, hh, hk => hq t t' h g hh hk
  | a :: as, t, t', h, g, hh, hk => by
    have go : ∀ u u', (∀ n ∈ liveS (a :: as) ks, getT u n = getT u' n) → (match callOf a.o with
        | some (f, args) => callD C (kb + 8 * a.d.getD 0) i a.fl (ev u f) (evL u args) ⟨u, h, g⟩ fun d h g => opsKc C kb i as ⟨put u a.d d, h, g⟩ Q
        | none => opK C.tt (kb + 8 * a.d.getD 0) a ⟨u, h, g⟩ fun d h g => opsKc C kb i as ⟨put u a.d d, h, g⟩ Q) → (match callOf a.o with
        | some (f, args) => callD C (kb + 8 * a.d.getD 0) i a.fl (ev u' f) (evL u' args) ⟨u', h, g⟩ fun d h g => opsKc C kb i as ⟨put u' a.d d, h, g⟩ Q
        | none => opK C.tt (kb + 8 * a.d.getD 0) a ⟨u', h, g⟩ fun d h g => opsKc C kb i as ⟨put u' a.d d, h, g⟩ Q) := by
      intro u u' hu hk
      split at hk
      · rename_i f args hao
        have hao := callOf_some hao
        have e1 : ev u f = ev u' f := ev_congr (fun n hn => hu n (List.mem_append.2 (.inl (rd_op (by rw [hao]; exact List.mem_append.2 (.inl hn))))))
        have e2 : evL u args = evL u' args := evL_congr (fun n hn => hu n (List.mem_append.2 (.inl (rd_op (by rw [hao]; exact List.mem_append.2 (.inr hn))))))
        obtain ⟨d, h', g', h1, h2, h3⟩ := hk
        rw [e1, e2] at h1
        exact ⟨d, h', g', h1, h2, opsKc_agree hq as _ _ _ _ (agree_put hu) h3⟩
      · have h1 := opK_congr (t' := u') (fun n hn => hu n (List.mem_append.2 (.inl (rd_op hn)))) hk
        exact opK_mono h1 (fun d h' g' hr => opsKc_agree hq as _ _ _ _ (agree_put hu) hr)
    have sk : ∀ u u', (∀ n ∈ liveS (a :: as) ks, getT u n = getT u' n) → opsKc C kb i as ⟨put u a.d .undef, h, g⟩ Q → opsKc C kb i as ⟨put u' a.d .undef, h, g⟩ Q := fun u u' hu hk => opsKc_agree hq as _ _ _ _ (agree_put hu) hk
    simp only [opsKc, guardK] at hk ⊢
    split at hk
    · exact go _ _ hh hk
    · rename_i j w hgd
      have hj : getT t j = getT t' j := hh j (List.mem_append.2 (.inl (List.mem_append.2 (.inr (by rw [hgd]; simp [gdT])))))
      rw [← hj]
      split at hk
      · exact ⟨fun e => go _ _ (agree_cons hh) (hk.1 e), fun e => sk _ _ (agree_cons hh) (hk.2 e)⟩
      · exact sk _ _ hh hk
      · exact hk.elim

theorem opsK_append : ∀ (as bs : List AOper) (σ : St), opsK C kb i (as ++ bs) σ Q = opsK C kb i as σ (fun σ' => opsK C kb i bs σ' Q)
  | [], bs, σ => rfl
  | a :: as, bs, σ => by
    simp only [List.cons_append, opsK]
    congr 1
    · funext t; congr 1; funext d h g; exact opsK_append as bs _
    · funext t; exact opsK_append as bs _
theorem opsKc_append : ∀ (as bs : List AOper) (σ : St), opsKc C kb i (as ++ bs) σ Q = opsKc C kb i as σ (fun σ' => opsKc C kb i bs σ' Q)
  | [], bs, σ => rfl
  | a :: as, bs, σ => by
    simp only [List.cons_append, opsKc]
    congr 1
    · funext t
      split
      · congr 1; funext d h g; exact opsKc_append as bs _
      · congr 1; funext d h g; exact opsKc_append as bs _
    · funext t; exact opsKc_append as bs _

def segQ (C : Ctx) (kb : Nat) (i : Nat → List D → List Ent → Nat → (D → List Ent → Nat → Prop) → Prop) (ks : List Nat) (rest : List AOper) (Q : St → Prop) (σ : St) : Prop := opsK C kb i rest ⟨keepT ks σ.t, σ.h, σ.g⟩ Q
def segQc (C : Ctx) (kb : Nat) (i : Nat → List D → List Ent → Nat → (D → List Ent → Nat → Prop) → Prop) (ks : List Nat) (rest : List AOper) (Q : St → Prop) (σ : St) : Prop := opsKc C kb i rest ⟨keepT ks σ.t, σ.h, σ.g⟩ Q
@[simp] theorem segQ_app {rest : List AOper} {σ : St} : segQ C kb i ks rest Q σ = opsK C kb i rest ⟨keepT ks σ.t, σ.h, σ.g⟩ Q := (rfl)
@[simp] theorem segQc_app {rest : List AOper} {σ : St} : segQc C kb i ks rest Q σ = opsKc C kb i rest ⟨keepT ks σ.t, σ.h, σ.g⟩ Q := (rfl)

theorem opsK_seg (hm : InlMono i) {KS : List Nat} (hq : QDep KS Q) {as rest : List AOper} {σ : St} {ok : segOk ks rest KS = true} : opsK C kb i (seg ks as rest KS ok) σ Q = opsK C kb i as σ (segQ C kb i ks rest Q) := by
  unfold seg
  rw [opsK_append]
  have hin : ∀ n ∈ liveS rest KS, n ∈ ks := by simpa [segOk] using ok
  apply propext
  exact ⟨fun h => opsK_mono hm as (fun σ' hs => opsK_agree hm hq rest σ'.t (keepT ks σ'.t) σ'.h σ'.g (fun n hn => (getT_keep (hin n hn)).symm) hs) h,
    fun h => opsK_mono hm as (fun σ' hs => opsK_agree hm hq rest (keepT ks σ'.t) σ'.t σ'.h σ'.g (fun n hn => getT_keep (hin n hn)) hs) h⟩
theorem opsKc_seg {KS : List Nat} (hq : QDep KS Q) {as rest : List AOper} {σ : St} {ok : segOk ks rest KS = true} : opsKc C kb i (seg ks as rest KS ok) σ Q = opsKc C kb i as σ (segQc C kb i ks rest Q) := by
  unfold seg
  rw [opsKc_append]
  have hin : ∀ n ∈ liveS rest KS, n ∈ ks := by simpa [segOk] using ok
  apply propext
  exact ⟨fun h => opsKc_mono as (fun σ' hs => opsKc_agree hq rest σ'.t (keepT ks σ'.t) σ'.h σ'.g (fun n hn => (getT_keep (hin n hn)).symm) hs) h,
    fun h => opsKc_mono as (fun σ' hs => opsKc_agree hq rest (keepT ks σ'.t) σ'.t σ'.h σ'.g (fun n hn => getT_keep (hin n hn)) hs) h⟩

variable {P : Program} {T : List (Fam P)} {KS : List Nat} {as rest : List AOper} {σ σ0 : St} {ok : segOk ks rest KS = true} {Q1 : AExit → St → Prop} {ws : List (Nat × D)}
@[simp] theorem opsK_segR : opsK C kb (tabK T) (seg ks as rest KS ok) σ (regQ KS Q1) = opsK C kb (tabK T) as σ (segQ C kb (tabK T) ks rest (regQ KS Q1)) := opsK_seg (tabK_mono T) regQ_dep
@[simp] theorem opsK_segC : opsK C kb (tabK T) (seg ks as rest KS ok) σ (cutQ KS ws σ0) = opsK C kb (tabK T) as σ (segQ C kb (tabK T) ks rest (cutQ KS ws σ0)) := opsK_seg (tabK_mono T) cutQ_dep
@[simp] theorem opsKc_segR : opsKc C kb i (seg ks as rest KS ok) σ (regQ KS Q1) = opsKc C kb i as σ (segQc C kb i ks rest (regQ KS Q1)) := opsKc_seg regQ_dep
@[simp] theorem opsKc_segC : opsKc C kb i (seg ks as rest KS ok) σ (cutQ KS ws σ0) = opsKc C kb i as σ (segQc C kb i ks rest (cutQ KS ws σ0)) := opsKc_seg cutQ_dep
end
end Go.PS
end

section
-- Calls run in place beside calls by tables.
set_option linter.unusedVariables false
set_option linter.unusedSimpArgs false
namespace Go.PS

/-- The end of a call that is run in place. -/
def inlQ (tt : Nat → Ty) (res : List RV) (K : D → List Ent → Nat → Prop) (e : AExit) (σ : St) : Prop := match e with
  | .exit _ => False
  | _ => resK tt res σ fun d => K d σ.h σ.g

/-- The functions of 'C.inl' are run in place, to the depth 'n'; all others go by the tables. -/
def inlT {P : Program} (C : Ctx) (T : List (Fam P)) : Nat → Nat → Nat → List D → List Ent → Nat → (D → List Ent → Nat → Prop) → Prop
  | 0, _, f, ds, h, g, K => tabK T f ds h g K
  | n + 1, kb, f, ds, h, g, K => match C.inl f with
    | none => tabK T f ds h g K
    | some fa => run C (kb + 4000) (inlT C T n (kb + 4000)) fa.ac (inlQ C.tt fa.res K) ⟨args0 0 ds, h, g⟩

theorem inlT_mono {P : Program} (C : Ctx) (T : List (Fam P)) : ∀ n kb, InlMono (inlT C T n kb) := by
  intro n
  induction n with
  | zero => intro kb; exact tabK_mono T
  | succ n ih =>
    intro kb f ds h g K K' hm hk
    simp only [inlT] at hk ⊢
    split at hk
    · exact tabK_mono T _ _ _ _ _ _ hm hk
    · refine run_mono (ih _) _ _ _ _ (fun e σ hs => ?_) hk
      cases e with
      | exit id => exact hs
      | normal => exact resK_mono (fun d hd => hm _ _ _ hd) hs
      | ret => exact resK_mono (fun d hd => hm _ _ _ hd) hs

theorem inlT_ok {C : Ctx} (hty : TyOk C.P C.tt) (hm : C.P.follows .mixedOrders = true) (hinl : ∀ f fa, C.inl f = some fa → ∃ A, FnOk C.P f fa A) (T : List (Fam C.P)) : ∀ n kb, InlOk C (inlT C T n kb) := by
  intro n
  induction n with
  | zero => intro kb; exact tabK_ok T
  | succ n ih =>
    intro kb id ds h G K hk
    simp only [inlT] at hk
    split at hk
    · exact tabK_ok T id ds h G K hk
    · rename_i fa hfa
      obtain ⟨A, hf⟩ := hinl id fa hfa
      refine ⟨hf.enters, fun w0 Fo B w μ own vs I hl hr => ?_⟩
      refine body_sound hty hm (ih (kb + 4000)) hf I hl hr hk (K := fun σ d => K d σ.h σ.g) (fun e σ' q => ?_) (fun σ' w' μ' o' d v q1 q2 q3 => ⟨v, _, _, _, _, _, rfl, q1, q2, q3⟩)
      cases e with
      | exit id => exact q.elim
      | normal => exact ⟨(fun _ h => by cases h), q⟩
      | ret => exact ⟨(fun _ h => by cases h), q⟩

section
variable {P : Program} {C : Ctx} {T : List (Fam P)} {n kb kb' id : Nat} {caps args : List D} {σ : St} {d : Option Nat} {as : List AOper} {Q : St → Prop}

@[congr] theorem inlQ_congr {tt : Nat → Ty} {res : List RV} {K : D → List Ent → Nat → Prop} {e e' : AExit} {σ σ' : St} (h : e = e') (h2 : σ = σ') : inlQ tt res K e σ = inlQ tt res K e' σ' := by rw [h, h2]
@[simp] theorem inlQ_normal {tt : Nat → Ty} {res : List RV} {K : D → List Ent → Nat → Prop} : inlQ tt res K .normal σ = resK tt res σ fun d => K d σ.h σ.g := (rfl)
@[simp] theorem inlQ_ret {tt : Nat → Ty} {res : List RV} {K : D → List Ent → Nat → Prop} : inlQ tt res K .ret σ = resK tt res σ fun d => K d σ.h σ.g := (rfl)

theorem inlT_tab (hi : C.inl id = none) {ds : List D} {h : List Ent} {g : Nat} {K : D → List Ent → Nat → Prop} : inlT C T n kb id ds h g K = tabK T id ds h g K := by
  cases n with
  | zero => rfl
  | succ n => simp only [inlT]; rw [hi]

theorem callO3T (hi : C.inl id = none) : callO C kb' (inlT C T n kb) d 3 (.fn id caps) args σ as Q = tab2 (findF id T) (args ++ caps) σ.h (fun v => opsK C kb' (inlT C T n kb) as ⟨put σ.t d (imm 5 v), σ.h, σ.g⟩ Q) := by
  apply propext
  show (∃ v, inlT C T n kb id (args ++ caps) σ.h σ.g (fun d h g => d = v ∧ h = σ.h ∧ g = σ.g) ∧ opsK C kb' (inlT C T n kb) as ⟨put σ.t d v, σ.h, σ.g⟩ Q) ↔ _
  simp only [inlT_tab hi]
  unfold tabK tab2
  cases findF id T with
  | none => exact ⟨fun ⟨_, h, _⟩ => h.elim, fun h => h.elim⟩
  | some f =>
    simp only [lookK_ex]
    constructor
    · rintro ⟨v, ⟨u, h1, h2, _, _⟩, h3⟩
      subst h2
      exact ⟨u, h1, h3⟩
    · rintro ⟨u, h1, h3⟩
      exact ⟨_, ⟨u, h1, rfl, trivial, trivial⟩, h3⟩

theorem callDO3T (hi : C.inl id = none) : callDO C kb' (inlT C T n kb) d 3 (.fn id caps) args σ as Q = tab2 (findF id T) (args ++ caps) σ.h (fun v => opsKc C kb' (inlT C T n kb) as ⟨put σ.t d (imm 5 v), σ.h, σ.g⟩ Q) := by
  apply propext
  show (∃ d1 h1 g1, (∃ v, inlT C T n kb id (args ++ caps) σ.h σ.g (fun d h g => d = v ∧ h = σ.h ∧ g = σ.g) ∧ (v = d1 ∧ σ.h = h1 ∧ σ.g = g1)) ∧ _ ∧ opsKc C kb' (inlT C T n kb) as ⟨put σ.t d d1, h1, g1⟩ Q) ↔ _
  simp only [inlT_tab hi]
  unfold tabK tab2
  cases findF id T with
  | none => exact ⟨fun ⟨_, _, _, ⟨_, h, _⟩, _⟩ => h.elim, fun h => h.elim⟩
  | some f =>
    simp only [lookK_ex]
    constructor
    · rintro ⟨d1, h1, g1, ⟨v, ⟨u, q1, q2, _, _⟩, rfl, rfl, rfl⟩, _, h3⟩
      subst q2
      exact ⟨u, q1, h3⟩
    · rintro ⟨u, q1, h3⟩
      exact ⟨_, _, _, ⟨_, ⟨u, q1, rfl, trivial, trivial⟩, rfl, rfl, rfl⟩, .inr ⟨rfl, rfl⟩, h3⟩

/-- What follows a call that is run in place. -/
def backK (C : Ctx) (kb : Nat) (i : Nat → List D → List Ent → Nat → (D → List Ent → Nat → Prop) → Prop) (t : List (Nat × D)) (d : Option Nat) (as : List AOper) (Q : St → Prop) (v : D) (h : List Ent) (g : Nat) : Prop := opsK C kb i as ⟨put t d v, h, g⟩ Q
@[simp] theorem backK_app {i : Nat → List D → List Ent → Nat → (D → List Ent → Nat → Prop) → Prop} {t : List (Nat × D)} {v : D} {h : List Ent} {g : Nat} : backK C kb i t d as Q v h g = opsK C kb i as ⟨put t d v, h, g⟩ Q := (rfl)
theorem callO16 {fa : FnA} (hi : C.inl id = some fa) : callO C kb' (inlT C T (n + 1) kb) d 16 (.fn id caps) args σ as Q =
    run C (kb + 4000) (inlT C T n (kb + 4000)) fa.ac (inlQ C.tt fa.res (backK C kb' (inlT C T (n + 1) kb) σ.t d as Q)) ⟨args0 0 (args ++ caps), σ.h, σ.g⟩ := by
  show inlT C T (n + 1) kb id (args ++ caps) σ.h σ.g (fun v h g => opsK C kb' (inlT C T (n + 1) kb) as ⟨put σ.t d v, h, g⟩ Q) = _
  simp only [inlT]
  rw [hi]
  rfl

variable {ks KS : List Nat} {rest : List AOper} {σ0 : St} {ok : segOk ks rest KS = true} {Q1 : AExit → St → Prop} {ws : List (Nat × D)}
@[simp] theorem opsK_segRT : opsK C kb' (inlT C T n kb) (seg ks as rest KS ok) σ (regQ KS Q1) = opsK C kb' (inlT C T n kb) as σ (segQ C kb' (inlT C T n kb) ks rest (regQ KS Q1)) := opsK_seg (inlT_mono C T n kb) regQ_dep
@[simp] theorem opsK_segCT : opsK C kb' (inlT C T n kb) (seg ks as rest KS ok) σ (cutQ KS ws σ0) = opsK C kb' (inlT C T n kb) as σ (segQ C kb' (inlT C T n kb) ks rest (cutQ KS ws σ0)) := opsK_seg (inlT_mono C T n kb) cutQ_dep
end

theorem args0_nil {n : Nat} : args0 n [] = [] := rfl
end Go.PS
end

section
-- Calls whose result becomes the run's own; calls that write to one block, by tables.
set_option linter.unusedVariables false
set_option linter.unusedSimpArgs false
namespace Go.PS

section
variable {C : Ctx} {kb : Nat} {σ : St} {inlK : Nat → List D → List Ent → Nat → (D → List Ent → Nat → Prop) → Prop} {d : Option Nat} {caps args : List D} {as : List AOper} {Q : St → Prop}

/-- A call by the table of one function, what it hands back becoming the run's own. -/
theorem callO1 (fm : Fam C.P) {id : Nat} (hid : fm.id = id) (hfr : fm.fresh = true) {v : D} (hl : fm.look ((args ++ caps).map (der σ.h 5)) = some v)
    (hk : opsK C kb inlK as ⟨put σ.t d (thaw 5 (kb + 8 * d.getD 0) σ.g v).1, (thaw 5 (kb + 8 * d.getD 0) σ.g v).2.1 ++ hdels σ.h ((thaw 5 (kb + 8 * d.getD 0) σ.g v).2.1.map Ent.k), (thaw 5 (kb + 8 * d.getD 0) σ.g v).2.2.2⟩ Q) :
    callO C kb inlK d 1 (.fn id caps) args σ as Q := by
  have h := fm.ok _ _ hl
  rw [hfr, hid] at h
  exact ⟨fun r _ => r = v, h, by rintro r cs rfl; exact hk⟩

theorem callDO1 (fm : Fam C.P) {id : Nat} (hid : fm.id = id) (hfr : fm.fresh = true) {v : D} (hl : fm.look ((args ++ caps).map (der σ.h 5)) = some v)
    (hk : opsKc C kb inlK as ⟨put σ.t d (thaw 5 (kb + 8 * d.getD 0) σ.g v).1, (thaw 5 (kb + 8 * d.getD 0) σ.g v).2.1 ++ hdels σ.h ((thaw 5 (kb + 8 * d.getD 0) σ.g v).2.1.map Ent.k), (thaw 5 (kb + 8 * d.getD 0) σ.g v).2.2.2⟩ Q) :
    callDO C kb inlK d 1 (.fn id caps) args σ as Q := by
  have h := fm.ok _ _ hl
  rw [hfr, hid] at h
  exact ⟨_, _, _, ⟨fun r _ => r = v, h, by rintro r cs rfl; exact ⟨rfl, rfl, rfl⟩⟩, .inl rfl, hk⟩
end

/-- The contracts of one function that writes to a block, as a table. -/
structure FamW (P : Program) where
  id : Nat
  look : List D → List D → Option (D × List D)
  ok : ∀ ds cs v cs', look ds cs = some (v, cs') → PC P id ds (some cs) false (fun r c => imm 5 r = imm 5 v ∧ c = cs')

open Classical in
noncomputable def lookG {X : Type} (args : X → List D) (cell : X → List D) (pre : X → Prop) (val : X → D) (cell' : X → List D) (ds cs : List D) : Option (D × List D) :=
  if h : ∃ x, pre x ∧ args x = ds ∧ cell x = cs then some (val (Classical.choose h), cell' (Classical.choose h)) else none

theorem lookG_of {X : Type} {args cell : X → List D} {pre : X → Prop} {val : X → D} {cell' : X → List D} (inj : ∀ x y, args x = args y → cell x = cell y → val x = val y ∧ cell' x = cell' y) (x : X) (h : pre x) :
    lookG args cell pre val cell' (args x) (cell x) = some (val x, cell' x) := by
  unfold lookG
  have h1 : ∃ y, pre y ∧ args y = args x ∧ cell y = cell x := ⟨x, h, rfl, rfl⟩
  rw [dif_pos h1]
  obtain ⟨e1, e2⟩ := inj _ _ (Classical.choose_spec h1).2.1 (Classical.choose_spec h1).2.2
  rw [e1, e2]

noncomputable def mkFamW {P : Program} {X : Type} (id : Nat) (args : X → List D) (cell : X → List D) (pre : X → Prop) (val : X → D) (cell' : X → List D)
    (ok : ∀ x, pre x → PC P id (args x) (some (cell x)) false (fun r c => imm 5 r = imm 5 (val x) ∧ c = cell' x)) : FamW P where
  id := id
  look := lookG args cell pre val cell'
  ok := by
    intro ds cs v cs' h
    unfold lookG at h
    split at h
    · rename_i hx
      have hs := Classical.choose_spec hx
      injection h with h
      injection h with h1 h2
      generalize Classical.choose hx = y at hs h1 h2
      obtain ⟨hp, rfl, rfl⟩ := hs
      rw [← h1, ← h2]
      exact ok y hp
    · cases h

def findW {P : Program} (id : Nat) : List (FamW P) → Option (FamW P)
  | [] => none
  | f :: l => if f.id = id then some f else findW id l
theorem findW_id {P : Program} {id : Nat} : ∀ {l : List (FamW P)} {f : FamW P}, findW id l = some f → f.id = id
  | [], f, h => by cases h
  | f' :: l, f, h => by
    simp only [findW] at h
    split at h
    · injection h with h; rw [← h]; assumption
    · exact findW_id h
@[simp] theorem findW_nil {P : Program} {id : Nat} : findW (P := P) id [] = none := (rfl)
@[simp] theorem findW_cons {P : Program} {f : FamW P} {l : List (FamW P)} {id : Nat} : findW id (f :: l) = if f.id = id then some f else findW id l := (rfl)

def ioK (o : Option (Nat × Nat)) (K : Nat → Nat → Prop) : Prop := match o with
  | some (j, g) => K j g
  | none => False
@[congr] theorem ioK_congr {o o' : Option (Nat × Nat)} {K : Nat → Nat → Prop} (h : o = o') : ioK o K = ioK o' K := by rw [h]
@[simp] theorem ioK_some {j g : Nat} {K : Nat → Nat → Prop} : ioK (some (j, g)) K = K j g := (rfl)
def lookK2 (o : Option (D × List D)) (K : D → List D → Prop) : Prop := match o with
  | some (v, cs) => K v cs
  | none => False
@[congr] theorem lookK2_congr {o o' : Option (D × List D)} {K : D → List D → Prop} (h : o = o') : lookK2 o K = lookK2 o' K := by rw [h]
@[simp] theorem lookK2_some {v : D} {cs : List D} {K : D → List D → Prop} : lookK2 (some (v, cs)) K = K v cs := (rfl)
/-- A call that writes to a block, by the table. -/
def tabW2 {P : Program} (o : Option (FamW P)) (ds : List D) (h : List Ent) (K : D → List Ent → Prop) : Prop := match o with
  | some f => ioK (ioOf ds) fun j γ => blkK (find h j γ) (fun cs => pureL cs ∧ lookK2 (f.look (ds.map (dio j γ)) cs) fun v cs' => K v (hset h j γ (.cells cs'))) (fun _ _ => False)
  | none => False
@[congr] theorem tabW2_congr {P : Program} {o o' : Option (FamW P)} {ds ds' : List D} {h h' : List Ent} {K : D → List Ent → Prop} (e : o = o') (e2 : ds = ds') (e3 : h = h') : tabW2 o ds h K = tabW2 o' ds' h' K := by rw [e, e2, e3]
@[simp] theorem tabW2_some {P : Program} {f : FamW P} {ds : List D} {h : List Ent} {K : D → List Ent → Prop} : tabW2 (some f) ds h K = ioK (ioOf ds) fun j γ => blkK (find h j γ) (fun cs => pureL cs ∧ lookK2 (f.look (ds.map (dio j γ)) cs) fun v cs' => K v (hset h j γ (.cells cs'))) (fun _ _ => False) := (rfl)

theorem tabW2_ex {P : Program} {o : Option (FamW P)} {ds : List D} {h : List Ent} {K : D → List Ent → Prop} : tabW2 o ds h K ↔ ∃ f j γ cs v cs', o = some f ∧ ioOf ds = some (j, γ) ∧ find h j γ = some (.cells cs) ∧ pureL cs ∧ f.look (ds.map (dio j γ)) cs = some (v, cs') ∧ K v (hset h j γ (.cells cs')) := by
  constructor
  · intro hk
    unfold tabW2 at hk
    split at hk
    · unfold ioK at hk
      split at hk
      · rename_i hio
        unfold blkK at hk
        split at hk
        · rename_i hf
          obtain ⟨hp, hk⟩ := hk
          unfold lookK2 at hk
          split at hk
          · rename_i hl
            exact ⟨_, _, _, _, _, _, rfl, hio, hf, hp, hl, hk⟩
          · exact hk.elim
        · exact hk.elim
        · exact hk.elim
      · exact hk.elim
    · exact hk.elim
  · rintro ⟨f, j, γ, cs, v, cs', rfl, hio, hf, hp, hl, hk⟩
    simp only [tabW2, hio, ioK, hf, blkK, hl, lookK2]
    exact ⟨hp, hk⟩

def tabW {P : Program} (T : List (Fam P)) (TW : List (FamW P)) (id : Nat) (ds : List D) (h : List Ent) (g : Nat) (K : D → List Ent → Nat → Prop) : Prop :=
  match findW id TW with
  | none => tabK T id ds h g K
  | some f => tabW2 (some f) ds h fun v h' => K (imm 5 v) h' g

theorem tabW_mono {P : Program} (T : List (Fam P)) (TW : List (FamW P)) : InlMono (tabW T TW) := by
  intro f ds h g K K' hm hk
  unfold tabW at hk ⊢
  split at hk
  · exact tabK_mono T _ _ _ _ _ _ hm hk
  · obtain ⟨f, j, γ, cs, v, cs', h1, h2, h3, h4, h5, h6⟩ := tabW2_ex.1 hk
    exact tabW2_ex.2 ⟨f, j, γ, cs, v, cs', h1, h2, h3, h4, h5, hm _ _ _ h6⟩

theorem tabW_ok {C : Ctx} (T : List (Fam C.P)) (TW : List (FamW C.P)) : InlOk C (tabW T TW) := by
  intro id ds h G K hk
  unfold tabW at hk
  split at hk
  · exact tabK_ok T id ds h G K hk
  · rename_i f0 hf0
    obtain ⟨f, j, γ, cs, v, cs', h1, h2, h3, h4, h5, h6⟩ := tabW2_ex.1 hk
    injection h1 with h1
    subst h1
    have hid : f0.id = id := findW_id hf0
    have hpc := f0.ok _ _ _ _ h5
    rw [hid] at hpc
    refine ⟨hpc.1, fun w0 Fo B w μ own vs I hlen hr => ?_⟩
    exact pc_io I h3 h4 hpc hlen hr (fun r c e => by obtain ⟨e1, e2⟩ := e; rw [e1, e2]; exact h6)

/-- The functions of 'C.inl' are run in place; all others go by the tables. -/
def inlW {P : Program} (C : Ctx) (T : List (Fam P)) (TW : List (FamW P)) : Nat → Nat → Nat → List D → List Ent → Nat → (D → List Ent → Nat → Prop) → Prop
  | 0, _, f, ds, h, g, K => tabW T TW f ds h g K
  | n + 1, kb, f, ds, h, g, K => match C.inl f with
    | none => tabW T TW f ds h g K
    | some fa => run C (kb + 4000) (inlW C T TW n (kb + 4000)) fa.ac (inlQ C.tt fa.res K) ⟨args0 0 ds, h, g⟩

theorem inlW_mono {P : Program} (C : Ctx) (T : List (Fam P)) (TW : List (FamW P)) : ∀ n kb, InlMono (inlW C T TW n kb) := by
  intro n
  induction n with
  | zero => intro kb; exact tabW_mono T TW
  | succ n ih =>
    intro kb f ds h g K K' hm hk
    simp only [inlW] at hk ⊢
    split at hk
    · exact tabW_mono T TW _ _ _ _ _ _ hm hk
    · refine run_mono (ih _) _ _ _ _ (fun e σ hs => ?_) hk
      cases e with
      | exit id => exact hs
      | normal => exact resK_mono (fun d hd => hm _ _ _ hd) hs
      | ret => exact resK_mono (fun d hd => hm _ _ _ hd) hs

theorem inlW_ok {C : Ctx} (hty : TyOk C.P C.tt) (hm : C.P.follows .mixedOrders = true) (hinl : ∀ f fa, C.inl f = some fa → ∃ A, FnOk C.P f fa A) (T : List (Fam C.P)) (TW : List (FamW C.P)) : ∀ n kb, InlOk C (inlW C T TW n kb) := by
  intro n
  induction n with
  | zero => intro kb; exact tabW_ok T TW
  | succ n ih =>
    intro kb id ds h G K hk
    simp only [inlW] at hk
    split at hk
    · exact tabW_ok T TW id ds h G K hk
    · rename_i fa hfa
      obtain ⟨A, hf⟩ := hinl id fa hfa
      refine ⟨hf.enters, fun w0 Fo B w μ own vs I hl hr => ?_⟩
      refine body_sound hty hm (ih (kb + 4000)) hf I hl hr hk (K := fun σ d => K d σ.h σ.g) (fun e σ' q => ?_) (fun σ' w' μ' o' d v q1 q2 q3 => ⟨v, _, _, _, _, _, rfl, q1, q2, q3⟩)
      cases e with
      | exit id => exact q.elim
      | normal => exact ⟨(fun _ h => by cases h), q⟩
      | ret => exact ⟨(fun _ h => by cases h), q⟩

section
variable {P : Program} {C : Ctx} {T : List (Fam P)} {TW : List (FamW P)} {n kb kb' id : Nat} {caps args : List D} {σ : St} {d : Option Nat} {as : List AOper} {Q : St → Prop}

theorem inlW_tab (hi : C.inl id = none) {ds : List D} {h : List Ent} {g : Nat} {K : D → List Ent → Nat → Prop} : inlW C T TW n kb id ds h g K = tabW T TW id ds h g K := by
  cases n with
  | zero => rfl
  | succ n => simp only [inlW]; rw [hi]

theorem callO3W (hi : C.inl id = none) (hw : findW id TW = none) : callO C kb' (inlW C T TW n kb) d 3 (.fn id caps) args σ as Q = tab2 (findF id T) (args ++ caps) σ.h (fun v => opsK C kb' (inlW C T TW n kb) as ⟨put σ.t d (imm 5 v), σ.h, σ.g⟩ Q) := by
  apply propext
  show (∃ v, inlW C T TW n kb id (args ++ caps) σ.h σ.g (fun d h g => d = v ∧ h = σ.h ∧ g = σ.g) ∧ opsK C kb' (inlW C T TW n kb) as ⟨put σ.t d v, σ.h, σ.g⟩ Q) ↔ _
  simp only [inlW_tab hi]
  unfold tabW
  rw [hw]
  unfold tabK tab2
  cases findF id T with
  | none => exact ⟨fun ⟨_, h, _⟩ => h.elim, fun h => h.elim⟩
  | some f =>
    simp only [lookK_ex]
    constructor
    · rintro ⟨v, ⟨u, h1, h2, _, _⟩, h3⟩
      subst h2
      exact ⟨u, h1, h3⟩
    · rintro ⟨u, h1, h3⟩
      exact ⟨_, ⟨u, h1, rfl, trivial, trivial⟩, h3⟩

theorem callDO3W (hi : C.inl id = none) (hw : findW id TW = none) : callDO C kb' (inlW C T TW n kb) d 3 (.fn id caps) args σ as Q = tab2 (findF id T) (args ++ caps) σ.h (fun v => opsKc C kb' (inlW C T TW n kb) as ⟨put σ.t d (imm 5 v), σ.h, σ.g⟩ Q) := by
  apply propext
  show (∃ d1 h1 g1, (∃ v, inlW C T TW n kb id (args ++ caps) σ.h σ.g (fun d h g => d = v ∧ h = σ.h ∧ g = σ.g) ∧ (v = d1 ∧ σ.h = h1 ∧ σ.g = g1)) ∧ _ ∧ opsKc C kb' (inlW C T TW n kb) as ⟨put σ.t d d1, h1, g1⟩ Q) ↔ _
  simp only [inlW_tab hi]
  unfold tabW
  rw [hw]
  unfold tabK tab2
  cases findF id T with
  | none => exact ⟨fun ⟨_, _, _, ⟨_, h, _⟩, _⟩ => h.elim, fun h => h.elim⟩
  | some f =>
    simp only [lookK_ex]
    constructor
    · rintro ⟨d1, h1, g1, ⟨v, ⟨u, q1, q2, _, _⟩, rfl, rfl, rfl⟩, _, h3⟩
      subst q2
      exact ⟨u, q1, h3⟩
    · rintro ⟨u, q1, h3⟩
      exact ⟨_, _, _, ⟨_, ⟨u, q1, rfl, trivial, trivial⟩, rfl, rfl, rfl⟩, .inr ⟨rfl, rfl⟩, h3⟩

/-- A call that writes to a block, by the table ('f' is the table's). -/
theorem callO16W {f : FamW P} (hi : C.inl id = none) (hw : findW id TW = some f) : callO C kb' (inlW C T TW n kb) d 16 (.fn id caps) args σ as Q = tabW2 (some f) (args ++ caps) σ.h (fun v h => opsK C kb' (inlW C T TW n kb) as ⟨put σ.t d (imm 5 v), h, σ.g⟩ Q) := by
  show inlW C T TW n kb id (args ++ caps) σ.h σ.g (fun v h g => opsK C kb' (inlW C T TW n kb) as ⟨put σ.t d v, h, g⟩ Q) = _
  rw [inlW_tab hi]
  unfold tabW
  rw [hw]

theorem callDO16W {f : FamW P} (hi : C.inl id = none) (hw : findW id TW = some f) : callDO C kb' (inlW C T TW n kb) d 16 (.fn id caps) args σ as Q = tabW2 (some f) (args ++ caps) σ.h (fun v h => opsKc C kb' (inlW C T TW n kb) as ⟨put σ.t d (imm 5 v), h, σ.g⟩ Q) := by
  apply propext
  show (∃ d1 h1 g1, inlW C T TW n kb id (args ++ caps) σ.h σ.g (fun v h g => v = d1 ∧ h = h1 ∧ g = g1) ∧ _ ∧ opsKc C kb' (inlW C T TW n kb) as ⟨put σ.t d d1, h1, g1⟩ Q) ↔ _
  simp only [inlW_tab hi]
  unfold tabW
  rw [hw]
  simp only [tabW2_ex]
  constructor
  · rintro ⟨d1, h1, g1, ⟨f, j, γ, cs, v, cs', a1, a2, a3, a4, a5, rfl, rfl, rfl⟩, _, hk⟩
    exact ⟨f, j, γ, cs, v, cs', a1, a2, a3, a4, a5, hk⟩
  · rintro ⟨f, j, γ, cs, v, cs', a1, a2, a3, a4, a5, hk⟩
    exact ⟨_, _, _, ⟨f, j, γ, cs, v, cs', a1, a2, a3, a4, a5, rfl, rfl, rfl⟩, .inl rfl, hk⟩

/-- A call that is run in place. -/
theorem callO16I {fa : FnA} (hi : C.inl id = some fa) : callO C kb' (inlW C T TW (n + 1) kb) d 16 (.fn id caps) args σ as Q =
    run C (kb + 4000) (inlW C T TW n (kb + 4000)) fa.ac (inlQ C.tt fa.res (backK C kb' (inlW C T TW (n + 1) kb) σ.t d as Q)) ⟨args0 0 (args ++ caps), σ.h, σ.g⟩ := by
  show inlW C T TW (n + 1) kb id (args ++ caps) σ.h σ.g (fun v h g => opsK C kb' (inlW C T TW (n + 1) kb) as ⟨put σ.t d v, h, g⟩ Q) = _
  simp only [inlW]
  rw [hi]
  rfl

variable {ks KS : List Nat} {rest : List AOper} {σ0 : St} {ok : segOk ks rest KS = true} {Q1 : AExit → St → Prop} {ws : List (Nat × D)}
@[simp] theorem opsK_segRW : opsK C kb' (inlW C T TW n kb) (seg ks as rest KS ok) σ (regQ KS Q1) = opsK C kb' (inlW C T TW n kb) as σ (segQ C kb' (inlW C T TW n kb) ks rest (regQ KS Q1)) := opsK_seg (inlW_mono C T TW n kb) regQ_dep
@[simp] theorem opsK_segCW : opsK C kb' (inlW C T TW n kb) (seg ks as rest KS ok) σ (cutQ KS ws σ0) = opsK C kb' (inlW C T TW n kb) as σ (segQ C kb' (inlW C T TW n kb) ks rest (cutQ KS ws σ0)) := opsK_seg (inlW_mono C T TW n kb) cutQ_dep
end

-- what is kept at a loop's head

theorem keepH_all {l : List Nat} {h : List Ent} : keepH (999999999 :: l) h = h := by simp [keepH]
theorem hset_same {k g : Nat} {b : Blk} : ∀ {h : List Ent}, find h k g = some b → hset h k g b = h
  | [], hf => by simp [find] at hf
  | e :: es, hf => by
    simp only [find] at hf
    by_cases hk : e.k = k
    · rw [if_pos hk] at hf
      by_cases hg : e.g = g
      · rw [if_pos hg] at hf
        injection hf with hf
        simp only [hset, if_pos hk]
        rw [← hk, ← hg, ← hf]
      · rw [if_neg hg] at hf; cases hf
    · rw [if_neg hk] at hf
      simp only [hset, if_neg hk]
      rw [hset_same hf]
theorem hset_hset {k g g' : Nat} {b b' : Blk} : ∀ {h : List Ent}, hset (hset h k g b) k g' b' = hset h k g' b'
  | [] => rfl
  | e :: es => by
    by_cases hk : e.k = k
    · simp [hset, if_pos hk]
    · simp only [hset, if_neg hk]
      rw [hset_hset]
theorem find_hset {k g : Nat} {b b' : Blk} : ∀ {h : List Ent}, find h k g = some b → find (hset h k g b') k g = some b'
  | [], hf => by simp [find] at hf
  | e :: es, hf => by
    simp only [find] at hf
    by_cases hk : e.k = k
    · simp [hset, if_pos hk, find]
    · rw [if_neg hk] at hf
      simp only [hset, if_neg hk, find]
      exact find_hset hf

-- rows of the run's own

section
variable {r : List (List Int)} {x y : Nat} {l : List Int} {v : Int}
theorem orowsD_get (h : x < r.length) : (orowsD r)[x]? = some (IO1 (gr r x)) := by simp [orowsD, gr, List.getElem?_eq_getElem h]
theorem rowB_orows (h : x < r.length) {sz : Nat} : rowB (.arr sz (orowsD r)) x = some (1, ints (gr r x)) := by simp only [rowB, orowsD_get h]
theorem rowAt_of {h : List Ent} {k g : Nat} {b : Blk} (hf : find h k g = some b) : rowAt h k g x = rowB b x := by unfold rowAt; rw [hf]
@[simp] theorem rowSet_orows : rowSet (orowsD r) x 1 (ints l) y (.int .i64 v) = .arr 1 (orowsD (r.set x (l.set y v))) := by simp [rowSet, orowsD, List.map_set]
theorem fillL_nil {α : Type} {z d : α} {a : List α} {i : Nat} (h : i < a.length) : (fillL z a i).getD i d = z := by
  unfold fillL
  rw [List.getD_eq_getElem?_getD, List.getElem?_append_right (by simp; omega), List.length_take, Nat.min_eq_left (Nat.le_of_lt h), Nat.sub_self, List.getElem?_replicate, if_pos (by omega)]
  rfl
theorem fillL_get {α : Type} {z : α} {a : List α} {i : Nat} (h' : i < (fillL z a i).length) (h : i < a.length) : (fillL z a i)[i] = z := by
  have := fillL_nil (z := z) (a := a) (d := z) h
  rw [List.getD_eq_getElem?_getD, List.getElem?_eq_getElem h'] at this
  exact this
theorem fillL_orow (h : x < r.length) : (fillL .nil (orowsD r) x).set x (.olist 1 (ints (gr r x))) = fillL .nil (orowsD r) (x + 1) := fillL_setv (orowsD_get h)
end
end Go.PS
end
