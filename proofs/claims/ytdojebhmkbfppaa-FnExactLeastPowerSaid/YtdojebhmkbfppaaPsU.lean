/- Regions whose order Go leaves open are sound. -/
import Derived.Test.YtdojebhmkbfppaaPsT
set_option linter.unusedVariables false
set_option linter.unusedSimpArgs false
set_option linter.unusedSectionVars false
namespace Go.PS

def orOf (M : List Nat) : List Edge → Nat
  | [] => 0
  | e :: es => if Region.binds .any e = true then (2 ^ e.on ||| M.getD e.on 0) ||| orOf M es else orOf M es

theorem orOf_bit {M : List Nat} {i : Nat} : ∀ (es : List Edge), (orOf M es).testBit i = true → ∃ e ∈ es, Region.binds .any e = true ∧ (e.on = i ∨ (M.getD e.on 0).testBit i = true)
  | [], h => by simp [orOf] at h
  | e :: es, h => by
    simp only [orOf] at h
    split at h
    · rename_i hb
      rw [Nat.testBit_or, Nat.testBit_or, Bool.or_eq_true, Bool.or_eq_true, Nat.testBit_two_pow] at h
      rcases h with (h | h) | h
      · exact ⟨e, by simp, hb, .inl (by simpa using h)⟩
      · exact ⟨e, by simp, hb, .inr h⟩
      · obtain ⟨e', he, h1, h2⟩ := orOf_bit es h
        exact ⟨e', by simp [he], h1, h2⟩
    · obtain ⟨e', he, h1, h2⟩ := orOf_bit es h
      exact ⟨e', by simp [he], h1, h2⟩

def mkM : List Oper → List Nat → List Nat
  | [], M => M
  | o :: os, M => mkM os (M ++ [orOf M o.after.toList])

/-- Do two operations stand in each other's way? -/
def conf (a b : AOper) : Bool :=
  (match a.d with | some x => (rd b).contains x || b.d == some x | none => false) || (match b.d with | some x => (rd a).contains x | none => false) || (wr a && acc b) || (acc a && wr b) || (wr a && wr b)

def chk1 (M : List Nat) (ops : List Oper) (aops : List AOper) (j : Nat) : Bool :=
  match ops[j]?, aops[j]? with
  | some o, some a => (M.getD j 0 == orOf M o.after.toList) && (o.after.toList.all fun e => !(Region.binds .any e) || decide (e.on < j)) &&
      (List.range j).all fun i => match aops[i]? with | some b => !(conf b a) || (M.getD j 0).testBit i | none => false
  | _, _ => false

def drawChk (ops : List Oper) (aops : List AOper) : Bool :=
  let M := mkM ops []
  ops.length == aops.length && (List.range ops.length).all (chk1 M ops aops)

/-- What the look at a region says. -/
structure DOk (ops : Array Oper) (aops : List AOper) (M : List Nat) : Prop where
  len : aops.length = ops.size
  back : ∀ (j : Nat) (o : Oper), ops[j]? = some o → ∀ e ∈ o.after, Region.binds .any e = true → e.on < j
  bit : ∀ (j : Nat) (o : Oper) (i : Nat), ops[j]? = some o → (M.getD j 0).testBit i = true → ∃ e ∈ o.after, Region.binds .any e = true ∧ (e.on = i ∨ (M.getD e.on 0).testBit i = true)
  conf : ∀ (i j : Nat) (a b : AOper), i < j → aops[i]? = some a → aops[j]? = some b → PS.conf a b = true → (M.getD j 0).testBit i = true

theorem drawChk_ok {ops : Array Oper} {aops : List AOper} (h : drawChk ops.toList aops = true) : ∃ M, DOk ops aops M := by
  simp only [drawChk, Bool.and_eq_true, beq_iff_eq, List.all_eq_true, List.mem_range] at h
  obtain ⟨hl, hc⟩ := h
  refine ⟨mkM ops.toList [], by rw [← hl]; simp, ?_, ?_, ?_⟩
  all_goals
    have key : ∀ (j : Nat) (o : Oper), ops[j]? = some o → ∃ a, aops[j]? = some a ∧ ((mkM ops.toList []).getD j 0 = orOf (mkM ops.toList []) o.after.toList) ∧ (∀ e ∈ o.after.toList, Region.binds .any e = true → e.on < j) ∧
        ∀ i, i < j → ∀ b, aops[i]? = some b → PS.conf b a = true → ((mkM ops.toList []).getD j 0).testBit i = true := by
      intro j o ho
      have hj : j < ops.toList.length := by simpa using (Array.getElem?_eq_some_iff.1 ho).1
      have := hc j hj
      unfold chk1 at this
      have ho' : ops.toList[j]? = some o := by simpa using ho
      rw [ho'] at this
      cases ha : aops[j]? with
      | none => rw [ha] at this; cases this
      | some a =>
        rw [ha] at this
        simp only [Bool.and_eq_true, beq_iff_eq, List.all_eq_true, Bool.or_eq_true, Bool.not_eq_true', decide_eq_true_eq, List.mem_range] at this
        obtain ⟨⟨h1, h2⟩, h3⟩ := this
        refine ⟨a, rfl, h1, fun e he hb => (h2 e he).resolve_left (by simp [hb]), fun i hi b hb hconf => ?_⟩
        have := h3 i hi
        rw [hb] at this
        simp only [Bool.or_eq_true, Bool.not_eq_true'] at this
        exact this.resolve_left (by simp [hconf])
  · intro j o ho e he hb
    obtain ⟨a, _, _, h2, _⟩ := key j o ho
    exact h2 e (by simpa using he) hb
  · intro j o i ho hbit
    obtain ⟨a, _, h1, _, _⟩ := key j o ho
    rw [h1] at hbit
    obtain ⟨e, he, h2, h3⟩ := orOf_bit _ hbit
    exact ⟨e, by simpa using he, h2, h3⟩
  · intro i j a b hij ha hb hconf
    have hj : j < ops.size := by
      have h1 := (List.getElem?_eq_some_iff.1 hb).1
      rw [← hl] at h1
      simpa using h1
    obtain ⟨a', ha', _, _, h3⟩ := key j ops[j] (Array.getElem?_eq_getElem hj)
    rw [hb] at ha'
    injection ha' with ha'
    subst ha'
    exact h3 i hij a ha hconf

section
variable {ops : Array Oper} {aops : List AOper} {M : List Nat}

/-- Whatever must come before has come. -/
theorem pred_in (hd : DOk ops aops M) {S : Nat → Bool} (hcl : ∀ (j : Nat) (o : Oper), S j = true → ops[j]? = some o → ∀ e ∈ o.after, Region.binds .any e = true → S e.on = true) :
    ∀ (j : Nat) (o : Oper) (i : Nat), ops[j]? = some o → (∀ e ∈ o.after, Region.binds .any e = true → S e.on = true) → (M.getD j 0).testBit i = true → S i = true := by
  intro j
  induction j using Nat.strongRecOn with
  | _ j ih =>
    intro o i ho hdir hbit
    obtain ⟨e, he, hb, h⟩ := hd.bit j o i ho hbit
    rcases h with h | h
    · rw [← h]; exact hdir e he hb
    · have hlt := hd.back j o ho e he hb
      have hj : j < ops.size := (Array.getElem?_eq_some_iff.1 ho).1
      have ho2 : ops[e.on]? = some ops[e.on] := Array.getElem?_eq_getElem (by omega)
      exact ih e.on hlt _ i ho2 (hcl e.on _ (hdir e he hb) ho2) h

def cn (S : Nat → Bool) : Nat → Nat
  | 0 => 0
  | m + 1 => cn S m + if S m = true then 0 else 1

theorem cn_set {S S' : Nat → Bool} {i : Nat} (hS : ∀ j, j ≠ i → S' j = S j) (h0 : S i = false) (h1 : S' i = true) : ∀ m, cn S' m + (if i < m then 1 else 0) = cn S m
  | 0 => by simp [cn]
  | m + 1 => by
    have ih := cn_set hS h0 h1 m
    simp only [cn]
    by_cases hm : m = i
    · subst hm
      rw [h0, h1]
      simp at ih ⊢
      omega
    · have e := hS m hm
      have e2 : (if S' m = true then 0 else 1 : Nat) = (if S m = true then 0 else 1 : Nat) := by rw [e]
      rw [e2]
      by_cases hi : i < m
      · rw [if_pos hi] at ih
        have e3 : (if i < m + 1 then 1 else 0 : Nat) = 1 := if_pos (by omega)
        rw [e3]; omega
      · rw [if_neg hi] at ih
        have e3 : (if i < m + 1 then 1 else 0 : Nat) = 0 := if_neg (by omega)
        rw [e3]; omega

theorem cn_zero {S : Nat → Bool} : ∀ m, cn S m = 0 → ∀ j, j < m → S j = true
  | 0, _, j, hj => by omega
  | m + 1, h, j, hj => by
    simp only [cn] at h
    by_cases hm : j = m
    · subst hm
      cases hS : S j with
      | true => rfl
      | false => rw [hS] at h; simp at h
    · exact cn_zero m (by omega) j (by omega)

theorem cn_all {S : Nat → Bool} : ∀ m, (∀ j, j < m → S j = true) → cn S m = 0
  | 0, _ => rfl
  | m + 1, h => by simp only [cn]; rw [cn_all m (fun j hj => h j (by omega)), h m (by omega)]; simp

end

section
variable {C : Ctx} {nt : Nat} {w0 : World} {Fo : Nat → Prop} {B : Option Nat} {Q : Exit → Act → World → Prop} {kb : Nat} {inlK : Nat → List D → List Ent → Nat → (D → List Ent → Nat → Prop) → Prop}

theorem wanted_of {ops : Array Oper} {o : Oper} {a : Act} {ao : AOper} {w : World} {F : Nat → Prop} {h : List Ent} {μ : Nat → Value} {G : Nat} {t : List (Nat × D)} (hok : OpOk ops nt o ao) (hT : TRel w F h μ G t a.tmps) :
    (runG (getT t) ao.gd → Region.wanted o (yielded ops a.tmps) = true) ∧ (skipG (getT t) ao.gd → Region.wanted o (yielded ops a.tmps) = false) := by
  have hg := hok.gd
  cases hog : o.guard with
  | none =>
    rw [hog] at hg
    simp only [cgd, Option.some.injEq] at hg
    rw [← hg]
    exact ⟨fun _ => by simp [Region.wanted, hog], fun h => h.elim⟩
  | some p =>
    obtain ⟨j, want⟩ := p
    rw [hog] at hg
    simp only [cgd, Option.map_eq_some_iff] at hg
    obtain ⟨dj, hdj, hg⟩ := hg
    rw [← hg]
    have hrep := hT dj
    have hbool : ∀ b, getT t dj = .bool b → yielded ops a.tmps j = some b := by
      intro b hb
      rw [hb] at hrep
      have hv := hrep.asBool
      have hlt : dj < a.tmps.size := by
        rcases Nat.lt_or_ge dj a.tmps.size with h | h
        · exact h
        · rw [Array.getD_eq_getD_getElem?, Array.getElem?_eq_none h] at hv
          cases hv
      unfold yielded
      rw [hdj]
      simp only [Option.bind_some]
      rw [Array.getD_eq_getD_getElem?, Array.getElem?_eq_getElem hlt] at hv
      rw [Array.getElem?_eq_getElem hlt]
      simp only [Option.getD_some] at hv
      rw [hv]
    refine ⟨fun h => ?_, fun h => ?_⟩
    · have hy := hbool want h
      simp [Region.wanted, hog, hy]
    · rcases h with h | h
      · have hy := hbool _ h
        cases want <;> simp [Region.wanted, hog, hy]
      · rw [h] at hrep
        have hv : a.tmps.getD dj undef = undef := by
          revert hrep
          generalize a.tmps.getD dj undef = u
          intro hrep
          cases hrep with
          | imm _ _ r => cases r
          | undef => rfl
        have hy : yielded ops a.tmps j = none := by
          unfold yielded
          rw [hdj]
          simp only [Option.bind_some]
          rw [Array.getD_eq_getD_getElem?] at hv
          cases h0 : a.tmps[dj]? with
          | none => rfl
          | some u => rw [h0] at hv; simp only [Option.getD_some] at hv; rw [hv]; rfl
        simp [Region.wanted, hog, hy]

theorem any_sound (hty : TyOk C.P C.tt) (hin : InlOk C inlK) {ops : Array Oper} {aops : List AOper} {M : List Nat} (hd : DOk ops aops M) (hok : ∀ (i : Nat) (o : Oper) (ao : AOper), ops[i]? = some o → aops[i]? = some ao → OpOk ops nt o ao)
    {outs : List Out1} (hlo : outs.length = aops.length) {τ0 : Nat → D} {h0 : List Ent × Nat} (hT : ∀ i, i < ops.size → TOk C kb inlK aops outs τ0 h0 i)
    {ws : World} {hs : List Ent} {μs : Nat → Value} {gs : Nat} {os : List Nat} (hfin : ∀ (t : List (Nat × D)) (h : List Ent) (g : Nat) (a : Act) (w : World) (μ : Nat → Value) (own : List Nat),
      getT t = tF aops outs all1 τ0 ops.size → (h, g) = hF aops outs all1 h0 ops.size → SInv nt w0 Fo B ⟨t, h, g⟩ a w μ own → Out w0 Fo B ws hs μs gs os w h μ g own → Q .normal a w) :
    ∀ (fuel : Nat) (listed : Array Bool), listed.size = ops.size → (∀ (j : Nat) (o : Oper), listed.getD j false = true → ops[j]? = some o → ∀ e ∈ o.after, Region.binds .any e = true → listed.getD e.on false = true) →
      cn (fun j => listed.getD j false) ops.size ≤ fuel → ∀ (t : List (Nat × D)) (h : List Ent) (g : Nat) (a : Act) (w : World) (μ : Nat → Value) (own : List Nat),
      getT t = tF aops outs (fun j => listed.getD j false) τ0 ops.size → (h, g) = hF aops outs (fun j => listed.getD j false) h0 ops.size → SInv nt w0 Fo B ⟨t, h, g⟩ a w μ own → Out w0 Fo B ws hs μs gs os w h μ g own →
      wpAny C.P .any ops Q fuel listed a w := by
  -- where nothing is ready, all has been done
  have done : ∀ (listed : Array Bool), listed.size = ops.size → Region.ready .any ops listed = [] → ∀ j, j < ops.size → listed.getD j false = true := by
    intro listed hsz hr j
    induction j using Nat.strongRecOn with
    | _ j ih =>
      intro hj
      cases hl : listed.getD j false with
      | true => rfl
      | false =>
        exfalso
        have : j ∈ Region.ready .any ops listed := by
          rw [mem_ready]
          refine ⟨?_, ops[j], Array.getElem?_eq_getElem hj, fun e he hb => ih e.on (hd.back j _ (Array.getElem?_eq_getElem hj) e he hb) (Nat.lt_trans (hd.back j _ (Array.getElem?_eq_getElem hj) e he hb) hj)⟩
          rw [Array.getD_eq_getD_getElem?, Array.getElem?_eq_getElem (by omega)] at hl ⊢
          simpa using hl
        rw [hr] at this
        cases this
  have endOk : ∀ (listed : Array Bool), listed.size = ops.size → (∀ j, j < ops.size → listed.getD j false = true) → ∀ (t : List (Nat × D)) (h : List Ent) (g : Nat) (a : Act) (w : World) (μ : Nat → Value) (own : List Nat),
      getT t = tF aops outs (fun j => listed.getD j false) τ0 ops.size → (h, g) = hF aops outs (fun j => listed.getD j false) h0 ops.size → SInv nt w0 Fo B ⟨t, h, g⟩ a w μ own → Out w0 Fo B ws hs μs gs os w h μ g own → Q .normal a w := by
    intro listed hsz hall t h g a w μ own ht hh S out
    refine hfin t h g a w μ own (ht.trans ?_) (hh.trans ?_) S out
    · funext x
      have := gF_comm (u := wT aops outs x) (S := fun j => listed.getD j false) (v0 := τ0 x) (i := ops.size) ops.size (fun j hj _ => ⟨fun _ => hj, fun _ => hall j hj⟩)
      simpa [tF] using this
    · have := gF_comm (u := wH aops outs) (S := fun j => listed.getD j false) (v0 := h0) (i := ops.size) ops.size (fun j hj _ => ⟨fun _ => hj, fun _ => hall j hj⟩)
      simpa [hF] using this
  intro fuel
  induction fuel with
  | zero =>
    intro listed hsz hcl hcn t h g a w μ own ht hh S out
    have hall := cn_zero ops.size (by omega : cn (fun j => listed.getD j false) ops.size = 0)
    refine ⟨?_, endOk listed hsz hall t h g a w μ own ht hh S out⟩
    cases hr : Region.ready .any ops listed with
    | nil => rfl
    | cons i is =>
      exfalso
      have : i ∈ Region.ready .any ops listed := by rw [hr]; simp
      rw [mem_ready] at this
      obtain ⟨h1, o, ho, _⟩ := this
      have hi : i < ops.size := (Array.getElem?_eq_some_iff.1 ho).1
      have h2 := hall i hi
      simp only [Array.getD_eq_getD_getElem?, Array.getElem?_eq_getElem (show i < listed.size by omega)] at h1 h2
      simp at h1 h2
      rw [h1] at h2; cases h2
  | succ fuel ih =>
    intro listed hsz hcl hcn t h g a w μ own ht hh S out
    refine ⟨fun hr => endOk listed hsz (done listed hsz hr) t h g a w μ own ht hh S out, fun i hi => ?_⟩
    rw [mem_ready] at hi
    obtain ⟨hi0, o, ho, hdir⟩ := hi
    have hin' : i < ops.size := (Array.getElem?_eq_some_iff.1 ho).1
    have hil : i < aops.length := by rw [hd.len]; exact hin'
    have hao : aops[i]? = some aops[i] := List.getElem?_eq_getElem hil
    have hout : outs[i]? = some (outs[i]'(by omega)) := List.getElem?_eq_getElem _
    have hnot : listed.getD i false = false := by
      simp only [Array.getD_eq_getD_getElem?, Array.getElem?_eq_getElem (show i < listed.size by omega)] at hi0 ⊢
      simpa using hi0
    have hokk := hok i o _ ho hao
    -- who stands in the way stands where the text has it
    have order : ∀ (j : Nat) (b : AOper), aops[j]? = some b → j ≠ i → (conf b aops[i] = true ∨ conf aops[i] b = true) → conf b aops[i] = true → conf aops[i] b = true → (listed.getD j false = true ↔ j < i) := by
      intro j b hb hji _ c1 c2
      have hj : j < ops.size := by rw [← hd.len]; exact (List.getElem?_eq_some_iff.1 hb).1
      rcases Nat.lt_or_ge j i with hlt | hge
      · exact ⟨fun _ => hlt, fun _ => pred_in hd (S := fun j => listed.getD j false) hcl i o j ho hdir (hd.conf j i b _ hlt hb hao c1)⟩
      · have hgt : i < j := by omega
        refine ⟨fun hl => ?_, fun h => by omega⟩
        exfalso
        have := pred_in hd (S := fun j => listed.getD j false) hcl j _ i (Array.getElem?_eq_getElem hj) (hcl j _ hl (Array.getElem?_eq_getElem hj)) (hd.conf i j _ b hgt hao hb c2)
        have this : listed.getD i false = true := this
        rw [hnot] at this; cases this
    have symm : ∀ a b : AOper, (match a.d with | some x => (rd b).contains x | none => false) = true ∨ (match b.d with | some x => (rd a).contains x | none => false) = true ∨ (∃ x, a.d = some x ∧ b.d = some x) ∨ (wr a = true ∧ acc b = true) ∨ (acc a = true ∧ wr b = true) ∨ (wr a = true ∧ wr b = true) →
        conf a b = true := by
      intro a b h
      unfold conf
      rcases h with h | h | ⟨x, h1, h2⟩ | h | h | h
      · cases ha : a.d with
        | none => rw [ha] at h; cases h
        | some x =>
          rw [ha] at h
          have h : (rd b).contains x = true := h
          show ((((((rd b).contains x || b.d == some x) || _) || _) || _) || _) = true
          rw [h]
          simp only [Bool.true_or]
      · rw [h]; simp only [Bool.true_or, Bool.or_true]
      · rw [h1, h2]; simp
      · rw [h.1, h.2]; simp only [Bool.and_true, Bool.true_and, Bool.true_or, Bool.or_true]
      · rw [h.1, h.2]; simp only [Bool.and_true, Bool.true_and, Bool.true_or, Bool.or_true]
      · rw [h.1, h.2]; simp only [Bool.and_true, Bool.true_and, Bool.true_or, Bool.or_true]
    -- what the operation reads is what it reads in the text's order
    have hread : ∀ x, x ∈ rd aops[i] → getT t x = tF aops outs all1 τ0 i x := by
      intro x hx
      rw [ht]
      have := gF_comm (u := wT aops outs x) (S := fun j => listed.getD j false) (v0 := τ0 x) (i := i) ops.size (fun j hj hu => by
        by_cases hji : j = i
        · subst hji
          simp only [hnot]
          constructor
          · intro h; cases h
          · intro h; omega
        · have hjl : j < aops.length := by rw [hd.len]; exact hj
          have hb : aops[j]? = some aops[j] := List.getElem?_eq_getElem hjl
          have hdj : aops[j].d = some x := by
            simp only [wT, hb] at hu
            cases ho : outs[j]? with
            | none => rw [ho] at hu; exact absurd rfl hu
            | some q =>
              rw [ho] at hu
              simp only [] at hu
              split at hu
              · assumption
              · exact absurd rfl hu
          have hc : (rd aops[i]).contains x = true := by simpa using hx
          exact order j _ hb hji (.inl (symm _ _ (.inl (by rw [hdj]; exact hc)))) (symm _ _ (.inl (by rw [hdj]; exact hc))) (symm _ _ (.inr (.inl (by rw [hdj]; exact hc)))))
      have hmin : min ops.size i = i := by omega
      rw [hmin] at this
      exact this
    have hheap : acc aops[i] = true ∨ wr aops[i] = true → (h, g) = hF aops outs all1 h0 i := by
      intro hacc
      rw [hh]
      have := gF_comm (u := wH aops outs) (S := fun j => listed.getD j false) (v0 := h0) (i := i) ops.size (fun j hj hu => by
        by_cases hji : j = i
        · subst hji
          simp only [hnot]
          constructor
          · intro h; cases h
          · intro h; omega
        · have hjl : j < aops.length := by rw [hd.len]; exact hj
          have hb : aops[j]? = some aops[j] := List.getElem?_eq_getElem hjl
          have hwj : wr aops[j] = true := by
            simp only [wH, hb] at hu
            split at hu
            · split at hu
              · rename_i e1 _ hw
                injection e1 with e1
                rw [← e1] at hw
                exact hw
              · exact absurd rfl hu
            · exact absurd rfl hu
          have c1 : conf aops[j] aops[i] = true := by
            rcases hacc with h | h
            · exact symm _ _ (.inr (.inr (.inr (.inl ⟨hwj, h⟩))))
            · exact symm _ _ (.inr (.inr (.inr (.inr (.inr ⟨hwj, h⟩)))))
          have c2 : conf aops[i] aops[j] = true := by
            rcases hacc with h | h
            · exact symm _ _ (.inr (.inr (.inr (.inr (.inl ⟨h, hwj⟩)))))
            · exact symm _ _ (.inr (.inr (.inr (.inr (.inr ⟨h, hwj⟩)))))
          exact order j _ hb hji (.inl c1) c1 c2)
      have hmin : min ops.size i = i := by omega
      rw [hmin] at this
      exact this
    -- the set with 'i'
    have hS' : ∀ j, j ≠ i → (listed.setIfInBounds i true).getD j false = listed.getD j false := fun j hj => getD_set_ne false (Ne.symm hj)
    have hSi : (listed.setIfInBounds i true).getD i false = true := by simp [show i < listed.size by omega]
    have hcl' : ∀ (j : Nat) (o : Oper), (listed.setIfInBounds i true).getD j false = true → ops[j]? = some o → ∀ e ∈ o.after, Region.binds .any e = true → (listed.setIfInBounds i true).getD e.on false = true := by
      intro j o' hj ho' e he hb
      apply getD_set_true
      by_cases hji : j = i
      · subst hji
        rw [ho] at ho'
        injection ho' with ho'
        subst ho'
        exact hdir e he hb
      · rw [hS' j hji] at hj
        exact hcl j o' hj ho' e he hb
    have hcn' : cn (fun j => (listed.setIfInBounds i true).getD j false) ops.size ≤ fuel := by
      have := cn_set (S := fun j => listed.getD j false) (S' := fun j => (listed.setIfInBounds i true).getD j false) (i := i) hS' hnot hSi ops.size
      rw [if_pos hin'] at this
      omega
    -- nobody behind 'i' has written what it writes
    have after : ∀ (j : Nat) (b : AOper), aops[j]? = some b → i < j → conf aops[i] b = true → (listed.setIfInBounds i true).getD j false = false := by
      intro j b hb hij c2
      rw [hS' j (by omega)]
      have hj : j < ops.size := by rw [← hd.len]; exact (List.getElem?_eq_some_iff.1 hb).1
      cases hl : listed.getD j false with
      | false => rfl
      | true =>
        exfalso
        have := pred_in hd (S := fun j => listed.getD j false) hcl j _ i (Array.getElem?_eq_getElem hj) (hcl j _ hl (Array.getElem?_eq_getElem hj)) (hd.conf i j _ b hij hao hb c2)
        have this : listed.getD i false = true := this
        rw [hnot] at this; cases this
    have htNew : ∀ (v : D), v = valO (outs[i]'(by omega)) → getT (put t aops[i].d v) = tF aops outs (fun j => (listed.setIfInBounds i true).getD j false) τ0 ops.size := by
      intro v hv
      funext x
      rw [getT_put]
      by_cases hx : aops[i].d = some x
      · rw [if_pos hx]
        have hu : wT aops outs x i = some v := by simp only [wT, hao, hout]; rw [if_pos hx, hv]
        exact (gF_some (S' := fun j => (listed.setIfInBounds i true).getD j false) hu hSi ops.size hin' (fun j hij hj hu' => by
          have hjl : j < aops.length := by rw [hd.len]; exact hj
          have hb : aops[j]? = some aops[j] := List.getElem?_eq_getElem hjl
          have hdj : aops[j].d = some x := by
            simp only [wT, hb] at hu'
            cases ho : outs[j]? with
            | none => rw [ho] at hu'; exact absurd rfl hu'
            | some q =>
              rw [ho] at hu'
              simp only [] at hu'
              split at hu'
              · assumption
              · exact absurd rfl hu'
          exact after j _ hb hij (symm _ _ (.inr (.inr (.inl ⟨x, hx, hdj⟩)))))).symm
      · rw [if_neg hx, ht]
        have hu : wT aops outs x i = none := by simp only [wT, hao, hout]; rw [if_neg hx]
        exact (gF_none (S := fun j => listed.getD j false) (S' := fun j => (listed.setIfInBounds i true).getD j false) hS' hu ops.size).symm
    unfold wpOp
    rw [ho]
    have htok := hT i hin' aops[i] _ hao hout
    have hguard := wanted_of hokk S.tmps
    have hgd : ∀ (gd : Option (Nat × Bool)), gd = aops[i].gd → (runG (tF aops outs all1 τ0 i) gd → runG (getT t) gd) ∧ (skipG (tF aops outs all1 τ0 i) gd → skipG (getT t) gd) := by
      intro gd hgd
      cases gd with
      | none => exact ⟨fun h => h, fun h => h⟩
      | some p =>
        obtain ⟨j, want⟩ := p
        have := hread j (by simp [rd, ← hgd, gdT])
        simp only [runG, skipG, this]
        exact ⟨fun h => h, fun h => h⟩
    cases hoi : (outs[i]'(by omega)) with
    | none =>
      rw [hoi] at htok
      have hw := hguard.2 ((hgd _ rfl).2 htok)
      simp only [hw, Bool.false_eq_true, if_false]
      refine ih (listed.setIfInBounds i true) (by simp [hsz]) hcl' hcn' (put t aops[i].d .undef) h g _ w μ own (htNew _ (by rw [hoi]; rfl)) ?_ (S.skipped hokk) out
      rw [hh]
      have hu : wH aops outs i = none := by simp only [wH, hao, hout, hoi]
      exact (gF_none (S := fun j => listed.getD j false) (S' := fun j => (listed.setIfInBounds i true).getD j false) hS' hu ops.size).symm
    | some r =>
      rw [hoi] at htok
      obtain ⟨hrun, ⟨t0, ht0, hop⟩, hwr⟩ := htok
      have hw := hguard.1 ((hgd _ rfl).1 hrun)
      simp only [hw, if_true]
      have hop2 : opC C kb inlK aops[i] ⟨t, (hF aops outs all1 h0 i).1, (hF aops outs all1 h0 i).2⟩ (Eq3 r.1 r.2.1 r.2.2) :=
        opC_congr (fun x hx => by rw [ht0]; exact (hread x (by simp [rd, hx])).symm) hop
      -- at the run's own as it stands
      have hop3 : ∃ h2 g2, opC C kb inlK aops[i] ⟨t, h, g⟩ (Eq3 r.1 h2 g2) ∧ (h2, g2) = (if wr aops[i] = true then r.2 else (h, g)) := by
        by_cases hacc : acc aops[i] = true ∨ wr aops[i] = true
        · have e := hheap hacc
          have e1 : h = (hF aops outs all1 h0 i).1 := congrArg Prod.fst e
          have e2 : g = (hF aops outs all1 h0 i).2 := congrArg Prod.snd e
          refine ⟨r.2.1, r.2.2, by rw [e1, e2]; exact hop2, ?_⟩
          split
          · rfl
          · rename_i hne
            rw [e]
            exact hwr.resolve_left hne
        · simp only [not_or, Bool.not_eq_true] at hacc
          have := opC_free hacc.1 hop2
          exact ⟨h, g, this.2.2 h g, by rw [hacc.2]; simp⟩
      obtain ⟨h2, g2, hop3, he⟩ := hop3
      refine .inl (Oper.wp_mono ?_ (step_sound (Q := Q) hty S hokk hin hop3))
      rintro a' w' ⟨d, h', μ', G', o', ⟨rfl, rfl, rfl⟩, out', S'⟩
      refine ih (listed.setIfInBounds i true) (by simp [hsz]) hcl' hcn' (put t aops[i].d r.1) h' G' a' w' μ' o' (htNew _ (by rw [hoi]; rfl)) ?_ S' (Out.trans out out')
      rw [he]
      by_cases hwi : wr aops[i] = true
      · rw [if_pos hwi]
        have hu : wH aops outs i = some r.2 := by simp only [wH, hao, hout, hoi]; rw [if_pos hwi]
        exact (gF_some (S' := fun j => (listed.setIfInBounds i true).getD j false) hu hSi ops.size hin' (fun j hij hj hu' => by
          have hjl : j < aops.length := by rw [hd.len]; exact hj
          have hb : aops[j]? = some aops[j] := List.getElem?_eq_getElem hjl
          have hwj : wr aops[j] = true := by
            simp only [wH, hb] at hu'
            split at hu'
            · split at hu'
              · rename_i e1 _ hw
                injection e1 with e1
                rw [← e1] at hw
                exact hw
              · exact absurd rfl hu'
            · exact absurd rfl hu'
          exact after j _ hb hij (symm _ _ (.inr (.inr (.inr (.inr (.inr ⟨hwi, hwj⟩)))))))).symm
      · rw [if_neg hwi, hh]
        have hu : wH aops outs i = none := by simp only [wH, hao, hout, hoi]; rw [if_neg hwi]
        exact (gF_none (S := fun j => listed.getD j false) (S' := fun j => (listed.setIfInBounds i true).getD j false) hS' hu ops.size).symm

end
end Go.PS
