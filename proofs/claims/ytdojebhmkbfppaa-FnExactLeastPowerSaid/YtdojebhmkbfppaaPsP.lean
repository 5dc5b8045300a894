/- Calls. -/
import Derived.Test.YtdojebhmkbfppaaPsO
set_option linter.unusedVariables false
set_option linter.unusedSimpArgs false
set_option linter.unusedSectionVars false
namespace Go.PS

theorem ORep.anyF {w : World} {F : Nat → Prop} {lo : Nat} {d : D} {v : Value} {o : List Nat} (r : ORep w F lo d v o) : OwnedD d → ∀ F' : Nat → Prop, ORep w F' lo d v o := by
  induction r with
  | base d v hr =>
    intro ho F'
    cases ho with
    | bool b => cases hr; exact .base _ _ (.bool b)
    | int k n => cases hr; exact .base _ _ (.int k n)
    | str s => cases hr; exact .base _ _ (.str s)
    | olist sz xs _ => cases hr
    | agg xs hx =>
      cases hr with
      | agg _ vs h1 h2 h3 =>
        have key : ∀ (i : Nat) (d : D) (v : Value), xs[i]? = some d → vs[i]? = some v → Rep w F' d v := by
          intro i d v hd hv
          have hod := hx d (List.mem_of_getElem? hd)
          have hr := h2 i d v hd hv
          clear h2 h1 h3 hd hv
          revert v
          induction hod with
          | bool b => intro v hr; cases hr; exact .bool b
          | int k n => intro v hr; cases hr; exact .int k n
          | str s => intro v hr; cases hr; exact .str s
          | olist sz xs _ _ => intro v hr; cases hr
          | agg ys _ ih =>
            intro v hr
            cases hr with
            | agg _ us g1 g2 g3 => exact .agg ys us g1 (fun j e u he hu => ih e (List.mem_of_getElem? he) u (g2 j e u he hu)) g3
          | tup ys _ ih =>
            intro v hr
            cases hr with
            | tup _ us g1 g2 => exact .tup ys us g1 (fun j e u he hu => ih e (List.mem_of_getElem? he) u (g2 j e u he hu))
        exact .base _ _ (.agg xs vs h1 key h3)
    | tup xs hx =>
      cases hr with
      | tup _ vs h1 h2 =>
        have key : ∀ (i : Nat) (d : D) (v : Value), xs[i]? = some d → vs[i]? = some v → Rep w F' d v := by
          intro i d v hd hv
          have hod := hx d (List.mem_of_getElem? hd)
          have hr := h2 i d v hd hv
          clear h2 h1 hd hv
          revert v
          induction hod with
          | bool b => intro v hr; cases hr; exact .bool b
          | int k n => intro v hr; cases hr; exact .int k n
          | str s => intro v hr; cases hr; exact .str s
          | olist sz xs _ _ => intro v hr; cases hr
          | agg ys _ ih =>
            intro v hr
            cases hr with
            | agg _ us g1 g2 g3 => exact .agg ys us g1 (fun j e u he hu => ih e (List.mem_of_getElem? he) u (g2 j e u he hu)) g3
          | tup ys _ ih =>
            intro v hr
            cases hr with
            | tup _ us g1 g2 => exact .tup ys us g1 (fun j e u he hu => ih e (List.mem_of_getElem? he) u (g2 j e u he hu))
        exact .base _ _ (.tup xs vs h1 key)
  | olistE sz => intro _ F'; exact .olistE sz
  | olist sz xs vs os b cap cur E h1 h2 _ h4 h5 h6 h7 h8 h9 ih =>
    intro ho F'
    cases ho with
    | olist _ _ hx => exact .olist sz xs vs os b cap cur E h1 h2 (fun i d v o hd hv hq => ih i d v o hd hv hq (hx d (List.mem_of_getElem? hd)) F') h4 h5 h6 h7 h8 h9
  | agg xs vs os h1 h2 _ h4 ih =>
    intro ho F'
    cases ho with
    | agg _ hx => exact .agg xs vs os h1 h2 (fun i d v o hd hv hq => ih i d v o hd hv hq (hx d (List.mem_of_getElem? hd)) F') h4
  | tup xs vs os h1 h2 _ ih =>
    intro ho F'
    cases ho with
    | tup _ hx => exact .tup xs vs os h1 h2 (fun i d v o hd hv hq => ih i d v o hd hv hq (hx d (List.mem_of_getElem? hd)) F')

/-- The pieces of a value that owns, element by element. -/
theorem ORep.parts {w : World} {F : Nat → Prop} {lo : Nat} {xs : List D} {v : Value} {o : List Nat} (r : ORep w F lo (.agg xs) v o) :
    ∃ (vs : List Value) (os : List (List Nat)), v = .agg vs.toArray ∧ o = os.flatten ∧ vs.length = xs.length ∧ os.length = xs.length ∧ OReps w F lo xs vs os ∧ Ones vs := by
  cases r with
  | base _ _ hr => cases hr with
    | agg _ vs h1 h2 h3 => exact ⟨vs, List.replicate xs.length [], rfl, by simp, h1, by simp, oreps_base h2, h3⟩
  | agg _ vs os h1 h2 h3 h4 => exact ⟨vs, os, rfl, rfl, h1, h2, h3, h4⟩

theorem ORep.partsT {w : World} {F : Nat → Prop} {lo : Nat} {xs : List D} {v : Value} {o : List Nat} (r : ORep w F lo (.tup xs) v o) :
    ∃ (vs : List Value) (os : List (List Nat)), v = .tuple vs.toArray ∧ o = os.flatten ∧ vs.length = xs.length ∧ os.length = xs.length ∧ OReps w F lo xs vs os := by
  cases r with
  | base _ _ hr => cases hr with
    | tup _ vs h1 h2 => exact ⟨vs, List.replicate xs.length [], rfl, by simp, h1, by simp, oreps_base h2⟩
  | tup _ vs os h1 h2 h3 => exact ⟨vs, os, rfl, rfl, h1, h2, h3⟩

/-- What 'thaw' promises. -/
def ThawOk (w : World) (lo k g : Nat) (q : D × List Ent × Nat × Nat) (v : Value) (o : List Nat) : Prop :=
  ∃ (val : Nat → Value) (o1 : List Nat), o1.Nodup ∧ (∀ c ∈ o1, c ∈ o) ∧ g ≤ q.2.2.2 ∧ k ≤ q.2.2.1 ∧ (∀ e ∈ q.2.1, k ≤ e.k ∧ e.k < q.2.2.1 ∧ g ≤ e.g ∧ e.g < q.2.2.2) ∧ (q.2.1.map Ent.k).Nodup ∧
    ∀ (F' : Nat → Prop) (h' : List Ent) (μ' : Nat → Value) (G' : Nat) (B : Option Nat), (∀ x, g ≤ x → x < q.2.2.2 → μ' x = val x) → q.2.2.2 ≤ G' → HOk w F' h' μ' G' lo B q.2.1 o1 ∧ VRep w F' h' μ' G' q.1 v

def ThawOkL (w : World) (lo k g : Nat) (q : List D × List Ent × Nat × Nat) (vs : List Value) (o : List Nat) : Prop :=
  ∃ (val : Nat → Value) (o1 : List Nat), o1.Nodup ∧ (∀ c ∈ o1, c ∈ o) ∧ g ≤ q.2.2.2 ∧ k ≤ q.2.2.1 ∧ (∀ e ∈ q.2.1, k ≤ e.k ∧ e.k < q.2.2.1 ∧ g ≤ e.g ∧ e.g < q.2.2.2) ∧ (q.2.1.map Ent.k).Nodup ∧ q.1.length = vs.length ∧
    ∀ (F' : Nat → Prop) (h' : List Ent) (μ' : Nat → Value) (G' : Nat) (B : Option Nat), (∀ x, g ≤ x → x < q.2.2.2 → μ' x = val x) → q.2.2.2 ≤ G' → HOk w F' h' μ' G' lo B q.2.1 o1 ∧ ∀ (i : Nat) (d : D) (v : Value), q.1[i]? = some d → vs[i]? = some v → VRep w F' h' μ' G' d v

theorem thaw_go {w : World} {F : Nat → Prop} {lo n : Nat} (ih : ∀ (k g : Nat) (r : D) (v : Value) (o : List Nat), OwnedD r → ORep w F lo r v o → o.Nodup → ThawOk w lo k g (thaw n k g r) v o) :
    ∀ (xs : List D) (vs : List Value) (os : List (List Nat)) (k g : Nat), vs.length = xs.length → os.length = xs.length → (∀ x ∈ xs, OwnedD x) → OReps w F lo xs vs os → os.flatten.Nodup → ThawOkL w lo k g (thaw.go n k g xs) vs os.flatten
  | [], [], [], k, g, _, _, _, _, _ => ⟨fun _ => undef, [], by simp, by simp, by simp [thaw.go], by simp [thaw.go], by simp [thaw.go], by simp [thaw.go], by simp [thaw.go], fun F' h' μ' G' B _ _ => ⟨rfl, by simp [thaw.go]⟩⟩
  | [], _ :: _, _, k, g, h, _, _, _, _ => by simp at h
  | [], [], _ :: _, k, g, _, h, _, _, _ => by simp at h
  | x :: xs, [], _, k, g, h, _, _, _, _ => by simp at h
  | x :: xs, _ :: _, [], k, g, _, h, _, _, _ => by simp at h
  | x :: xs, v :: vs, o :: os, k, g, hl, hl2, ho, hr, hnd => by
    rw [List.flatten_cons, List.nodup_append] at hnd
    obtain ⟨val1, p1, a1, a2, a3, a4, a5, a6, a7⟩ := ih k g x v o (ho x (by simp)) (hr 0 x v o rfl rfl rfl) hnd.1
    obtain ⟨val2, p2, b1, b2, b3, b4, b5, b6, bl, b7⟩ := thaw_go ih xs vs os (thaw n k g x).2.2.1 (thaw n k g x).2.2.2 (by simpa using hl) (by simpa using hl2) (fun y hy => ho y (by simp [hy]))
      (fun i d u q hd hu hq => hr (i + 1) d u q (by simpa using hd) (by simpa using hu) (by simpa using hq)) hnd.2.1
    simp only [thaw.go]
    refine ⟨fun y => if y < (thaw n k g x).2.2.2 then val1 y else val2 y, p1 ++ p2, ?_, ?_, by simp only; omega, by simp only; omega, ?_, ?_, by simp [bl], ?_⟩
    · rw [List.nodup_append]
      exact ⟨a1, b1, fun a ha b hb => hnd.2.2 a (a2 a ha) b (b2 b hb)⟩
    · intro c hc
      rw [List.flatten_cons]
      exact (List.mem_append.1 hc).elim (fun hc => by simp [a2 c hc]) (fun hc => List.mem_append_right _ (b2 c hc))
    · intro e he
      simp only at he ⊢
      rcases List.mem_append.1 he with he | he
      · have := a5 e he; omega
      · have := b5 e he; omega
    · simp only [List.map_append]
      rw [List.nodup_append]
      refine ⟨a6, b6, fun a ha b hb => ?_⟩
      obtain ⟨e, he, rfl⟩ := List.mem_map.1 ha
      obtain ⟨e', he', rfl⟩ := List.mem_map.1 hb
      have := a5 e he; have := b5 e' he'; omega
    · intro F' h' μ' G' B hμ hG
      simp only at hμ hG ⊢
      obtain ⟨c1, c2⟩ := a7 F' h' μ' G' B (fun y hy hy2 => by rw [hμ y hy (by omega), if_pos hy2]) (by omega)
      obtain ⟨d1, d2⟩ := b7 F' h' μ' G' B (fun y hy hy2 => by rw [hμ y (by omega) hy2, if_neg (by omega)]) hG
      refine ⟨HOk.append _ _ _ _ c1 d1, fun i d u hd hu => ?_⟩
      cases i with
      | zero =>
        obtain rfl : (thaw n k g x).1 = d := by simpa using hd
        obtain rfl : v = u := by simpa using hu
        exact c2
      | succ i => exact d2 i d u (by simpa using hd) (by simpa using hu)

theorem thaw_ok {w : World} {F : Nat → Prop} {lo : Nat} : ∀ (n k g : Nat) (r : D) (v : Value) (o : List Nat), OwnedD r → ORep w F lo r v o → o.Nodup → ThawOk w lo k g (thaw n k g r) v o := by
  intro n
  induction n with
  | zero =>
    intro k g r v o ho hr hnd
    have none : ∀ d : D, (∀ (F' : Nat → Prop) (h' : List Ent) (μ' : Nat → Value) (G' : Nat), VRep w F' h' μ' G' d v) → ThawOk w lo k g (d, [], k, g) v o := fun d hd =>
      ⟨fun _ => undef, [], by simp, by simp, Nat.le_refl _, Nat.le_refl _, by simp, by simp, fun F' h' μ' G' B _ _ => ⟨rfl, hd F' h' μ' G'⟩⟩
    cases ho with
    | bool b => cases hr with | base _ _ hr => cases hr; exact none _ (fun _ _ _ _ => .imm _ _ (.bool b))
    | int kd m => cases hr with | base _ _ hr => cases hr; exact none _ (fun _ _ _ _ => .imm _ _ (.int kd m))
    | str s => cases hr with | base _ _ hr => cases hr; exact none _ (fun _ _ _ _ => .imm _ _ (.str s))
    | olist => exact none _ (fun _ _ _ _ => .imm _ _ (.junk _))
    | agg => exact none _ (fun _ _ _ _ => .imm _ _ (.junk _))
    | tup => exact none _ (fun _ _ _ _ => .imm _ _ (.junk _))
  | succ n ih =>
    intro k g r v o ho hr hnd
    have none : ∀ d : D, (∀ (F' : Nat → Prop) (h' : List Ent) (μ' : Nat → Value) (G' : Nat), VRep w F' h' μ' G' d v) → ThawOk w lo k g (d, [], k, g) v o := fun d hd =>
      ⟨fun _ => undef, [], by simp, by simp, Nat.le_refl _, Nat.le_refl _, by simp, by simp, fun F' h' μ' G' B _ _ => ⟨rfl, hd F' h' μ' G'⟩⟩
    cases ho with
    | bool b => cases hr with | base _ _ hr => cases hr; exact none _ (fun _ _ _ _ => .imm _ _ (.bool b))
    | int kd m => cases hr with | base _ _ hr => cases hr; exact none _ (fun _ _ _ _ => .imm _ _ (.int kd m))
    | str s => cases hr with | base _ _ hr => cases hr; exact none _ (fun _ _ _ _ => .imm _ _ (.str s))
    | olist sz xs hx =>
      have hs : ∃ a m c, v = .slice a m c := by
        rcases hr.olist_inv with ⟨h1, _⟩ | ⟨vs, os, b, cap, cur, E, h1, _⟩
        · exact ⟨_, _, _, h1⟩
        · exact ⟨_, _, _, h1⟩
      obtain ⟨a, m, c, rfl⟩ := hs
      refine ⟨fun _ => .slice a m c, o, hnd, fun c hc => hc, Nat.le_succ _, Nat.le_succ _, ?_, by simp [thaw], fun F' h' μ' G' B hμ hG => ?_⟩
      · intro e he
        simp only [thaw, List.mem_singleton] at he
        subst he
        simp [thaw]
      · have hg : μ' g = .slice a m c := hμ g (Nat.le_refl _) (Nat.lt_succ_self _)
        have hG' : g < G' := hG
        exact ⟨⟨o, [], by simp, ⟨hG', by simp only [hg]; exact hr.anyF (.olist sz xs hx) F'⟩, rfl⟩, .arr k g a m c hG' (fun _ => hg.symm)⟩
    | agg xs hx =>
      obtain ⟨vs, os, rfl, rfl, h1, h2, h3, h4⟩ := hr.parts
      obtain ⟨val, o1, a1, a2, a3, a4, a5, a6, al, a7⟩ := thaw_go ih xs vs os k g h1 h2 hx h3 hnd
      exact ⟨val, o1, a1, a2, a3, a4, a5, a6, fun F' h' μ' G' B hμ hG => ⟨(a7 F' h' μ' G' B hμ hG).1, .agg _ vs al.symm (a7 F' h' μ' G' B hμ hG).2 h4⟩⟩
    | tup xs hx =>
      obtain ⟨vs, os, rfl, rfl, h1, h2, h3⟩ := hr.partsT
      obtain ⟨val, o1, a1, a2, a3, a4, a5, a6, al, a7⟩ := thaw_go ih xs vs os k g h1 h2 hx h3 hnd
      exact ⟨val, o1, a1, a2, a3, a4, a5, a6, fun F' h' μ' G' B hμ hG => ⟨(a7 F' h' μ' G' B hμ hG).1, .tup _ vs al.symm (a7 F' h' μ' G' B hμ hG).2⟩⟩

end Go.PS
