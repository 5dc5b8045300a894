/- Every operation of the machine against the clean one. -/
import Derived.Test.YtdojebhmkbfppaaPsG
set_option linter.unusedVariables false
set_option linter.unusedSimpArgs false
namespace Go.PS

/-- What an operation comes to. -/
def Res (P : Program) (o : Oper) (ρ : Operand → Value) (w0 : World) (Fo : Nat → Prop) (B : Option Nat) (w : World) (h : List Ent) (μ : Nat → Value) (G : Nat) (own : List Nat) (K : D → List Ent → Nat → Prop) : Prop :=
  ∃ (n : Next) (v : Value) (w' : World) (d : D) (h' : List Ent) (μ' : Nat → Value) (G' : Nat) (o' : List Nat),
    (execOp ρ o).run P w = .ok n w' ∧ (n = .value v ∨ (n = .skip ∧ v = undef)) ∧ K d h' G' ∧ Out w0 Fo B w h μ G own w' h' μ' G' o' ∧ VRep w' (FF o' Fo) h' μ' G' d v

section
variable {P : Program} {tt : Nat → Ty} {o : Oper} {ρ : Operand → Value} {w0 : World} {Fo : Nat → Prop} {B : Option Nat} {w : World} {h : List Ent} {μ : Nat → Value} {G : Nat} {own : List Nat} {K : D → List Ent → Nat → Prop} {t : List (Nat × D)}

theorem Res.same (I : HInv w0 Fo B w h μ G own) {v : Value} {d : D} (hr : (execOp ρ o).run P w = .ok (.value v) w) (hv : VRep w (FF own Fo) h μ G d v) (hk : K d h G) : Res P o ρ w0 Fo B w h μ G own K :=
  ⟨_, v, w, d, h, μ, G, own, hr, .inl rfl, hk, I.refl, hv⟩

theorem Res.quiet (I : HInv w0 Fo B w h μ G own) {w' : World} (g : w.grownBy w' none) {v : Value} {d : D} (hr : (execOp ρ o).run P w = .ok (.value v) w') (hv : VRep w' (FF own Fo) h μ G d v) (hk : K d h G) : Res P o ρ w0 Fo B w h μ G own K :=
  ⟨_, v, w', d, h, μ, G, own, hr, .inl rfl, hk, I.quiet g, hv⟩

/-- A new block of the run's own. -/
theorem Res.addArr (I : HInv w0 Fo B w h μ G own) {w' : World} (g : w.grownBy w' none) (k : Nat) {sz : Nat} {xs : List D} {v : Value} {o1 : List Nat} (hs : ∃ a n c, v = .slice a n c)
    (hr : (execOp ρ o).run P w = .ok (.value v) w') (hnd : o1.Nodup) (hfr : ∀ c ∈ o1, w.heap.size ≤ c) (hrep : ∀ F', MemEvo w (FF own Fo) w' F' → ORep w' F' w0.heap.size (.olist sz xs) v o1)
    (hk : K (.arr k G) (⟨k, G, .arr sz xs⟩ :: hdel h k) (G + 1)) : Res P o ρ w0 Fo B w h μ G own K := by
  obtain ⟨rest, hrest, hnr, hmr⟩ := HOk.del k h own I.hok I.nodup
  have hlt : ∀ c ∈ own, c < w.heap.size := fun c hc => (I.hok.lt _ _ c hc).2
  have out := I.adds (hA := hdel h k) (rest := rest) hrest hmr (fun j γ hf => find_hdel_eq h I.keys hf) (w' := w') (grownBy.trans I.grown (grownBy.weak g)) g.size
    (fun c hc _ => g.block c hc (by simp)) (fun c hc => g.block c (hlt c (hmr c hc)) (by simp)) [⟨k, G, .arr sz xs⟩] o1
    (by simpa using ⟨by simpa using not_mem_hdel h I.keys, nodup_hdel h I.keys⟩)
    (by rw [List.nodup_append]; exact ⟨hnd, hnr, fun a ha b hb e => by have := hfr a ha; have := hlt b (hmr b hb); omega⟩) (fun c hc => .inr (hfr c hc)) (upd μ G v) (G + 1) (Nat.le_succ _) (fun x hx => upd_lt v hx)
    (by simp) (fun ev => ⟨o1, [], by simp, ⟨Nat.lt_succ_self _, by simp only [upd_self]; exact hrep _ ev.mm⟩, rfl⟩)
  obtain ⟨a, n, c, rfl⟩ := hs
  exact ⟨_, _, w', _, _, _, _, _, hr, .inl rfl, hk, out, .arr k G a n c (Nat.lt_succ_self _) (fun _ => by simp [upd_self])⟩

theorem Res.addCells (I : HInv w0 Fo B w h μ G own) (k : Nat) {cs : List D} {vs : List Value} {E : TypeId} (hl : vs.length = cs.length) (h1 : Ones vs)
    (hv : ∀ (i : Nat) (d : D) (v : Value), cs[i]? = some d → vs[i]? = some v → VRep w (FF own Fo) h μ G d v)
    (hr : (execOp ρ o).run P w = .ok (.value (.pointer (some ⟨w.heap.size, 0, none⟩))) (w.alloc (.cells vs.toArray E)))
    (hk : K (.ptr k G 0) (⟨k, G, .cells cs⟩ :: hdel h k) (G + 1)) : Res P o ρ w0 Fo B w h μ G own K := by
  obtain ⟨rest, hrest, hnr, hmr⟩ := HOk.del k h own I.hok I.nodup
  have hlt : ∀ c ∈ own, c < w.heap.size := fun c hc => (I.hok.lt _ _ c hc).2
  have g := grown_alloc w (.cells vs.toArray E)
  have out := I.adds (hA := hdel h k) (rest := rest) hrest hmr (fun j γ hf => find_hdel_eq h I.keys hf) (w' := w.alloc (.cells vs.toArray E)) (grownBy.trans I.grown (grownBy.weak g)) g.size
    (fun c hc _ => g.block c hc (by simp)) (fun c hc => g.block c (hlt c (hmr c hc)) (by simp)) [⟨k, G, .cells cs⟩] [w.heap.size]
    (by simpa using ⟨by simpa using not_mem_hdel h I.keys, nodup_hdel h I.keys⟩)
    (by rw [List.nodup_append]; exact ⟨by simp, hnr, fun a ha b hb e => by have := hlt b (hmr b hb); simp at ha; omega⟩) (fun c hc => .inr (by simp at hc; omega)) (upd μ G (.pointer (some ⟨w.heap.size, 0, none⟩))) (G + 1) (Nat.le_succ _) (fun x hx => upd_lt _ hx)
    (by simp) (fun ev => ⟨[w.heap.size], [], by simp, ⟨Nat.lt_succ_self _, ⟨w.heap.size, vs, E, upd_self _ _ _, heap_alloc_new w _, hl, h1, fun i d v hd hv' => (hv i d v hd hv').evo ev, rfl, .inl I.grown.size⟩⟩, rfl⟩)
  exact ⟨_, _, _, _, _, _, _, _, hr, .inl rfl, hk, out, .ptr k G 0 _ (Nat.lt_succ_self _) (fun _ => ⟨w.heap.size, .inl (by simp [upd_self]), rfl⟩)⟩

variable (hρ : ∀ x, VRep w (FF own Fo) h μ G (ev t (co x)) (ρ x)) (I : HInv w0 Fo B w h μ G own) (hty : TyOk P tt)
include hρ I

omit hρ I in
theorem VRep.asNil {F : Nat → Prop} {v : Value} (r : VRep w F h μ G .nil v) : v = .slice none 0 0 := by
  cases r with
  | imm _ _ r => cases r; rfl

omit hρ I in
theorem VRep.asInt {F : Nat → Prop} {v : Value} {k : IntKind} {n : Int} (r : VRep w F h μ G (.int k n) v) : v = .int k n := by
  cases r with
  | imm _ _ r => cases r; rfl

omit hρ I in
theorem VRep.asBool {F : Nat → Prop} {v : Value} {b : Bool} (r : VRep w F h μ G (.bool b) v) : v = .bool b := by
  cases r with
  | imm _ _ r => cases r; rfl

omit hρ I in
theorem VRep.asStr {F : Nat → Prop} {v : Value} {s : List UInt8} (r : VRep w F h μ G (.str s) v) : v = .string ⟨s.toArray⟩ := by
  cases r with
  | imm _ _ r => cases r; rfl

omit hρ I in
theorem VRep.asTup {F : Nat → Prop} {v : Value} {xs : List D} (r : VRep w F h μ G (.tup xs) v) : ∃ vs : List Value, v = .tuple vs.toArray ∧ vs.length = xs.length ∧ ∀ (i : Nat) (d : D) (v : Value), xs[i]? = some d → vs[i]? = some v → VRep w F h μ G d v := by
  cases r with
  | imm _ _ r => cases r with
    | tup xs vs h1 h2 => exact ⟨vs, rfl, h1, fun i d v hd hv => .imm _ _ (h2 i d v hd hv)⟩
  | tup xs vs h1 h2 => exact ⟨vs, rfl, h1, h2⟩

omit hρ I in
theorem VRep.asAgg {F : Nat → Prop} {v : Value} {xs : List D} (r : VRep w F h μ G (.agg xs) v) : ∃ vs : List Value, v = .agg vs.toArray ∧ vs.length = xs.length ∧ Ones vs ∧ ∀ (i : Nat) (d : D) (v : Value), xs[i]? = some d → vs[i]? = some v → VRep w F h μ G d v := by
  cases r with
  | imm _ _ r => cases r with
    | agg xs vs h1 h2 h3 => exact ⟨vs, rfl, h1, h3, fun i d v hd hv => .imm _ _ (h2 i d v hd hv)⟩
  | agg xs vs h1 h2 h3 => exact ⟨vs, rfl, h1, h3, h2⟩

omit hρ I in
theorem VRep.asIptr {F : Nat → Prop} {v : Value} {d : D} (r : VRep w F h μ G (.iptr d) v) : ∃ (u : Value) (b o : Nat), v = .pointer (some ⟨b, o, none⟩) ∧ Rep w F d u ∧ (∀ (j : Nat) (x : Value), u.cells[j]? = some x → x.oneCell' = true ∧ w.cell? ⟨b, o + j, none⟩ = some x) ∧ b < w.heap.size ∧ ¬ F b := by
  cases r with
  | imm _ _ r => cases r with
    | iptr d u b o h1 h2 h3 h4 => exact ⟨u, b, o, rfl, h1, h2, h3, h4⟩

omit hρ I in
theorem VRep.asArr {F : Nat → Prop} {v : Value} {k g : Nat} (r : VRep w F h μ G (.arr k g) v) : (∃ a n c, v = .slice a n c) ∧ g < G ∧ (find h k g ≠ none → v = μ g) := by
  cases r with
  | imm _ _ r => cases r
  | arr k g a n c h1 h2 => exact ⟨⟨a, n, c, rfl⟩, h1, h2⟩

omit hρ I in
theorem VRep.asRow {F : Nat → Prop} {v : Value} {k g x : Nat} (r : VRep w F h μ G (.row k g x) v) : (∃ a n c, v = .slice a n c) ∧ g < G ∧ (rowAt h k g x ≠ none → ∃ b n' c' : Nat, μ g = .slice (some ⟨b, 0, none⟩) n' c' ∧ w.cell? ⟨b, x, none⟩ = some v) := by
  cases r with
  | imm _ _ r => cases r
  | row k g x a n c h1 h2 => exact ⟨⟨a, n, c, rfl⟩, h1, h2⟩

omit hρ I in
theorem VRep.asRptr {F : Nat → Prop} {v : Value} {k g x y : Nat} (r : VRep w F h μ G (.rptr k g x y) v) : g < G ∧ (rowAt h k g x ≠ none → ∃ b n' c' b' n c : Nat, μ g = .slice (some ⟨b, 0, none⟩) n' c' ∧ w.cell? ⟨b, x, none⟩ = some (.slice (some ⟨b', 0, none⟩) n c) ∧ v = .pointer (some ⟨b', y, none⟩)) := by
  cases r with
  | imm _ _ r => cases r
  | rptr k g x y a h1 h2 => exact ⟨h1, fun hf => by obtain ⟨b, n', c', b', n, c, q1, q2, rfl⟩ := h2 hf; exact ⟨b, n', c', b', n, c, q1, q2, rfl⟩⟩

omit hρ I in
theorem VRep.asPtr {F : Nat → Prop} {v : Value} {k g off : Nat} (r : VRep w F h μ G (.ptr k g off) v) : g < G ∧ (find h k g ≠ none → ∃ b : Nat, (μ g = .pointer (some ⟨b, 0, none⟩) ∨ ∃ n c : Nat, μ g = .slice (some ⟨b, 0, none⟩) n c) ∧ v = .pointer (some ⟨b, off, none⟩)) := by
  cases r with
  | imm _ _ r => cases r
  | ptr k g off a h1 h2 => exact ⟨h1, fun hf => by obtain ⟨b, hb, rfl⟩ := h2 hf; exact ⟨b, hb, rfl⟩⟩

omit hρ I in
theorem VRep.asFn {F : Nat → Prop} {v : Value} {f : Nat} {xs : List D} (r : VRep w F h μ G (.fn f xs) v) : ∃ vs : List Value, v = .func (.func f) #[] vs.toArray ∧ vs.length = xs.length ∧ ∀ (i : Nat) (d : D) (v : Value), xs[i]? = some d → vs[i]? = some v → VRep w F h μ G d v := by
  cases r with
  | imm _ _ r => cases r with
    | fn f xs vs h1 h2 => exact ⟨vs, rfl, h1, fun i d v hd hv => .imm _ _ (h2 i d v hd hv)⟩
  | fn f xs vs h1 h2 => exact ⟨vs, rfl, h1, h2⟩

theorem sound_mv {x : Operand} (hop : o.op = .move x ∨ o.op = .assign x) {a : AOper} (ha : a.o = .mv (co x)) (hT : o.type = a.T) {k : Nat} (hk : opK tt k a ⟨t, h, G⟩ K) : Res P o ρ w0 Fo B w h μ G own K := by
  have hr : (execOp ρ o).run P w = .ok (.value (ρ x)) w := by rcases hop with e | e <;> simp [execOp, e]
  have hx := hρ x
  simp only [opK, ha] at hk
  split at hk
  · exact .same I hr hx hk
  · split at hk
    · rename_i hev hsz
      rw [hev] at hx
      rw [hx.asNil] at hr
      exact .addArr I ⟨rfl, rfl, rfl, Nat.le_refl _, fun _ _ _ => rfl⟩ k ⟨_, _, _, rfl⟩ hr (o1 := []) (by simp) (by simp) (fun F' _ => .olistE _) hk
    · exact hk.elim
  · split at hk
    · rename_i j g hev
      split at hk
      · rename_i sz xs hf
        rw [hev] at hx
        obtain ⟨⟨a1, n1, c1, ha1⟩, _, hm⟩ := hx.asArr
        have hm := hm (by rw [hf]; simp)
        obtain ⟨o1, rest, he, hr', hnd, hmem, out⟩ := I.takeOut hf
        refine ⟨_, ρ x, w, _, _, _, _, _, hr, .inl rfl, hk, out, .imm _ _ ?_⟩
        rw [hm]
        have hok := ORep.imm he.arrOf (F' := FF rest Fo) (fun b hb _ => hb.imp (fun hb => hmem b (by simp [hb])) id) (fun b hb hF => by
          rcases hF with hF | hF
          · exact (List.nodup_append.1 hnd).2.2 b hb b hF rfl
          · have := I.out b hF; have := (he.lt b hb).1
            have h2 := he.arrOf.lt b hb
            omega) 6
        simpa [PS.imm] using hok
      · exact hk.elim
    · exact hk.elim

theorem sound_pick {c x y : Operand} (hop : o.op = .pick c x y) {a : AOper} (ha : a.o = .pick (co c) (co x) (co y)) {k : Nat} (hk : opK tt k a ⟨t, h, G⟩ K) : Res P o ρ w0 Fo B w h μ G own K := by
  simp only [opK, ha] at hk
  split at hk
  · rename_i b hev
    have hc := hρ c
    rw [hev] at hc
    have hc := hc.asBool
    refine .same I (v := if b then ρ x else ρ y) (by simp [execOp, hop, hc, Go.asBool]) ?_ hk
    cases b
    · exact hρ y
    · exact hρ x
  · exact hk.elim

end
end Go.PS
