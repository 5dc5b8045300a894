/- How a value reads where it is handed on: as a list, as the caller's own, as what a call has made. -/
import Derived.Test.YtdojebhmkbfppaaPsD
set_option linter.unusedVariables false
set_option linter.unusedSimpArgs false
namespace Go.PS
theorem ORep.olist_inv {w : World} {F : Nat → Prop} {lo sz : Nat} {xs : List D} {v : Value} {o : List Nat} (r : ORep w F lo (.olist sz xs) v o) :
    (v = .slice none 0 0 ∧ xs = [] ∧ o = []) ∨
    ∃ (vs : List Value) (os : List (List Nat)) (b cap : Nat) (cur : Array Value) (E : TypeId), v = .slice (some ⟨b, 0, none⟩) xs.length cap ∧ o = b :: os.flatten ∧ vs.length = xs.length ∧ os.length = xs.length ∧
      (∀ (i : Nat) (d : D) (v : Value) (o : List Nat), xs[i]? = some d → vs[i]? = some v → os[i]? = some o → ORep w F lo d v o) ∧
      w.heap[b]? = some (.cells cur E (0, 0)) ∧ cur.size = cap * sz ∧ xs.length ≤ cap ∧ cap ≤ maxLen ∧ Row w b 0 sz vs ∧ lo ≤ b := by
  cases r with
  | base d v hr => cases hr
  | olistE => exact .inl ⟨rfl, rfl, rfl⟩
  | olist _ _ vs os b cap cur E h1 h2 h3 h4 h5 h6 h7 h8 h9 => exact .inr ⟨vs, os, b, cap, cur, E, rfl, rfl, h1, h2, h3, h4, h5, h6, h7, h8, h9⟩

section
variable {w : World} {F : Nat → Prop}

theorem getElem?_map_some {α β : Type} {f : α → β} {xs : List α} {i : Nat} {b : β} (h : (xs.map f)[i]? = some b) : ∃ a, xs[i]? = some a ∧ f a = b := by
  rw [List.getElem?_map] at h
  cases hx : xs[i]? with
  | none => rw [hx] at h; cases h
  | some a => rw [hx] at h; exact ⟨a, rfl, by simpa using h⟩

theorem Rep.imm {d : D} {v : Value} (r : Rep w F d v) : ∀ n, Rep w F (imm n d) v := by
  induction r with
  | junk v => intro n; cases n <;> exact .junk v
  | bool b => intro n; cases n <;> exact .bool b
  | int k m => intro n; cases n <;> exact .int k m
  | str s => intro n; cases n <;> exact .str s
  | nil => intro n; cases n <;> exact .nil
  | listE sz a cap => intro n; cases n <;> exact .listE sz a cap
  | list sz xs vs b o cap h1 h2 h3 h4 h5 h6 h7 => intro n; cases n <;> exact .list sz xs vs b o cap h1 h2 h3 h4 h5 h6 h7
  | agg xs vs h1 h2 h3 ih =>
    intro n
    cases n with
    | zero => exact .junk _
    | succ n => exact .agg _ vs (by simpa using h1) (fun i d v hd hv => by obtain ⟨e, he, rfl⟩ := getElem?_map_some hd; exact ih i e v he hv n) h3
  | tup xs vs h1 h2 ih =>
    intro n
    cases n with
    | zero => exact .junk _
    | succ n => exact .tup _ vs (by simpa using h1) (fun i d v hd hv => by obtain ⟨e, he, rfl⟩ := getElem?_map_some hd; exact ih i e v he hv n)
  | fn f xs vs h1 h2 ih => intro n; cases n <;> exact .fn f xs vs h1 h2
  | iptr d v b o h1 h2 h3 h4 => intro n; cases n <;> exact .iptr d v b o h1 h2 h3 h4

theorem ORep.imm {lo : Nat} {d : D} {v : Value} {o : List Nat} (r : ORep w F lo d v o) {F' : Nat → Prop} (hF : ∀ b, F' b → b < w.heap.size → F b) :
    (∀ b ∈ o, ¬ F' b) → ∀ n, Rep w F' (imm n d) v := by
  induction r with
  | base d v hr => intro _ n; exact (hr.weak hF).imm n
  | olistE sz => intro _ n; cases n <;> first | exact .junk _ | exact .listE sz none 0
  | olist sz xs vs os b cap cur E h1 h2 h3 h4 h5 h6 h7 h8 h9 ih =>
    intro ho n
    cases n with
    | zero => exact .junk _
    | succ n =>
      have hlt : b < w.heap.size := (Array.getElem?_eq_some_iff.1 h4).1
      have := Rep.list (w := w) (F := F') sz (xs.map (PS.imm n)) vs b 0 cap (by simpa using h1) (by simpa using h6) (by simpa using Nat.le_trans h6 h7) (fun i d v hd hv => by
        obtain ⟨e, he, rfl⟩ := getElem?_map_some hd
        have hi : i < xs.length := (List.getElem?_eq_some_iff.1 he).1
        exact ih i e v (os[i]'(by omega)) he hv (List.getElem?_eq_getElem _) (fun c hc => ho c (List.mem_cons_of_mem _ (mem_flatten_of (List.getElem?_eq_getElem (by omega)) hc))) n) h8 hlt (ho b (by simp))
      rw [List.length_map] at this
      exact this
  | agg xs vs os h1 h2 h3 h4 ih =>
    intro ho n
    cases n with
    | zero => exact .junk _
    | succ n => exact .agg _ vs (by simpa using h1) (fun i d v hd hv => by
        obtain ⟨e, he, rfl⟩ := getElem?_map_some hd
        have hi : i < xs.length := (List.getElem?_eq_some_iff.1 he).1
        exact ih i e v (os[i]'(by omega)) he hv (List.getElem?_eq_getElem _) (fun c hc => ho c (mem_flatten_of (List.getElem?_eq_getElem (by omega)) hc)) n) h4
  | tup xs vs os h1 h2 h3 ih =>
    intro ho n
    cases n with
    | zero => exact .junk _
    | succ n => exact .tup _ vs (by simpa using h1) (fun i d v hd hv => by
        obtain ⟨e, he, rfl⟩ := getElem?_map_some hd
        have hi : i < xs.length := (List.getElem?_eq_some_iff.1 he).1
        exact ih i e v (os[i]'(by omega)) he hv (List.getElem?_eq_getElem _) (fun c hc => ho c (mem_flatten_of (List.getElem?_eq_getElem (by omega)) hc)) n)

theorem Rep.der (h : List Ent) {d : D} {v : Value} (r : Rep w F d v) : ∀ n, Rep w F (der h n d) v := by
  induction r with
  | junk v => intro n; cases n <;> exact .junk v
  | bool b => intro n; cases n <;> exact .bool b
  | int k m => intro n; cases n <;> exact .int k m
  | str s => intro n; cases n <;> exact .str s
  | nil => intro n; cases n <;> exact .listE 1 none 0
  | listE sz a cap => intro n; cases n <;> exact .listE sz a cap
  | list sz xs vs b o cap h1 h2 h3 h4 h5 h6 h7 => intro n; cases n <;> exact .list sz xs vs b o cap h1 h2 h3 h4 h5 h6 h7
  | agg xs vs h1 h2 h3 ih =>
    intro n
    cases n with
    | zero => exact .junk _
    | succ n => exact .agg _ vs (by simpa using h1) (fun i d v hd hv => by obtain ⟨e, he, rfl⟩ := getElem?_map_some hd; exact ih i e v he hv n) h3
  | tup xs vs h1 h2 ih =>
    intro n
    cases n with
    | zero => exact .junk _
    | succ n => exact .tup _ vs (by simpa using h1) (fun i d v hd hv => by obtain ⟨e, he, rfl⟩ := getElem?_map_some hd; exact ih i e v he hv n)
  | fn f xs vs h1 h2 ih =>
    intro n
    cases n with
    | zero => exact .junk _
    | succ n => exact .fn f _ vs (by simpa using h1) (fun i d v hd hv => by obtain ⟨e, he, rfl⟩ := getElem?_map_some hd; exact ih i e v he hv n)
  | iptr d v b o h1 h2 h3 h4 => intro n; cases n <;> exact .iptr d v b o h1 h2 h3 h4

theorem Rep.derS {d : D} {v : Value} (r : Rep w F d v) : ∀ n, Rep w F (derS n d) v := by
  induction r with
  | junk v => intro n; cases n <;> exact .junk v
  | bool b => intro n; cases n <;> exact .bool b
  | int k m => intro n; cases n <;> exact .int k m
  | str s => intro n; cases n <;> exact .str s
  | nil => intro n; cases n <;> exact .listE 1 none 0
  | listE sz a cap => intro n; cases n <;> exact .listE sz a cap
  | list sz xs vs b o cap h1 h2 h3 h4 h5 h6 h7 => intro n; cases n <;> exact .list sz xs vs b o cap h1 h2 h3 h4 h5 h6 h7
  | agg xs vs h1 h2 h3 ih =>
    intro n
    cases n with
    | zero => exact .junk _
    | succ n => exact .agg _ vs (by simpa using h1) (fun i d v hd hv => by obtain ⟨e, he, rfl⟩ := getElem?_map_some hd; exact ih i e v he hv n) h3
  | tup xs vs h1 h2 ih =>
    intro n
    cases n with
    | zero => exact .junk _
    | succ n => exact .tup _ vs (by simpa using h1) (fun i d v hd hv => by obtain ⟨e, he, rfl⟩ := getElem?_map_some hd; exact ih i e v he hv n)
  | fn f xs vs h1 h2 ih =>
    intro n
    cases n with
    | zero => exact .junk _
    | succ n => exact .fn f _ vs (by simpa using h1) (fun i d v hd hv => by obtain ⟨e, he, rfl⟩ := getElem?_map_some hd; exact ih i e v he hv n)
  | iptr d v b o h1 h2 h3 h4 => intro n; cases n <;> exact .iptr d v b o h1 h2 h3 h4

theorem Rep.pure_of_cell {v : Value} (hv : v.oneCell' = true) : v.cells = #[v] := by cases v <;> first | rfl | (simp [Value.oneCell'] at hv)

variable {h : List Ent} {μ : Nat → Value} {G : Nat}

theorem VRep.derS {d : D} {v : Value} (r : VRep w F h μ G d v) : ∀ n, Rep w F (derS n d) v := by
  induction r with
  | imm d v r => intro n; exact r.derS n
  | undef => intro n; cases n <;> exact .junk _
  | lit sz xs vs b cap h1 h2 h3 _ h5 h6 h7 ih =>
    intro n
    cases n with
    | zero => exact .junk _
    | succ n =>
      have := Rep.list (w := w) (F := F) sz (xs.map (PS.derS n)) vs b 0 cap (by simpa using h1) (by simpa using h2) (by simpa using h3) (fun i d v hd hv => by
        obtain ⟨e, he, rfl⟩ := getElem?_map_some hd; exact ih i e v he hv n) h5 h6 h7
      rw [List.length_map] at this
      exact this
  | agg xs vs h1 h2 h3 ih =>
    intro n
    cases n with
    | zero => exact .junk _
    | succ n => exact .agg _ vs (by simpa using h1) (fun i d v hd hv => by obtain ⟨e, he, rfl⟩ := getElem?_map_some hd; exact ih i e v he hv n) h3
  | tup xs vs h1 h2 ih =>
    intro n
    cases n with
    | zero => exact .junk _
    | succ n => exact .tup _ vs (by simpa using h1) (fun i d v hd hv => by obtain ⟨e, he, rfl⟩ := getElem?_map_some hd; exact ih i e v he hv n)
  | fn f xs vs h1 h2 ih =>
    intro n
    cases n with
    | zero => exact .junk _
    | succ n => exact .fn f _ vs (by simpa using h1) (fun i d v hd hv => by obtain ⟨e, he, rfl⟩ := getElem?_map_some hd; exact ih i e v he hv n)
  | ptr => intro n; cases n <;> exact .junk _
  | arr => intro n; cases n <;> exact .junk _
  | row => intro n; cases n <;> exact .junk _
  | rptr => intro n; cases n <;> exact .junk _


theorem EOk.cellsOf {lo : Nat} {B : Option Nat} {k g : Nat} {cs : List D} {o : List Nat} (he : EOk w F h μ G lo B ⟨k, g, .cells cs⟩ o) :
    ∃ (b : Nat) (vs : List Value) (E : TypeId), μ g = .pointer (some ⟨b, 0, none⟩) ∧ w.heap[b]? = some (.cells vs.toArray E (0, 0)) ∧ vs.length = cs.length ∧ Ones vs ∧
      (∀ (i : Nat) (d : D) (v : Value), cs[i]? = some d → vs[i]? = some v → VRep w F h μ G d v) ∧ o = [b] ∧ (lo ≤ b ∨ B = some b) := he.2

theorem EOk.arrOf {lo : Nat} {B : Option Nat} {k g sz : Nat} {xs : List D} {o : List Nat} (he : EOk w F h μ G lo B ⟨k, g, .arr sz xs⟩ o) : ORep w F lo (.olist sz xs) (μ g) o := he.2

/-- A row of one-cell values is what a block's cells say. -/
theorem row_of_cells {b : Nat} {vs : List Value} {E : TypeId} {fz : Nat × Nat} (hb : w.heap[b]? = some (.cells vs.toArray E fz)) (h1 : Ones vs) : Row w b 0 1 vs := by
  intro i v hv
  have ho := h1 v (List.mem_of_getElem? hv)
  rw [Rep.pure_of_cell ho]
  refine ⟨rfl, fun j u hu => ?_⟩
  cases j with
  | zero =>
    obtain rfl : v = u := by simpa using hu
    exact ⟨ho, by simp [World.cell?, hb, hv]⟩
  | succ j => simp at hu

/-- A list of the run's own holds its row: what the row's cell says stands for it. -/
theorem HOk.rowOf {lo : Nat} {B : Option Nat} {l : List Ent} {o : List Nat} (hok : HOk w F h μ G lo B l o) {k g x s : Nat} {ys : List D} (hr : rowAt l k g x = some (s, ys)) {b n c : Nat} (hm : μ g = .slice (some ⟨b, 0, none⟩) n c) :
    ∃ o1, (∀ v, w.cell? ⟨b, x, none⟩ = some v → ORep w F lo (.olist s ys) v o1) ∧ ∀ c ∈ o1, c ∈ o := by
  unfold rowAt at hr
  split at hr
  · rename_i blk hf
    obtain ⟨o1, he, hin⟩ := hok.has l o hf
    cases blk with
    | cells cs => simp [rowB] at hr
    | arr sz xs =>
      have ho := he.2
      simp only at ho
      rw [hm] at ho
      simp only [rowB] at hr
      split at hr
      · rename_i s' ys' hx
        injection hr with hr
        injection hr with h1 h2
        subst h1; subst h2
        cases ho with
        | base _ _ r => cases r
        | olist _ _ vs os _ cap cur E h1 h2 h3 h4 h5 h6 h7 h8 h9 =>
          have hlt : x < xs.length := (List.getElem?_eq_some_iff.1 hx).1
          have hv : vs[x]? = some (vs[x]'(by omega)) := List.getElem?_eq_getElem _
          have hos : os[x]? = some (os[x]'(by omega)) := List.getElem?_eq_getElem _
          have hO := h3 x _ _ _ hx hv hos
          refine ⟨os[x]'(by omega), fun v hc => ?_, fun c hc => hin c (List.mem_cons_of_mem _ (mem_flatten_of hos hc))⟩
          have hone : (vs[x]'(by omega)).cells = #[vs[x]'(by omega)] := by
            rcases hO.olist_inv with ⟨e, _⟩ | ⟨_, _, _, _, _, _, e, _⟩ <;> rw [e] <;> rfl
          obtain ⟨g1, g2⟩ := h8 x _ hv
          have g3 := g2 0 (vs[x]'(by omega)) (by rw [hone]; rfl)
          rw [hone] at g1
          have hsz : sz = 1 := by simpa using g1.symm
          subst hsz
          have e : w.cell? ⟨b, x, none⟩ = some (vs[x]'(by omega)) := by simpa using g3.2
          rw [e] at hc
          injection hc with hc
          rw [← hc]; exact hO
      · cases hr
  · cases hr

theorem VRep.der {lo : Nat} {B : Option Nat} {o : List Nat} (hok : HOk w F h μ G lo B h o) : ∀ (n : Nat) (d : D) (v : Value), VRep w F h μ G d v → Rep w (fun _ => False) (der h n d) v := by
  intro n
  induction n with
  | zero =>
    intro d v r
    cases r with
    | imm d v r => exact (r.weak (fun _ hf _ => hf.elim)).der h 0
    | _ => exact .junk _
  | succ n ih =>
    intro d v r
    have ihl : ∀ (xs : List D) (vs : List Value), (∀ (i : Nat) (d : D) (v : Value), xs[i]? = some d → vs[i]? = some v → VRep w F h μ G d v) →
        ∀ (i : Nat) (d : D) (v : Value), (xs.map (PS.der h n))[i]? = some d → vs[i]? = some v → Rep w (fun _ => False) d v := fun xs vs hx i d v hd hv => by
      obtain ⟨e, he, rfl⟩ := getElem?_map_some hd; exact ih e v (hx i e v he hv)
    cases r with
    | imm d v r => exact (r.weak (fun _ hf _ => hf.elim)).der h (n + 1)
    | undef => exact .junk _
    | lit sz xs vs b cap h1 h2 h3 h4 h5 h6 h7 =>
      have := Rep.list (w := w) (F := fun _ => False) sz (xs.map (PS.der h n)) vs b 0 cap (by simpa using h1) (by simpa using h2) (by simpa using h3) (ihl xs vs h4) h5 h6 (fun f => f)
      rw [List.length_map] at this
      exact this
    | agg xs vs h1 h2 h3 => exact .agg _ vs (by simpa using h1) (ihl xs vs h2) h3
    | tup xs vs h1 h2 => exact .tup _ vs (by simpa using h1) (ihl xs vs h2)
    | fn f xs vs h1 h2 => exact .fn f _ vs (by simpa using h1) (ihl xs vs h2)
    | ptr k g off a hg hp =>
      cases off with
      | succ off => exact .junk _
      | zero =>
        cases hf : find h k g with
        | none => simp only [PS.der, hf]; exact .junk _
        | some blk =>
          obtain ⟨b, hb, rfl⟩ := hp (by rw [hf]; simp)
          obtain ⟨o1, he, _⟩ := hok.has h o hf
          cases blk with
          | arr sz xs => simp only [PS.der, hf]; exact .junk _
          | cells cs =>
            obtain ⟨b', vs, E, hm, hh, hl, h1, hr, _, _⟩ := he.cellsOf
            have hbb : b' = b := by
              rcases hb with hb | ⟨n', c', hb⟩
              · rw [hm] at hb; injection hb with hb; injection hb with hb; injection hb
              · rw [hm] at hb; cases hb
            subst hbb
            have hlt : b' < w.heap.size := (Array.getElem?_eq_some_iff.1 hh).1
            have many : Rep w (fun _ => False) (.iptr (.agg (cs.map (PS.der h n)))) (.pointer (some ⟨b', 0, none⟩)) := by
              refine .iptr _ (.agg vs.toArray) b' 0 (.agg _ vs (by simpa using hl) (ihl cs vs hr) h1) (fun j u hu => ?_) hlt (fun f => f)
              have hu' : vs[j]? = some u := by simpa [Value.cells] using hu
              exact ⟨h1 u (List.mem_of_getElem? hu'), by simp [World.cell?, hh, hu']⟩
            cases cs with
            | nil => simp only [PS.der, hf]; exact many
            | cons c cs =>
              cases cs with
              | nil =>
                simp only [PS.der, hf]
                cases vs with
                | nil => simp at hl
                | cons u us =>
                  have hu : u.oneCell' = true := h1 u (by simp)
                  refine .iptr _ u b' 0 (ih c u (hr 0 c u rfl rfl)) (fun j x hx => ?_) hlt (fun f => f)
                  rw [Rep.pure_of_cell hu] at hx
                  cases j with
                  | zero => obtain rfl : u = x := by simpa using hx
                            exact ⟨hu, by simp [World.cell?, hh]⟩
                  | succ j => simp at hx
              | cons c' cs => simp only [PS.der, hf]; exact many
    | arr k g a m c hg hp =>
      cases hf : find h k g with
      | none => simp only [PS.der, hf]; exact .junk _
      | some blk =>
        have hv := hp (by rw [hf]; simp)
        obtain ⟨o1, he, _⟩ := hok.has h o hf
        cases blk with
        | cells cs => simp only [PS.der, hf]; exact .junk _
        | arr sz xs =>
          simp only [PS.der, hf]
          rw [hv]
          have := he.arrOf.imm (F' := fun _ => False) (fun _ hf _ => hf.elim) (fun _ _ hf => hf) (n + 1)
          simpa [PS.imm] using this
    | row k g x a m c hg hp =>
      simp only [PS.der]
      cases hr : rowAt h k g x with
      | none => exact .junk _
      | some q =>
        obtain ⟨s, ys⟩ := q
        obtain ⟨b, n', c', hm, hc⟩ := hp (by rw [hr]; simp)
        obtain ⟨o1, hrow, _⟩ := hok.rowOf hr hm
        have := (hrow _ hc).imm (F' := fun _ => False) (fun _ hf _ => hf.elim) (fun _ _ hf => hf) (n + 1)
        simpa [PS.imm, rowD] using this
    | rptr => exact .junk _

end

theorem hdels_append : ∀ (h : List Ent) (a b : List Nat), hdels h (a ++ b) = hdels (hdels h a) b
  | h, [], b => rfl
  | h, k :: a, b => by simp only [List.cons_append, hdels]; exact hdels_append (hdel h k) a b

theorem find_hdels_ne {j g : Nat} : ∀ (ks : List Nat) (l : List Ent), j ∉ ks → find (hdels l ks) j g = find l j g
  | [], l, _ => rfl
  | k :: ks, l, hn => by
    simp only [List.mem_cons, not_or] at hn
    simp only [hdels]
    rw [find_hdels_ne ks _ hn.2, find_hdel_ne hn.1]

theorem nodup_hdels : ∀ (ks : List Nat) (l : List Ent), (l.map Ent.k).Nodup → ((hdels l ks).map Ent.k).Nodup
  | [], l, h => h
  | k :: ks, l, h => nodup_hdels ks _ (nodup_hdel l h)

theorem mem_keys_hdels {j : Nat} : ∀ (ks : List Nat) (l : List Ent), j ∈ (hdels l ks).map Ent.k → j ∈ l.map Ent.k
  | [], l, h => h
  | k :: ks, l, h => mem_keys_hdel l (mem_keys_hdels ks _ h)

theorem not_mem_hdels {j : Nat} : ∀ (ks : List Nat) (l : List Ent), (l.map Ent.k).Nodup → j ∈ ks → j ∉ (hdels l ks).map Ent.k
  | [], l, _, h => by cases h
  | k :: ks, l, hn, h => by
    simp only [hdels]
    rcases List.mem_cons.1 h with rfl | h
    · exact fun hm => not_mem_hdel l hn (mem_keys_hdels ks _ hm)
    · exact not_mem_hdels ks _ (nodup_hdel l hn) h

section
variable {w : World} {F : Nat → Prop} {h : List Ent} {μ : Nat → Value} {G lo : Nat} {B : Option Nat}

/-- What is handed on with what it owns: a value, taken out of the run's own. -/
def OwnAt (w : World) (F : Nat → Prop) (h : List Ent) (μ : Nat → Value) (G lo : Nat) (B : Option Nat) (n : Nat) (d : D) (v : Value) : Prop :=
  ∀ (l : List Ent) (o : List Nat), HOk w F h μ G lo B l o → o.Nodup → (∀ k ∈ keys n d, ∀ g, find l k g = find h k g) → (keys n d).Nodup →
    ∃ o1 rest, ORep w F lo (own h n d) v o1 ∧ HOk w F h μ G lo B (hdels l (keys n d)) rest ∧ (o1 ++ rest).Nodup ∧ ∀ c ∈ o1 ++ rest, c ∈ o

theorem ownL_at {n : Nat} : ∀ (xs : List D) (vs : List Value), vs.length = xs.length → (∀ (i : Nat) (d : D) (v : Value), xs[i]? = some d → vs[i]? = some v → OwnAt w F h μ G lo B n d v) →
    ∀ (l : List Ent) (o : List Nat), HOk w F h μ G lo B l o → o.Nodup → (∀ k ∈ (xs.map (keys n)).flatten, ∀ g, find l k g = find h k g) → ((xs.map (keys n)).flatten).Nodup →
    ∃ (os : List (List Nat)) (rest : List Nat), os.length = xs.length ∧ (∀ (i : Nat) (d : D) (v : Value) (o : List Nat), (xs.map (own h n))[i]? = some d → vs[i]? = some v → os[i]? = some o → ORep w F lo d v o) ∧
      HOk w F h μ G lo B (hdels l (xs.map (keys n)).flatten) rest ∧ (os.flatten ++ rest).Nodup ∧ ∀ c ∈ os.flatten ++ rest, c ∈ o
  | [], vs, hl, _, l, o, hk, hn, _, _ => ⟨[], o, rfl, by simp, hk, by simpa using hn, by simp⟩
  | x :: xs, [], hl, _, l, o, hk, hn, _, _ => by simp at hl
  | x :: xs, v :: vs, hl, hx, l, o, hk, hn, hfind, hnd => by
    simp only [List.map_cons, List.flatten_cons] at hfind hnd ⊢
    obtain ⟨hnd1, hnd2, hdis⟩ := List.nodup_append.1 hnd
    obtain ⟨o1, r1, hr1, hk1, hn1, hm1⟩ := hx 0 x v rfl rfl l o hk hn (fun k hk g => hfind k (by simp [hk]) g) hnd1
    obtain ⟨os, r2, hlen, hr2, hk2, hn2, hm2⟩ := ownL_at xs vs (by simpa using hl) (fun i d u hd hu => hx (i + 1) d u (by simpa using hd) (by simpa using hu)) (hdels l (keys n x)) r1 hk1
      (List.nodup_append.1 hn1).2.1 (fun k hk g => by rw [find_hdels_ne _ _ (fun hkx => hdis k hkx k hk rfl)]; exact hfind k (by simp [hk]) g) hnd2
    refine ⟨o1 :: os, r2, by simp [hlen], ?_, by rw [hdels_append]; exact hk2, ?_, ?_⟩
    · intro i d u p hd hu hp
      cases i with
      | zero =>
        obtain rfl : own h n x = d := by simpa using hd
        obtain rfl : v = u := by simpa using hu
        obtain rfl : o1 = p := by simpa using hp
        exact hr1
      | succ i => exact hr2 i d u p (by simpa using hd) (by simpa using hu) (by simpa using hp)
    · rw [List.flatten_cons, List.append_assoc, List.nodup_append]
      refine ⟨(List.nodup_append.1 hn1).1, hn2, fun a ha b hb => (List.nodup_append.1 hn1).2.2 a ha b (hm2 b hb)⟩
    · intro c hc
      rw [List.flatten_cons, List.append_assoc] at hc
      rcases List.mem_append.1 hc with hc | hc
      · exact hm1 c (by simp [hc])
      · exact hm1 c (by simp [hm2 c hc])

theorem own_none {d : D} {v : Value} {l : List Ent} {o : List Nat} (hr : Rep w F d v) (hk : HOk w F h μ G lo B l o) (hn : o.Nodup) :
    ∃ o1 rest, ORep w F lo d v o1 ∧ HOk w F h μ G lo B (hdels l []) rest ∧ (o1 ++ rest).Nodup ∧ ∀ c ∈ o1 ++ rest, c ∈ o :=
  ⟨[], o, .base d v hr, hk, by simpa using hn, by simp⟩

theorem own_at : ∀ (n : Nat) (d : D) (v : Value), VRep w F h μ G d v → OwnAt w F h μ G lo B n d v := by
  intro n
  induction n with
  | zero =>
    intro d v r l o hk hn _ _
    cases r with
    | imm d v r => cases r with
      | nil => exact ⟨[], o, .olistE 1, hk, by simpa using hn, by simp⟩
      | junk v => exact own_none (.junk _) hk hn
      | bool b => exact own_none (.bool _) hk hn
      | int k m => exact own_none (.int _ _) hk hn
      | str s => exact own_none (.str _) hk hn
      | listE sz a cap => exact own_none (.listE _ _ _) hk hn
      | list sz xs vs b o cap h1 h2 h3 h4 h5 h6 h7 => exact own_none (.list sz xs vs b o cap h1 h2 h3 h4 h5 h6 h7) hk hn
      | agg => exact own_none (.junk _) hk hn
      | tup => exact own_none (.junk _) hk hn
      | fn => exact own_none (.junk _) hk hn
      | iptr d v b o h1 h2 h3 h4 => exact own_none (.iptr d v b o h1 h2 h3 h4) hk hn
    | _ => exact own_none (.junk _) hk hn
  | succ n ih =>
    intro d v r l o hk hn hfind hnd
    have aggC : ∀ (xs : List D) (vs : List Value), vs.length = xs.length → (∀ (i : Nat) (d : D) (v : Value), xs[i]? = some d → vs[i]? = some v → VRep w F h μ G d v) → Ones vs →
        (∀ k ∈ keys (n + 1) (.agg xs), ∀ g, find l k g = find h k g) → (keys (n + 1) (.agg xs)).Nodup →
        ∃ o1 rest, ORep w F lo (own h (n + 1) (.agg xs)) (.agg vs.toArray) o1 ∧ HOk w F h μ G lo B (hdels l (keys (n + 1) (.agg xs))) rest ∧ (o1 ++ rest).Nodup ∧ ∀ c ∈ o1 ++ rest, c ∈ o := by
      intro xs vs h1 h2 h3 hf' hn'
      obtain ⟨os, rest, hl, hr, hk', hn2, hm⟩ := ownL_at xs vs h1 (fun i d v hd hv => ih d v (h2 i d v hd hv)) l o hk hn hf' hn'
      exact ⟨os.flatten, rest, .agg _ vs os (by simpa using h1) (by simpa using hl) hr h3, hk', hn2, hm⟩
    have tupC : ∀ (xs : List D) (vs : List Value), vs.length = xs.length → (∀ (i : Nat) (d : D) (v : Value), xs[i]? = some d → vs[i]? = some v → VRep w F h μ G d v) →
        (∀ k ∈ keys (n + 1) (.tup xs), ∀ g, find l k g = find h k g) → (keys (n + 1) (.tup xs)).Nodup →
        ∃ o1 rest, ORep w F lo (own h (n + 1) (.tup xs)) (.tuple vs.toArray) o1 ∧ HOk w F h μ G lo B (hdels l (keys (n + 1) (.tup xs))) rest ∧ (o1 ++ rest).Nodup ∧ ∀ c ∈ o1 ++ rest, c ∈ o := by
      intro xs vs h1 h2 hf' hn'
      obtain ⟨os, rest, hl, hr, hk', hn2, hm⟩ := ownL_at xs vs h1 (fun i d v hd hv => ih d v (h2 i d v hd hv)) l o hk hn hf' hn'
      exact ⟨os.flatten, rest, .tup _ vs os (by simpa using h1) (by simpa using hl) hr, hk', hn2, hm⟩
    cases r with
    | imm d v r => cases r with
      | nil => exact ⟨[], o, .olistE 1, hk, by simpa using hn, by simp⟩
      | junk v => exact own_none (.junk _) hk hn
      | bool b => exact own_none (.bool _) hk hn
      | int k m => exact own_none (.int _ _) hk hn
      | str s => exact own_none (.str _) hk hn
      | listE sz a cap => exact own_none (.listE _ _ _) hk hn
      | list sz xs vs b o cap h1 h2 h3 h4 h5 h6 h7 => exact own_none (.list sz xs vs b o cap h1 h2 h3 h4 h5 h6 h7) hk hn
      | agg xs vs h1 h2 h3 => exact aggC xs vs h1 (fun i d v hd hv => .imm _ _ (h2 i d v hd hv)) h3 hfind hnd
      | tup xs vs h1 h2 => exact tupC xs vs h1 (fun i d v hd hv => .imm _ _ (h2 i d v hd hv)) hfind hnd
      | fn => exact own_none (.junk _) hk hn
      | iptr d v b o h1 h2 h3 h4 => exact own_none (.iptr d v b o h1 h2 h3 h4) hk hn
    | undef => exact own_none (.junk _) hk hn
    | lit => exact own_none (.junk _) hk hn
    | agg xs vs h1 h2 h3 => exact aggC xs vs h1 h2 h3 hfind hnd
    | tup xs vs h1 h2 => exact tupC xs vs h1 h2 hfind hnd
    | fn => exact own_none (.junk _) hk hn
    | ptr => exact own_none (.junk _) hk hn
    | row => exact own_none (.junk _) hk hn
    | rptr => exact own_none (.junk _) hk hn
    | arr k g a m c hg hp =>
      have hfk := hfind k (by simp [keys]) g
      cases hf : find h k g with
      | none =>
        obtain ⟨rest, hr, hn', hm⟩ := HOk.del k l o hk hn
        exact ⟨[], rest, by simp only [PS.own, hf]; exact .base _ _ (.junk _), hr, by simpa using hn', by simpa using hm⟩
      | some blk =>
        have hv := hp (by rw [hf]; simp)
        cases blk with
        | cells cs =>
          obtain ⟨rest, hr, hn', hm⟩ := HOk.del k l o hk hn
          exact ⟨[], rest, by simp only [PS.own, hf]; exact .base _ _ (.junk _), hr, by simpa using hn', by simpa using hm⟩
        | arr sz xs =>
          obtain ⟨o1, rest, he, hr, hn', hm⟩ := HOk.take l o hk (hfk.trans hf) hn
          refine ⟨o1, rest, ?_, hr, hn', fun c hc => (hm c).2 hc⟩
          simp only [PS.own, hf]
          rw [hv]
          exact he.arrOf

end
end Go.PS
