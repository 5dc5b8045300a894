/- The blocks that are the run's own: how they are kept, taken out, laid in. -/
import Derived.Test.YtdojebhmkbfppaaPsB
set_option linter.unusedVariables false
set_option linter.unusedSimpArgs false
namespace Go.PS

/-- One block of the run's own. -/
def EOk (w : World) (F : Nat → Prop) (h : List Ent) (μ : Nat → Value) (G lo : Nat) (B : Option Nat) (e : Ent) (o : List Nat) : Prop :=
  e.g < G ∧ match e.b with
  | .cells cs => ∃ (b : Nat) (vs : List Value) (E : TypeId), μ e.g = .pointer (some ⟨b, 0, none⟩) ∧ w.heap[b]? = some (.cells vs.toArray E (0, 0)) ∧ vs.length = cs.length ∧ Ones vs ∧
      (∀ (i : Nat) (d : D) (v : Value), cs[i]? = some d → vs[i]? = some v → VRep w F h μ G d v) ∧ o = [b] ∧ (lo ≤ b ∨ B = some b)
  | .arr sz xs => ORep w F lo (.olist sz xs) (μ e.g) o

def HOk (w : World) (F : Nat → Prop) (h : List Ent) (μ : Nat → Value) (G lo : Nat) (B : Option Nat) : List Ent → List Nat → Prop
  | [], o => o = []
  | e :: es, o => ∃ o1 o2, o = o1 ++ o2 ∧ EOk w F h μ G lo B e o1 ∧ HOk w F h μ G lo B es o2

theorem EOk.evo {w w' : World} {F F' : Nat → Prop} {h h' : List Ent} {μ μ' : Nat → Value} {G G' lo : Nat} {B : Option Nat} {e : Ent} {o : List Nat}
    (r : EOk w F h μ G lo B e o) (ev : Evo w F h μ G w' F' h' μ' G') (hk : ∀ b ∈ o, w'.heap[b]? = w.heap[b]?) : EOk w' F' h' μ' G' lo B e o := by
  obtain ⟨hg, r⟩ := r
  refine ⟨Nat.lt_of_lt_of_le hg ev.gen, ?_⟩
  cases hb : e.b with
  | cells cs =>
    rw [hb] at r
    obtain ⟨b, vs, E, h1, h2, h3, h4, h5, h6, h7⟩ := r
    refine ⟨b, vs, E, (ev.mu _ hg).trans h1, (hk b (by simp [h6])).trans h2, h3, h4, fun i d v hd hv => (h5 i d v hd hv).evo ev, h6, h7⟩
  | arr sz xs =>
    rw [hb] at r
    simp only at r ⊢
    rw [ev.mu _ hg]
    exact r.evo ev.mm hk (fun b hb => (r.lt b hb).1)

theorem HOk.evo {w w' : World} {F F' : Nat → Prop} {h h' : List Ent} {μ μ' : Nat → Value} {G G' lo : Nat} {B : Option Nat} (ev : Evo w F h μ G w' F' h' μ' G') :
    ∀ (l : List Ent) (o : List Nat), HOk w F h μ G lo B l o → (∀ b ∈ o, w'.heap[b]? = w.heap[b]?) → HOk w' F' h' μ' G' lo B l o
  | [], o, r, _ => r
  | e :: es, o, ⟨o1, o2, h1, h2, h3⟩, hk => by
    subst h1
    exact ⟨o1, o2, rfl, h2.evo ev (fun b hb => hk b (by simp [hb])), HOk.evo ev es o2 h3 (fun b hb => hk b (by simp [hb]))⟩

theorem EOk.lt {w : World} {F : Nat → Prop} {h : List Ent} {μ : Nat → Value} {G lo : Nat} {B : Option Nat} {e : Ent} {o : List Nat}
    (r : EOk w F h μ G lo B e o) : ∀ b ∈ o, (lo ≤ b ∨ B = some b) ∧ b < w.heap.size := by
  obtain ⟨hg, r⟩ := r
  intro c hc
  cases hb : e.b with
  | cells cs =>
    rw [hb] at r
    obtain ⟨b, vs, E, h1, h2, h3, h4, h5, h6, h7⟩ := r
    subst h6
    obtain rfl : c = b := by simpa using hc
    exact ⟨h7, (Array.getElem?_eq_some_iff.1 h2).1⟩
  | arr sz xs =>
    rw [hb] at r
    exact ⟨.inl (r.lt c hc).1, (r.lt c hc).2⟩

theorem HOk.lt {w : World} {F : Nat → Prop} {h : List Ent} {μ : Nat → Value} {G lo : Nat} {B : Option Nat} :
    ∀ (l : List Ent) (o : List Nat), HOk w F h μ G lo B l o → ∀ b ∈ o, (lo ≤ b ∨ B = some b) ∧ b < w.heap.size
  | [], o, r => by cases r; simp
  | e :: es, o, ⟨o1, o2, h1, h2, h3⟩ => by
    subst h1
    intro b hb
    rcases List.mem_append.1 hb with hb | hb
    · exact h2.lt b hb
    · exact HOk.lt es o2 h3 b hb

theorem HOk.gen {w : World} {F : Nat → Prop} {h : List Ent} {μ : Nat → Value} {G lo : Nat} {B : Option Nat} :
    ∀ (l : List Ent) (o : List Nat), HOk w F h μ G lo B l o → ∀ e ∈ l, e.g < G
  | [], o, r => by simp
  | e :: es, o, ⟨o1, o2, h1, h2, h3⟩ => by
    intro e' he
    rcases List.mem_cons.1 he with rfl | he
    · exact h2.1
    · exact HOk.gen es o2 h3 e' he

/-- An entry taken out. -/
theorem HOk.take {w : World} {F : Nat → Prop} {h : List Ent} {μ : Nat → Value} {G lo : Nat} {B : Option Nat} {k g : Nat} {b : Blk} :
    ∀ (l : List Ent) (o : List Nat), HOk w F h μ G lo B l o → find l k g = some b → o.Nodup →
      ∃ o1 rest, EOk w F h μ G lo B ⟨k, g, b⟩ o1 ∧ HOk w F h μ G lo B (hdel l k) rest ∧ (o1 ++ rest).Nodup ∧ ∀ c, c ∈ o ↔ c ∈ o1 ++ rest
  | [], o, r, hf, _ => by simp [find] at hf
  | e :: es, o, ⟨o1, o2, h1, h2, h3⟩, hf, hn => by
    subst h1
    simp only [find] at hf
    by_cases hk : e.k = k
    · rw [if_pos hk] at hf
      by_cases hg : e.g = g
      · rw [if_pos hg] at hf
        obtain rfl : e.b = b := by simpa using hf
        obtain rfl : k = e.k := hk.symm
        obtain rfl : g = e.g := hg.symm
        exact ⟨o1, o2, h2, by simpa [hdel] using h3, hn, fun c => Iff.rfl⟩
      · rw [if_neg hg] at hf; cases hf
    · rw [if_neg hk] at hf
      obtain ⟨p, q, hp, hq, hnd, hmem⟩ := HOk.take es o2 h3 hf (List.nodup_append.1 hn).2.1
      refine ⟨p, o1 ++ q, hp, ?_, ?_, ?_⟩
      · simp only [hdel, if_neg hk]
        exact ⟨o1, q, rfl, h2, hq⟩
      · have hpm : (o1 ++ (p ++ q)).Nodup := by
          rw [List.nodup_append] at hn ⊢
          exact ⟨hn.1, hnd, fun a ha b hb => hn.2.2 a ha b ((hmem b).2 hb)⟩
        have hperm : (o1 ++ (p ++ q)).Perm (p ++ (o1 ++ q)) := by
          rw [← List.append_assoc, ← List.append_assoc]
          exact (List.perm_append_comm).append_right q
        exact hperm.nodup_iff.1 hpm
      · intro c
        simp only [List.mem_append, hmem c]
        constructor
        · rintro (h | h | h)
          · exact .inr (.inl h)
          · exact .inl h
          · exact .inr (.inr h)
        · rintro (h | h | h)
          · exact .inr (.inl h)
          · exact .inl h
          · exact .inr (.inr h)

/-- An entry dropped. -/
theorem HOk.del {w : World} {F : Nat → Prop} {h : List Ent} {μ : Nat → Value} {G lo : Nat} {B : Option Nat} (k : Nat) :
    ∀ (l : List Ent) (o : List Nat), HOk w F h μ G lo B l o → o.Nodup → ∃ rest, HOk w F h μ G lo B (hdel l k) rest ∧ rest.Nodup ∧ ∀ c ∈ rest, c ∈ o
  | [], o, r, hn => ⟨o, r, hn, fun c hc => hc⟩
  | e :: es, o, ⟨o1, o2, h1, h2, h3⟩, hn => by
    subst h1
    by_cases hk : e.k = k
    · simp only [hdel, if_pos hk]
      exact ⟨o2, h3, (List.nodup_append.1 hn).2.1, fun c hc => by simp [hc]⟩
    · obtain ⟨q, hq, hnd, hmem⟩ := HOk.del k es o2 h3 (List.nodup_append.1 hn).2.1
      simp only [hdel, if_neg hk]
      refine ⟨o1 ++ q, ⟨o1, q, rfl, h2, hq⟩, ?_, ?_⟩
      · rw [List.nodup_append] at hn ⊢
        exact ⟨hn.1, hnd, fun a ha b hb => hn.2.2 a ha b (hmem b hb)⟩
      · intro c hc
        rcases List.mem_append.1 hc with hc | hc
        · simp [hc]
        · simp [hmem c hc]

theorem find_hdel_ne {k j g : Nat} (hne : j ≠ k) : ∀ (l : List Ent), find (hdel l k) j g = find l j g
  | [] => rfl
  | e :: es => by
    by_cases hk : e.k = k
    · simp only [hdel, if_pos hk, find]
      rw [if_neg (by omega)]
    · simp only [hdel, if_neg hk, find]
      rw [find_hdel_ne hne es]

theorem find_hdel_some {k j g : Nat} : ∀ (l : List Ent), (l.map Ent.k).Nodup → find (hdel l k) j g ≠ none → find l j g ≠ none
  | [], _ => fun h => h
  | e :: es, hn => by
    intro hf
    by_cases hk : e.k = k
    · simp only [hdel, if_pos hk] at hf
      simp only [find]
      split
      · rename_i hj
        -- 'j' is e's key: it stands nowhere else
        exfalso
        apply hf
        have hnot : j ∉ es.map Ent.k := by
          have := (List.nodup_cons.1 (by simpa using hn : (e.k :: es.map Ent.k).Nodup)).1
          rwa [hj] at this
        clear hf hn
        induction es with
        | nil => rfl
        | cons a as ih =>
          simp only [List.map_cons, List.mem_cons, not_or] at hnot
          simp only [find]
          rw [if_neg (fun h => hnot.1 h.symm)]
          exact ih hnot.2
      · exact hf
    · simp only [hdel, if_neg hk, find] at hf ⊢
      split
      · rename_i hj; rw [if_pos hj] at hf; exact hf
      · rename_i hj; rw [if_neg hj] at hf
        exact find_hdel_some es (by simpa using (List.nodup_cons.1 (by simpa using hn : (e.k :: es.map Ent.k).Nodup)).2) hf

theorem mem_keys_hdel {k j : Nat} : ∀ (l : List Ent), j ∈ (hdel l k).map Ent.k → j ∈ l.map Ent.k
  | [] => fun h => h
  | e :: es => by
    intro h
    by_cases hk : e.k = k
    · simp only [hdel, if_pos hk] at h
      exact List.mem_cons_of_mem _ h
    · simp only [hdel, if_neg hk, List.map_cons, List.mem_cons] at h ⊢
      rcases h with h | h
      · exact .inl h
      · exact .inr (mem_keys_hdel es h)

theorem nodup_hdel {k : Nat} : ∀ (l : List Ent), (l.map Ent.k).Nodup → ((hdel l k).map Ent.k).Nodup
  | [], h => h
  | e :: es, h => by
    have h' : (e.k :: es.map Ent.k).Nodup := by simpa using h
    by_cases hk : e.k = k
    · simp only [hdel, if_pos hk]; exact (List.nodup_cons.1 h').2
    · simp only [hdel, if_neg hk, List.map_cons]
      exact List.nodup_cons.2 ⟨fun hm => (List.nodup_cons.1 h').1 (mem_keys_hdel es hm), nodup_hdel es (List.nodup_cons.1 h').2⟩

theorem not_mem_hdel {k : Nat} : ∀ (l : List Ent), (l.map Ent.k).Nodup → k ∉ (hdel l k).map Ent.k
  | [], _ => by simp [hdel]
  | e :: es, h => by
    have h' : (e.k :: es.map Ent.k).Nodup := by simpa using h
    by_cases hk : e.k = k
    · simp only [hdel, if_pos hk]; rw [← hk]; exact (List.nodup_cons.1 h').1
    · simp only [hdel, if_neg hk, List.map_cons, List.mem_cons, not_or]
      exact ⟨fun e => hk e.symm, not_mem_hdel es (List.nodup_cons.1 h').2⟩

theorem find_mem {k g : Nat} : ∀ (l : List Ent), find l k g ≠ none → k ∈ l.map Ent.k
  | [], h => by simp [find] at h
  | e :: es, h => by
    simp only [find] at h
    by_cases hk : e.k = k
    · simp [hk]
    · rw [if_neg hk] at h
      exact List.mem_cons_of_mem _ (find_mem es h)

theorem find_hdel_eq {k j g : Nat} (l : List Ent) (hn : (l.map Ent.k).Nodup) (hf : find (hdel l k) j g ≠ none) : find l j g = find (hdel l k) j g := by
  by_cases hj : j = k
  · subst hj; exact absurd (find_mem _ hf) (not_mem_hdel l hn)
  · exact (find_hdel_ne hj l).symm

theorem rowAt_find {h : List Ent} {k g x : Nat} (hr : rowAt h k g x ≠ none) : find h k g ≠ none := by
  intro e; apply hr; unfold rowAt; rw [e]

theorem rowAt_eq {h h' : List Ent} {k g x : Nat} (e : find h k g = find h' k g) : rowAt h k g x = rowAt h' k g x := by
  unfold rowAt; rw [e]

section
variable {w : World} {F : Nat → Prop} {h : List Ent} {μ : Nat → Value} {G : Nat}
theorem HOk.has {lo : Nat} {B : Option Nat} {k g : Nat} {b : Blk} : ∀ (l : List Ent) (o : List Nat), HOk w F h μ G lo B l o → find l k g = some b → ∃ o1, EOk w F h μ G lo B ⟨k, g, b⟩ o1 ∧ ∀ c ∈ o1, c ∈ o
  | [], o, r, hf => by simp [find] at hf
  | e :: es, o, ⟨o1, o2, h1, h2, h3⟩, hf => by
    subst h1
    simp only [find] at hf
    by_cases hk : e.k = k
    · rw [if_pos hk] at hf
      by_cases hg : e.g = g
      · rw [if_pos hg] at hf
        obtain rfl : e.b = b := by simpa using hf
        obtain rfl : k = e.k := hk.symm
        obtain rfl : g = e.g := hg.symm
        exact ⟨o1, h2, fun c hc => by simp [hc]⟩
      · rw [if_neg hg] at hf; cases hf
    · rw [if_neg hk] at hf
      obtain ⟨o', h', hm⟩ := HOk.has es o2 h3 hf
      exact ⟨o', h', fun c hc => by simp [hm c hc]⟩


/-- The block of a list of lists. -/
theorem HOk.rowBlk {lo : Nat} {B : Option Nat} {l : List Ent} {o : List Nat} (hok : HOk w F h μ G lo B l o) {k g x : Nat} (hr : rowAt l k g x ≠ none) {b n c : Nat} (hm : μ g = .slice (some ⟨b, 0, none⟩) n c) : b ∈ o ∧ b < w.heap.size := by
  unfold rowAt at hr
  split at hr
  · rename_i blk hf
    obtain ⟨o1, he, hin⟩ := hok.has l o hf
    cases blk with
    | cells cs => simp [rowB] at hr
    | arr sz xs =>
      have ho := he.2
      simp only at ho
      rw [hm] at ho
      cases ho with
      | base _ _ r => cases r
      | olist _ _ vs os _ cap cur E h1 h2 h3 h4 h5 h6 h7 h8 h9 => exact ⟨hin b (by simp), (Array.getElem?_eq_some_iff.1 h4).1⟩
  · exact absurd rfl hr
end

/-- An entry laid in where one of its key stands. -/
theorem HOk.set {w : World} {F : Nat → Prop} {h : List Ent} {μ : Nat → Value} {G lo : Nat} {B : Option Nat} {k g g' : Nat} {b b' : Blk} {o' : List Nat} (he : EOk w F h μ G lo B ⟨k, g', b'⟩ o') :
    ∀ (l : List Ent) (rest : List Nat), find l k g = some b → HOk w F h μ G lo B (hdel l k) rest → (o' ++ rest).Nodup →
      ∃ o, HOk w F h μ G lo B (hset l k g' b') o ∧ o.Nodup ∧ ∀ c, c ∈ o ↔ c ∈ o' ++ rest
  | [], rest, hf, r, _ => by simp [find] at hf
  | e :: es, rest, hf, r, hn => by
    simp only [find] at hf
    by_cases hk : e.k = k
    · simp only [hdel, if_pos hk] at r
      simp only [hset, if_pos hk]
      exact ⟨o' ++ rest, ⟨o', rest, rfl, he, r⟩, hn, fun c => Iff.rfl⟩
    · rw [if_neg hk] at hf
      simp only [hdel, if_neg hk] at r
      obtain ⟨o1, o2, rfl, h2, h3⟩ := r
      have hn2 : (o' ++ o2).Nodup := by
        rw [List.nodup_append] at hn ⊢
        exact ⟨hn.1, (List.nodup_append.1 hn.2.1).2.1, fun a ha b hb => hn.2.2 a ha b (by simp [hb])⟩
      obtain ⟨o, ho, hnd, hmem⟩ := HOk.set he es o2 hf h3 hn2
      simp only [hset, if_neg hk]
      refine ⟨o1 ++ o, ⟨o1, o, rfl, h2, ho⟩, ?_, ?_⟩
      · rw [List.nodup_append]
        refine ⟨(List.nodup_append.1 (List.nodup_append.1 hn).2.1).1, hnd, fun a ha b hb => ?_⟩
        rcases List.mem_append.1 ((hmem b).1 hb) with hb | hb
        · exact fun e => (List.nodup_append.1 hn).2.2 b hb a (by simp [ha]) e.symm
        · exact (List.nodup_append.1 (List.nodup_append.1 hn).2.1).2.2 a ha b hb
      · intro c
        simp only [List.mem_append, hmem c]
        constructor
        · rintro (h | h | h)
          · exact .inr (.inl h)
          · exact .inl h
          · exact .inr (.inr h)
        · rintro (h | h | h)
          · exact .inr (.inl h)
          · exact .inl h
          · exact .inr (.inr h)

theorem map_k_hset {k g' : Nat} {b' : Blk} : ∀ (l : List Ent), (hset l k g' b').map Ent.k = l.map Ent.k
  | [] => rfl
  | e :: es => by
    by_cases hk : e.k = k
    · simp [hset, if_pos hk, hk]
    · simp [hset, if_neg hk, map_k_hset es]

/-- What is known of memory between two operations. -/
structure HInv (w0 : World) (Fo : Nat → Prop) (B : Option Nat) (w : World) (h : List Ent) (μ : Nat → Value) (G : Nat) (o : List Nat) : Prop where
  grown : w0.grownBy w B
  out : ∀ b, Fo b → b < w0.heap.size
  hok : HOk w (fun b => b ∈ o ∨ Fo b) h μ G w0.heap.size B h o
  nodup : o.Nodup
  keys : (h.map Ent.k).Nodup

abbrev FF (o : List Nat) (Fo : Nat → Prop) : Nat → Prop := fun b => b ∈ o ∨ Fo b

/-- From one moment of the run to a later one. -/
def Out (w0 : World) (Fo : Nat → Prop) (B : Option Nat) (w : World) (h : List Ent) (μ : Nat → Value) (G : Nat) (o : List Nat) (w' : World) (h' : List Ent) (μ' : Nat → Value) (G' : Nat) (o' : List Nat) : Prop :=
  HInv w0 Fo B w' h' μ' G' o' ∧ Evo w (FF o Fo) h μ G w' (FF o' Fo) h' μ' G'

theorem Out.trans {w0 : World} {Fo : Nat → Prop} {B : Option Nat} {w w' w'' : World} {h h' h'' : List Ent} {μ μ' μ'' : Nat → Value} {G G' G'' : Nat} {o o' o'' : List Nat}
    (a : Out w0 Fo B w h μ G o w' h' μ' G' o') (b : Out w0 Fo B w' h' μ' G' o' w'' h'' μ'' G'' o'') : Out w0 Fo B w h μ G o w'' h'' μ'' G'' o'' :=
  ⟨b.1, a.2.trans b.2⟩

theorem grownBy.trans {w w' w'' : World} {B : Option Nat} (a : w.grownBy w' B) (b : w'.grownBy w'' B) : w.grownBy w'' B :=
  ⟨b.os.trans a.os, b.tape.trans a.tape, b.output.trans a.output, Nat.le_trans a.size b.size, fun k hk hn => (b.block k (Nat.lt_of_lt_of_le hk a.size) hn).trans (a.block k hk hn)⟩

theorem grownBy.weak {w w' : World} {B : Option Nat} (a : w.grownBy w' none) : w.grownBy w' B :=
  ⟨a.os, a.tape, a.output, a.size, fun k hk _ => a.block k hk (by simp)⟩

section
variable {w0 : World} {Fo : Nat → Prop} {B : Option Nat} {w : World} {h : List Ent} {μ : Nat → Value} {G : Nat} {o : List Nat}

theorem HInv.refl (I : HInv w0 Fo B w h μ G o) : Out w0 Fo B w h μ G o w h μ G o := ⟨I, .refl ..⟩

theorem HInv.blk (I : HInv w0 Fo B w h μ G o) : ∀ b, FF o Fo b → b < w.heap.size := fun b hb => by
  rcases hb with hb | hb
  · exact (I.hok.lt _ _ b hb).2
  · exact Nat.lt_of_lt_of_le (I.out b hb) I.grown.size

/-- Nothing that was there has turned. -/
theorem HInv.quiet (I : HInv w0 Fo B w h μ G o) {w' : World} (g : w.grownBy w' none) : Out w0 Fo B w h μ G o w' h μ G o := by
  have ev : Evo w (FF o Fo) h μ G w' (FF o Fo) h μ G :=
    ⟨⟨fun _ h _ => h, fun b hb _ => g.block b hb (by simp), g.size⟩, Nat.le_refl _, fun _ _ => rfl, fun _ _ _ h => h,
      fun _ _ _ _ hr => ⟨hr, fun b _ _ hm => cell?_of_heap (g.block b (I.hok.rowBlk hr hm).2 (by simp))⟩⟩
  exact ⟨⟨grownBy.trans I.grown (grownBy.weak g), I.out, HOk.evo ev _ _ I.hok (fun b hb => g.block b (I.hok.lt _ _ b hb).2 (by simp)), I.nodup, I.keys⟩, ev⟩

theorem HInv.drop (I : HInv w0 Fo B w h μ G o) (k : Nat) : ∃ o', Out w0 Fo B w h μ G o w (hdel h k) μ G o' ∧ ∀ c ∈ o', c ∈ o := by
  obtain ⟨rest, hr, hnd, hmem⟩ := HOk.del k h o I.hok I.nodup
  have ev : Evo w (FF o Fo) h μ G w (FF rest Fo) (hdel h k) μ G :=
    ⟨⟨fun b hb _ => hb.imp (hmem b) id, fun _ _ _ => rfl, Nat.le_refl _⟩, Nat.le_refl _, fun _ _ => rfl, fun _ _ _ hf => find_hdel_some h I.keys hf,
      fun _ _ _ _ hr => ⟨by rw [rowAt_eq (find_hdel_eq h I.keys (rowAt_find hr))]; exact hr, fun _ _ _ _ => rfl⟩⟩
  exact ⟨rest, ⟨⟨I.grown, I.out, HOk.evo ev _ _ hr (fun _ _ => rfl), hnd, nodup_hdel h I.keys⟩, ev⟩, hmem⟩

theorem HInv.drops : ∀ (ks : List Nat) {h : List Ent} {o : List Nat}, HInv w0 Fo B w h μ G o → ∃ o', Out w0 Fo B w h μ G o w (hdels h ks) μ G o' ∧ ∀ c ∈ o', c ∈ o
  | [], h, o, I => ⟨o, I.refl, fun _ h => h⟩
  | k :: ks, h, o, I => by
    obtain ⟨o1, h1, m1⟩ := I.drop k
    obtain ⟨o2, h2, m2⟩ := HInv.drops ks h1.1
    exact ⟨o2, Out.trans h1 h2, fun c hc => m1 c (m2 c hc)⟩

def upd (μ : Nat → Value) (g : Nat) (v : Value) : Nat → Value := fun x => if x = g then v else μ x

theorem upd_self (μ : Nat → Value) (g : Nat) (v : Value) : upd μ g v g = v := by simp [upd]
theorem upd_lt {μ : Nat → Value} {g x : Nat} (v : Value) (h : x < g) : upd μ g v x = μ x := by simp [upd, Nat.ne_of_lt h]

theorem HOk.append {w : World} {F : Nat → Prop} {h : List Ent} {μ : Nat → Value} {G lo : Nat} {B : Option Nat} :
    ∀ (a b : List Ent) (o1 o2 : List Nat), HOk w F h μ G lo B a o1 → HOk w F h μ G lo B b o2 → HOk w F h μ G lo B (a ++ b) (o1 ++ o2)
  | [], b, o1, o2, h1, h2 => by cases h1; simpa using h2
  | e :: a, b, o1, o2, ⟨p, q, h1, h2, h3⟩, hb => by
    subst h1
    exact ⟨p, q ++ o2, by simp, h2, HOk.append a b q o2 h3 hb⟩

theorem find_append {k g : Nat} : ∀ (a b : List Ent), (∀ e ∈ a, e.g ≠ g) → find (a ++ b) k g ≠ none → find b k g ≠ none ∧ find (a ++ b) k g = find b k g
  | [], b, _ => fun h => ⟨h, rfl⟩
  | e :: a, b, hg => by
    intro hf
    simp only [List.cons_append, find] at hf ⊢
    split at hf
    · rw [if_neg (hg e (by simp))] at hf; exact absurd rfl hf
    · rename_i hk
      rw [if_neg hk]
      exact find_append a b (fun e he => hg e (by simp [he])) hf

/-- New blocks of the run's own, in front of what is kept of the elder ones ('hA'). -/
theorem HInv.adds (I : HInv w0 Fo B w h μ G o) {hA : List Ent} {rest : List Nat} (hok : HOk w (FF o Fo) h μ G w0.heap.size B hA rest) (hro : ∀ c ∈ rest, c ∈ o)
    (hsub : ∀ j γ, find hA j γ ≠ none → find h j γ = find hA j γ) {w' : World} (gr : w0.grownBy w' B) (hsz : w.heap.size ≤ w'.heap.size)
    (hkeep : ∀ c, c < w.heap.size → c ∉ o → w'.heap[c]? = w.heap[c]?) (hkeep2 : ∀ c ∈ rest, w'.heap[c]? = w.heap[c]?)
    (es : List Ent) (own1 : List Nat) (hkeys : ((es ++ hA).map Ent.k).Nodup) (hnd : (own1 ++ rest).Nodup) (hfr : ∀ c ∈ own1, c ∈ o ∨ w.heap.size ≤ c)
    (μ' : Nat → Value) (G' : Nat) (hG : G ≤ G') (hμ : ∀ x, x < G → μ' x = μ x) (hgen : ∀ e ∈ es, G ≤ e.g)
    (he : Evo w (FF o Fo) h μ G w' (FF (own1 ++ rest) Fo) (es ++ hA) μ' G' → HOk w' (FF (own1 ++ rest) Fo) (es ++ hA) μ' G' w0.heap.size B es own1) :
    Out w0 Fo B w h μ G o w' (es ++ hA) μ' G' (own1 ++ rest) := by
  have ev : Evo w (FF o Fo) h μ G w' (FF (own1 ++ rest) Fo) (es ++ hA) μ' G' := by
    refine ⟨⟨fun c hc hl => ?_, fun c hl hn => hkeep c hl (fun h1 => hn (.inl h1)), hsz⟩, hG, hμ, fun j g hg hf => by
      have h1 := (find_append es hA (fun e he => by have := hgen e he; omega) hf).1
      rw [hsub j g h1]; exact h1, fun j g x hg hr => ?_⟩
    case refine_2 =>
      obtain ⟨h1, h2⟩ := find_append es hA (fun e he => by have := hgen e he; omega) (rowAt_find hr)
      rw [rowAt_eq h2] at hr
      refine ⟨by rw [rowAt_eq (hsub j g h1)]; exact hr, fun b n c hm => cell?_of_heap (hkeep2 b (hok.rowBlk hr hm).1)⟩
    rcases hc with hc | hc
    · rcases List.mem_append.1 hc with hc | hc
      · rcases hfr c hc with h1 | h1
        · exact .inl h1
        · omega
      · exact .inl (hro c hc)
    · exact .inr hc
  exact ⟨⟨gr, I.out, HOk.append _ _ _ _ (he ev) (HOk.evo ev _ _ hok hkeep2), hnd, hkeys⟩, ev⟩

theorem find_hset_ne {k g g' j γ G : Nat} {b b' : Blk} (hg' : g' = g ∨ g' = G) (hγ : γ < G) : ∀ l : List Ent, find l k g = some b → find (hset l k g' b') j γ ≠ none → find l j γ ≠ none
  | [] => fun h => by simp [find] at h
  | e :: es => by
    intro hfl
    simp only [find] at hfl
    by_cases hk : e.k = k
    · rw [if_pos hk] at hfl
      have hge : e.g = g := by
        by_cases hge : e.g = g
        · exact hge
        · rw [if_neg hge] at hfl; cases hfl
      simp only [hset, if_pos hk, find]
      by_cases hj : k = j
      · rw [if_pos hj, if_pos (hk.trans hj)]
        intro h1
        by_cases hgg : g' = γ
        · rcases hg' with h2 | h2
          · rw [if_pos (by omega)]; simp
          · omega
        · rw [if_neg hgg] at h1; exact absurd rfl h1
      · rw [if_neg hj, if_neg (by omega)]; exact id
    · rw [if_neg hk] at hfl
      simp only [hset, if_neg hk, find]
      split
      · exact id
      · exact find_hset_ne hg' hγ es hfl

theorem find_hset_self {k g g' γ : Nat} {b b' : Blk} : ∀ l : List Ent, find l k g = some b → find (hset l k g' b') k γ = if g' = γ then some b' else none
  | [], h => by simp [find] at h
  | e :: es, h => by
    by_cases hk : e.k = k
    · simp [hset, if_pos hk, find]
    · simp only [find, if_neg hk] at h
      simp only [hset, if_neg hk, find]
      exact find_hset_self es h

theorem find_hset_other {k j g' γ : Nat} {b' : Blk} (hj : j ≠ k) : ∀ l : List Ent, find (hset l k g' b') j γ = find l j γ
  | [] => rfl
  | e :: es => by
    by_cases hk : e.k = k
    · simp only [hset, if_pos hk, find]
      rw [if_neg (by omega), if_neg (by omega)]
    · simp only [hset, if_neg hk, find]
      rw [find_hset_other hj es]

/-- A block of the run's own is laid anew: in its place, or with a new number. -/
theorem HInv.replace (I : HInv w0 Fo B w h μ G o) {hA : List Ent} (hkA : (hA.map Ent.k).Nodup) (hsub : ∀ j γ, find hA j γ ≠ none → find h j γ = find hA j γ) {k g : Nat} {b : Blk} (hf : find hA k g = some b) {rest : List Nat}
    (hrest : HOk w (FF o Fo) h μ G w0.heap.size B (hdel hA k) rest) (hro : ∀ c ∈ rest, c ∈ o)
    {w' : World} (gr : w0.grownBy w' B) (hsz : w.heap.size ≤ w'.heap.size) (hkeep : ∀ c, c < w.heap.size → c ∉ o → w'.heap[c]? = w.heap[c]?) (hkeep2 : ∀ c ∈ rest, w'.heap[c]? = w.heap[c]?)
    (b' : Blk) (o' : List Nat) (hnd : (o' ++ rest).Nodup) (hfr : ∀ c ∈ o', c ∈ o ∨ w.heap.size ≤ c) (g' G' : Nat) (μ' : Nat → Value)
    (hg : (g' = g ∧ G' = G ∧ μ' = μ ∧ ∀ x, rowB b' x ≠ none → rowB b x ≠ none ∧ ∀ bb n c : Nat, μ g = .slice (some ⟨bb, 0, none⟩) n c → w'.cell? ⟨bb, x, none⟩ = w.cell? ⟨bb, x, none⟩) ∨ ∃ v, g' = G ∧ G' = G + 1 ∧ μ' = upd μ G v)
    (he : ∀ o'', (∀ c, c ∈ o'' ↔ c ∈ o' ++ rest) → Evo w (FF o Fo) h μ G w' (FF o'' Fo) (hset hA k g' b') μ' G' →
      EOk w' (FF o'' Fo) (hset hA k g' b') μ' G' w0.heap.size B ⟨k, g', b'⟩ o') :
    ∃ o'', (∀ c, c ∈ o'' ↔ c ∈ o' ++ rest) ∧ Out w0 Fo B w h μ G o w' (hset hA k g' b') μ' G' o'' := by
  have hEvo : ∀ o'', (∀ c, c ∈ o'' ↔ c ∈ o' ++ rest) → Evo w (FF o Fo) h μ G w' (FF o'' Fo) (hset hA k g' b') μ' G' := by
    intro o'' hm
    refine ⟨⟨fun c hc hl => ?_, fun c hl hn => hkeep c hl (fun h1 => hn (.inl h1)), hsz⟩, ?_, ?_, ?_, ?_⟩
    · rcases hc with hc | hc
      · rcases List.mem_append.1 ((hm c).1 hc) with hc | hc
        · rcases hfr c hc with h1 | h1
          · exact .inl h1
          · omega
        · exact .inl (hro c hc)
      · exact .inr hc
    · rcases hg with ⟨_, rfl, _⟩ | ⟨v, _, rfl, _⟩ <;> omega
    · rcases hg with ⟨_, _, rfl, _⟩ | ⟨v, _, _, rfl⟩
      · exact fun _ _ => rfl
      · exact fun x hx => upd_lt v hx
    · intro j γ hγ hne
      have hg' : g' = g ∨ g' = G := by rcases hg with ⟨h1, _⟩ | ⟨_, h1, _⟩ <;> simp [h1]
      have h1 := find_hset_ne hg' hγ hA hf hne
      rw [hsub j γ h1]; exact h1
    · intro j γ x hγ hr
      by_cases hj : j = k
      · subst hj
        have e1 : find (hset hA j g' b') j γ = if g' = γ then some b' else none := find_hset_self hA hf
        rcases hg with ⟨h1, _, _, h4⟩ | ⟨_, h1, _⟩
        · subst h1
          by_cases hgg : g' = γ
          · subst hgg
            rw [if_pos rfl] at e1
            have hr' : rowB b' x ≠ none := by unfold rowAt at hr; rw [e1] at hr; exact hr
            obtain ⟨h5, h6⟩ := h4 x hr'
            refine ⟨?_, h6⟩
            unfold rowAt
            rw [hsub j g' (by rw [hf]; simp), hf]
            exact h5
          · rw [if_neg hgg] at e1
            exact absurd e1 (rowAt_find hr)
        · rw [if_neg (by omega)] at e1
          exact absurd e1 (rowAt_find hr)
      · have e1 : find (hset hA k g' b') j γ = find hA j γ := find_hset_other hj hA
        rw [rowAt_eq e1] at hr
        refine ⟨by rw [rowAt_eq (hsub j γ (rowAt_find hr))]; exact hr, fun bb n c hm => ?_⟩
        rw [rowAt_eq (find_hdel_ne hj hA).symm] at hr
        exact cell?_of_heap (hkeep2 bb (hrest.rowBlk hr hm).1)
  obtain ⟨o'', ho, hnd'', hm⟩ := HOk.set (w := w') (F := FF (o' ++ rest) Fo) (h := hset hA k g' b') (μ := μ') (G := G') (lo := w0.heap.size) (B := B) (k := k) (g := g) (g' := g') (b := b) (b' := b') (o' := o')
    (he (o' ++ rest) (fun c => Iff.rfl) (hEvo _ (fun c => Iff.rfl))) hA rest hf (HOk.evo (hEvo (o' ++ rest) (fun c => Iff.rfl)) _ _ hrest hkeep2) hnd
  refine ⟨o'', hm, ⟨⟨gr, I.out, ?_, hnd'', by rw [map_k_hset]; exact hkA⟩, hEvo o'' hm⟩⟩
  have e : FF (o' ++ rest) Fo = FF o'' Fo := by
    funext c; simp only [FF, hm c]
  have ho2 := ho
  rw [e] at ho2
  exact ho2

/-- An entry taken out of the run's own: what it owned is nobody's. -/
theorem HInv.takeOut (I : HInv w0 Fo B w h μ G o) {k g : Nat} {b : Blk} (hf : find h k g = some b) :
    ∃ o1 rest, EOk w (FF o Fo) h μ G w0.heap.size B ⟨k, g, b⟩ o1 ∧ HOk w (FF o Fo) h μ G w0.heap.size B (hdel h k) rest ∧ (o1 ++ rest).Nodup ∧ (∀ c ∈ o1 ++ rest, c ∈ o) ∧
      Out w0 Fo B w h μ G o w (hdel h k) μ G rest := by
  obtain ⟨o1, rest, he, hr, hnd, hmem⟩ := HOk.take h o I.hok hf I.nodup
  have ev : Evo w (FF o Fo) h μ G w (FF rest Fo) (hdel h k) μ G :=
    ⟨⟨fun b hb _ => hb.imp (fun hb => (hmem b).2 (by simp [hb])) id, fun _ _ _ => rfl, Nat.le_refl _⟩, Nat.le_refl _, fun _ _ => rfl, fun _ _ _ hf => find_hdel_some h I.keys hf,
      fun _ _ _ _ hr => ⟨by rw [rowAt_eq (find_hdel_eq h I.keys (rowAt_find hr))]; exact hr, fun _ _ _ _ => rfl⟩⟩
  exact ⟨o1, rest, he, hr, hnd, fun c hc => (hmem c).2 hc, ⟨I.grown, I.out, HOk.evo ev _ _ hr (fun _ _ => rfl), (List.nodup_append.1 hnd).2.1, nodup_hdel h I.keys⟩, ev⟩

end

end Go.PS
