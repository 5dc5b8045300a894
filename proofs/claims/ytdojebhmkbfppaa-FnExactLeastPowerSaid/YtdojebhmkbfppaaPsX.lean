/- The clean table of types, read off the program. -/
import Derived.Test.YtdojebhmkbfppaaPsW
set_option linter.unusedVariables false
set_option linter.unusedSimpArgs false
set_option linter.unusedSectionVars false
namespace Go.PS

def zd0 : Value → Option D
  | .bool b => some (.bool b)
  | .int k n => some (.int k n)
  | .string s => some (.str s.data.toList)
  | .slice none 0 0 => some .nil
  | _ => none

def zd : Value → Option D
  | .agg vs => (vs.toList.mapM zd0).map .agg
  | v => zd0 v

def kdOf (P : Program) : TypeDesc → Kd
  | .int k => .int k
  | .bool => .bool
  | .string => .str
  | .slice e => .slice e
  | .pointer e => .ptr e
  | .func .. => .func
  | .struct fields => if (fields.toList.all fun f => (P.info? f.type).isSome) = true then .struct (fields.toList.map fun f => (f.offset, f.type)) else .other
  | _ => .other

def fitsB (kd : Kd) (sz : Nat) : D → Bool
  | .agg xs => (match kd with | .struct _ => true | _ => false) && xs.length == sz
  | d => (match kd with | .struct _ | .other => false | _ => true) && sz == 1 && isCell d

def zeroOf (kd : Kd) (sz : Nat) (z : Option Value) : Option D :=
  match z.bind zd with
  | some d => if (fitsB kd sz d && pureD 5 d) = true then some d else none
  | none => none

def tyOf (P : Program) (T : Nat) : Ty :=
  match P.info? T with
  | none => ⟨.other, 0, 0, none⟩
  | some i => if i.bytes ≤ 64 then
      let kd := match P.underlying T with | some d => kdOf P d | none => .other
      ⟨kd, i.size, i.bytes, zeroOf kd i.size i.zero⟩
    else ⟨.other, i.size, i.bytes, none⟩

theorem zd0_rep {v : Value} {d : D} (h : zd0 v = some d) (w : World) (F : Nat → Prop) : Rep w F d v ∧ v.oneCell' = true := by
  unfold zd0 at h
  split at h
  · injection h with h; subst h; exact ⟨.bool _, rfl⟩
  · injection h with h; subst h; exact ⟨.int _ _, rfl⟩
  · rename_i s
    injection h with h; subst h
    have := Rep.str (w := w) (F := F) s.data.toList
    exact ⟨by simpa using this, rfl⟩
  · injection h with h; subst h; exact ⟨.nil, rfl⟩
  · cases h

theorem mapM_zd0 {w : World} {F : Nat → Prop} : ∀ (vs : List Value) (ds : List D), vs.mapM zd0 = some ds → vs.length = ds.length ∧ (∀ (i : Nat) (d : D) (v : Value), ds[i]? = some d → vs[i]? = some v → Rep w F d v) ∧ Ones vs
  | [], ds, h => by
    simp at h
    subst h
    exact ⟨rfl, by simp, by simp [Ones]⟩
  | v :: vs, ds, h => by
    rw [List.mapM_cons] at h
    cases h1 : zd0 v with
    | none => rw [h1] at h; cases h
    | some d =>
      rw [h1] at h
      cases h2 : vs.mapM zd0 with
      | none => rw [h2] at h; cases h
      | some ds' =>
        rw [h2] at h
        obtain rfl : d :: ds' = ds := by simpa using h
        obtain ⟨q1, q2, q3⟩ := mapM_zd0 (w := w) (F := F) vs ds' h2
        obtain ⟨r1, r2⟩ := zd0_rep h1 w F
        refine ⟨by simp [q1], fun i d' v' hd hv => ?_, fun v' hv => ?_⟩
        · cases i with
          | zero =>
            obtain rfl : d = d' := by simpa using hd
            obtain rfl : v = v' := by simpa using hv
            exact r1
          | succ i => exact q2 i d' v' (by simpa using hd) (by simpa using hv)
        · rcases List.mem_cons.1 hv with rfl | hv
          · exact r2
          · exact q3 v' hv

theorem zd_rep {v : Value} {d : D} (h : zd v = some d) (w : World) (F : Nat → Prop) : Rep w F d v := by
  unfold zd at h
  split at h
  · rename_i vs
    cases h1 : vs.toList.mapM zd0 with
    | none => rw [h1] at h; cases h
    | some ds =>
      rw [h1] at h
      obtain rfl : D.agg ds = d := by simpa using h
      obtain ⟨q1, q2, q3⟩ := mapM_zd0 (w := w) (F := F) _ _ h1
      have := Rep.agg (w := w) (F := F) ds vs.toList q1 q2 q3
      simpa using this
  · exact (zd0_rep h w F).1

theorem tyOf_kd {P : Program} {T : Nat} {k : Kd} (h : (tyOf P T).kd = k) (hk : k ≠ .other) : ∃ i d, P.info? T = some i ∧ i.bytes ≤ 64 ∧ P.underlying T = some d ∧ kdOf P d = k ∧ tyOf P T = ⟨k, i.size, i.bytes, zeroOf k i.size i.zero⟩ := by
  unfold tyOf at h ⊢
  split at h
  · exact absurd h.symm hk
  · rename_i i hi
    split at h
    · rename_i hb
      simp only [] at h
      cases hu : P.underlying T with
      | none => rw [hu] at h; exact absurd h.symm hk
      | some d =>
        rw [hu] at h
        simp only [] at h
        refine ⟨i, d, hi, hb, rfl, h, ?_⟩
        rw [if_pos hb]
        subst h
        rfl
    · exact absurd h.symm hk

theorem tyOf_sz {P : Program} {T : Nat} {i : TypeInfo} (h : P.info? T = some i) : (tyOf P T).sz = i.size := by
  unfold tyOf
  rw [h]
  simp only []
  split <;> rfl

theorem mapM_some {α β : Type} {f : α → Option β} {g : α → β} : ∀ (l : List α), (∀ x ∈ l, f x = some (g x)) → l.mapM f = some (l.map g)
  | [], _ => rfl
  | x :: l, h => by
    rw [List.mapM_cons, h x (by simp), mapM_some l (fun y hy => h y (by simp [hy]))]
    rfl

theorem tyOf_ok (P : Program) : TyOk P (tyOf P) where
  int T k h := by
    obtain ⟨i, d, h1, h2, h3, h4, h5⟩ := tyOf_kd h (by simp)
    cases d <;> simp [kdOf] at h4 <;> first | (subst h4; exact h3) | (split at h4 <;> simp at h4)
  bool T h := by
    obtain ⟨i, d, h1, h2, h3, h4, h5⟩ := tyOf_kd h (by simp)
    cases d <;> simp [kdOf] at h4 <;> first | exact h3 | (split at h4 <;> simp at h4)
  str T h := by
    obtain ⟨i, d, h1, h2, h3, h4, h5⟩ := tyOf_kd h (by simp)
    cases d <;> simp [kdOf] at h4 <;> first | exact h3 | (split at h4 <;> simp at h4)
  slice T e h := by
    obtain ⟨i, d, h1, h2, h3, h4, h5⟩ := tyOf_kd h (by simp)
    cases d <;> simp [kdOf] at h4 <;> first | (subst h4; exact h3) | (split at h4 <;> simp at h4)
  ptr T e h := by
    obtain ⟨i, d, h1, h2, h3, h4, h5⟩ := tyOf_kd h (by simp)
    cases d <;> simp [kdOf] at h4 <;> first | (subst h4; exact h3) | (split at h4 <;> simp at h4)
  func T h := by
    obtain ⟨i, d, h1, h2, h3, h4, h5⟩ := tyOf_kd h (by simp)
    cases d <;> simp [kdOf] at h4 <;> first | exact ⟨_, _, _, h3⟩ | (split at h4 <;> simp at h4)
  struct T fs h := by
    obtain ⟨i, d, h1, h2, h3, h4, h5⟩ := tyOf_kd h (by simp)
    cases d with
    | struct fields =>
      simp only [kdOf] at h4
      split at h4
      · rename_i hall
        injection h4 with h4
        subst h4
        refine ⟨fields, h3, fun i => ?_, ?_⟩
        · rw [List.getElem?_map]
          simp
        · rw [List.map_map]
          refine mapM_some _ (fun f hf => ?_)
          have := List.all_eq_true.1 hall f hf
          obtain ⟨j, hj⟩ := Option.isSome_iff_exists.1 this
          simp only [hj, Option.map_some, Function.comp, tyOf_sz hj]
      · cases h4
    | _ => simp [kdOf] at h4
  info T h := by
    obtain ⟨i, d, h1, h2, h3, h4, h5⟩ := tyOf_kd rfl h
    refine ⟨i, h1, by rw [h5], by rw [h5], by rw [h5]; exact h2, fun z hz => ?_⟩
    rw [h5] at hz ⊢
    simp only [zeroOf] at hz
    split at hz
    · rename_i dz hdz
      split at hz
      · rename_i hc
        injection hz with hz
        subst hz
        rw [Bool.and_eq_true] at hc
        cases hiz : i.zero with
        | none => rw [hiz] at hdz; cases hdz
        | some zv =>
          rw [hiz] at hdz
          refine ⟨⟨zv, rfl, fun w F => zd_rep hdz w F⟩, ?_, hc.2⟩
          have hf := hc.1
          unfold fitsB at hf
          unfold fitsT Ty.isStruct Ty.flat
          split at hf
          · rw [Bool.and_eq_true] at hf
            exact ⟨hf.1, by simpa using hf.2⟩
          · rename_i hne
            rw [Bool.and_eq_true, Bool.and_eq_true] at hf
            split
            · rename_i xs; exact absurd rfl (hne xs)
            · exact ⟨hf.1.1, by simpa using hf.1.2, hf.2⟩
      · cases hz
    · cases hz

end Go.PS
