import Derived.Test.YtmmimgjakoacaaaLib3
import Derived.LoopN
import Derived.WalkKit
import Derived.ProofKit
import Derived.OpenShut
import Derived.ChangeOld
import Derived.Carry
import Derived.ChangeShapes
import Derived.WideShapes
import Derived.Deep.Slices
import Derived.IntWalk
namespace Go.Lift
open Go
variable {P : Program} {E : Env}
theorem look_ins (k : Nat) (x : Option Row) (i : Nat) : ∀ l : List (Nat × Option Row), look (insRow (k, x) l) i = if k = i then some x else look l i := by
  intro l
  induction l with
  | nil => rw [insRow, look_cons]
  | cons y l ih =>
    obtain ⟨j, y⟩ := y
    simp only [insRow]
    cases hb : Nat.blt j k with
    | true =>
      have hlt : j < k := by simpa using hb
      rw [cond_true, look_cons, ih, look_cons]
      by_cases e : j = i
      · subst e
        rw [if_pos rfl, if_neg (by omega), if_pos rfl]
      · rw [if_neg e, if_neg e]
    | false => rw [cond_false, look_cons]
theorem fixed_look : ∀ (l : List (Nat × Option Row)) (seen : List Nat) (id : Nat), look (fixedRows l seen) id =
    if id ∈ seen then none else match (look l id).join with | some r => if r.k = .fixed then some (some r) else none | none => none := by
  intro l
  induction l with
  | nil => intro seen id; simp [fixedRows, look]
  | cons x l ih =>
    intro seen id
    obtain ⟨k, x⟩ := x
    rw [show look ((k, x) :: l) id = if k = id then some x else look l id from look_cons _ _ _ _]
    cases x with
    | none =>
      simp only [fixedRows]
      rw [ih]
      by_cases e : k = id
      · subst e; simp
      · have e' : ¬ id = k := fun h => e h.symm
        simp [e, e']
    | some r =>
      simp only [fixedRows]
      by_cases hs : k ∈ seen
      · have : seen.elem k = true := by simpa using hs
        rw [this, cond_true, ih]
        by_cases e : k = id
        · subst e; simp [hs]
        · simp [e]
      · have : seen.elem k = false := by simpa using hs
        rw [this, cond_false]
        by_cases e : k = id
        · subst e
          cases hk : r.k <;> simp [hk, ih, hs, look_ins]
        · have e' : ¬ id = k := fun h => e h.symm
          cases r.k <;> simp [ih, e, e', look_ins]
def CS.st (s : CS) : ASt := ⟨s.slots, s.rows⟩
/-- What holds while a state is cleaned. -/
structure Cln (C : Entry) (w : World) (S : Nat → Prop) (γ : Gam) (st : ASt) (tmps : Array Value) (F : Prop) (s : CS) (γ' : Gam) : Prop where
  good : Good C w S γ' s.st tmps
  named : ∀ i av, look s.slots i = some av → ∀ id ∈ AV.ids (some av), ∃ r, s.st.row id = some r
  used : ∀ n r b p, s.st.row n = some r → γ' n = some (b, p) → ∃ m r0 q, st.row m = some r0 ∧ γ m = some (b, q) ∧ (r0.k = .fixed ∨ ∃ x, look s.ren m = some x)
  ren : ∀ m n, look s.ren m = some (some n) → (∃ r r', st.row m = some r ∧ s.st.row n = some r' ∧ (r' = r ∨ ∃ L, r.k = .var L)) ∧ γ' n = γ m
  fix : F → ∀ id r, st.row id = some r → r.k = .fixed → s.st.row id = some r ∧ γ' id = γ id
  inner : ∀ id r L, s.st.row id = some r → r.k = .var L → ∀ j ∈ leafIds L, ∃ r', s.st.row j = some r'
section
variable {C : Entry} {w : World} {S : Nat → Prop} {γ : Gam} {st : ASt} {tmps : Array Value}
theorem Cln.start {tmps0 : Array Value} (hg : Good C w S γ st tmps0) {F : Prop} {l : List (Nat × Option Row)} (sub : ∀ id r, (CS.st ⟨[], l, []⟩).row id = some r → st.row id = some r ∧ r.k = .fixed)
    (hF : F → ∀ id r, st.row id = some r → r.k = .fixed → (CS.st ⟨[], l, []⟩).row id = some r) : Cln C w S γ st tmps F ⟨[], l, []⟩ γ := by
  refine ⟨⟨⟨fun i av h => ?_, fun id r h => hg.rel.rows id r (sub id r h).1, fun i j r r' b p q h1 h2 => hg.rel.inj i j r r' b p q (sub _ _ h1).1 (sub _ _ h2).1, hg.rel.lt, fun id r L h1 h2 => by rw [(sub id r h1).2] at h2; cases h2⟩,
    ⟨hg.fr.size, hg.fr.os, hg.fr.tape, hg.fr.output, hg.fr.block, hg.fr.blk, hg.fr.s1, hg.fr.s2, fun id r b p h => hg.fr.rows id r b p (sub id r h).1, fun id r h => hg.fr.fix id r (sub id r h).1, hg.fr.gw, fun id r L h => hg.fr.pv id r L (sub id r h).1⟩⟩,
    fun i av h => ?_, fun n r b p h1 h2 => ⟨n, r, p, (sub _ _ h1).1, h2, .inl (sub _ _ h1).2⟩, fun m n h => ?_, fun hf id r h1 h2 => ⟨hF hf id r h1 h2, rfl⟩, fun id r L h1 h2 => by rw [(sub id r h1).2] at h2; cases h2⟩
  · cases h
  · cases h
  · cases h
theorem Cln.begin (hg : Good C w S γ st tmps) : Cln C w S γ st tmps True ⟨[], fixedRows st.rows [], []⟩ γ := by
  have hrow : ∀ id, (CS.st ⟨[], fixedRows st.rows [], []⟩).row id = match st.row id with | some r => if r.k = .fixed then some r else none | none => none := by
    intro id
    have := fixed_look st.rows [] id
    simp only [List.not_mem_nil, if_false] at this
    unfold CS.st ASt.row
    simp only
    rw [this]
    cases (look st.rows id).join with
    | none => rfl
    | some r => simp only; split <;> rfl
  refine Cln.start hg (fun id r h => ?_) (fun _ id r h1 h2 => ?_)
  · rw [hrow] at h
    split at h
    · split at h
      · rename_i h1 h2
        cases h
        exact ⟨h1, h2⟩
      · cases h
    · cases h
  · rw [hrow, h1]
    simp [h2]
/-- One more slot, that leads to no new row. -/
theorem Cln.sl {F : Prop} {s : CS} {γ' : Gam} (h : Cln C w S γ st tmps F s γ') {i : Nat} {sv : SV} {v : Value} (hv : tmps[i]? = some v) (hr : RepS w S γ' s.st.row sv v) (hn : ∀ id ∈ sv.ids, ∃ r, s.st.row id = some r) :
    Cln C w S γ st tmps F { s with slots := (i, .one sv) :: s.slots } γ' := by
  have hrow : (CS.st { s with slots := (i, .one sv) :: s.slots }).row = s.st.row := rfl
  refine ⟨⟨⟨fun j av hj => ?_, h.good.rel.rows, h.good.rel.inj, h.good.rel.lt, h.good.rel.vars⟩, ⟨h.good.fr.size, h.good.fr.os, h.good.fr.tape, h.good.fr.output, h.good.fr.block, h.good.fr.blk, h.good.fr.s1, h.good.fr.s2, h.good.fr.rows, h.good.fr.fix, h.good.fr.gw, h.good.fr.pv⟩⟩,
    fun j av hj => ?_, h.used, h.ren, h.fix, h.inner⟩
  · change look ((i, _) :: s.slots) j = some av at hj
    rw [look_cons] at hj
    split at hj
    · rename_i e
      cases hj
      subst e
      exact ⟨v, hv, hr⟩
    · exact h.good.rel.slots j av hj
  · rw [look_cons] at hj
    split at hj
    · cases hj
      exact hn
    · exact h.named j av hj
/-- One more row. -/
theorem Cln.row {F : Prop} {s : CS} {γ' : Gam} (h : Cln C w S γ st tmps F s γ') {i : Nat} {r : Row} {g : Option (Nat × Nat)} {ren : List (Nat × Option Nat)} (hfree : look s.rows i = none)
    (hrk : r.k ≠ .fixed)
    (hro : RowOk w S (fun n => if n = i then g else γ' n) i r)
    (hvar : ∀ L, r.k = .var L → (∃ b q, g = some (b, q) ∧ ∀ (k : Nat) (sv : SV), look L k = some sv → (∃ u, w.cell? ⟨b, q + k, none⟩ = some u ∧ RepS w S γ' s.st.row sv u) ∨ ∃ f n, sv = .mp f n ∧ MapAt w b f n) ∧ ∀ j ∈ leafIds L, ∃ r', s.st.row j = some r')
    (hg : ∀ b p, g = some (b, p) → (C.w.heap.size ≤ b ∨ C.G b) ∧ ∃ m r0 q, st.row m = some r0 ∧ γ m = some (b, q) ∧ r0.k ≠ .fixed ∧ look s.ren m = none ∧ ∃ x, look ren m = some x)
    (hren : ∀ m x, look s.ren m = some x → look ren m = some x)
    (hren' : ∀ m n, look ren m = some (some n) → look s.ren m = some (some n) ∨ (n = i ∧ (∃ r0, st.row m = some r0 ∧ (r = r0 ∨ ∃ L, r0.k = .var L)) ∧ g = γ m))
    (hinj : ∀ m m' r1 r2 b p q, st.row m = some r1 → st.row m' = some r2 → γ m = some (b, p) → γ m' = some (b, q) → m = m')
    (hpv : ∀ L, r.k = .var L → r.t = svT → g = C.vp) :
    Cln C w S γ st tmps F ⟨s.slots, (i, some r) :: s.rows, ren⟩ (fun n => if n = i then g else γ' n) := by
  have hnone : s.st.row i = none := by unfold CS.st ASt.row; simp [hfree]
  have hrow : (CS.st ⟨s.slots, (i, some r) :: s.rows, ren⟩).row = fun n => if n = i then some r else s.st.row n := by
    funext n
    unfold CS.st ASt.row
    simp only [look_cons]
    by_cases e : n = i
    · subst e; simp
    · have : ¬ i = n := fun h => e h.symm
      simp [e, this]
  have hne : ∀ n r', s.st.row n = some r' → n ≠ i := fun n r' h e => by rw [e, hnone] at h; cases h
  have hmono : ∀ (sv : SV) (u : Value), (∀ j ∈ sv.ids, ∃ r', s.st.row j = some r') → RepS w S γ' s.st.row sv u → RepS w S (fun n => if n = i then g else γ' n) (fun n => if n = i then some r else s.st.row n) sv u := by
    intro sv u hids hsv
    refine hsv.mono (fun _ h => h) (fun _ _ => rfl) (fun _ _ h => h) (fun id hid r' hr' => ?_)
    obtain ⟨r'', h2⟩ := hids id hid
    have := hne _ _ h2
    simp only [this, if_false] at hr' ⊢
    exact ⟨r', hr', rfl, rfl, trivial⟩
  refine ⟨⟨⟨fun j av hj => ?_, fun id r' hr' => ?_, fun j k r1 r2 b p q h1 h2 h3 h4 => ?_, h.good.rel.lt, fun id r' L h1 h2 => ?_⟩, ⟨h.good.fr.size, h.good.fr.os, h.good.fr.tape, h.good.fr.output, h.good.fr.block, h.good.fr.blk, h.good.fr.s1, h.good.fr.s2, fun id r' b p h1 h2 => ?_, fun id r' h1 h2 => ?_, h.good.fr.gw, fun id r' L h1 h2 h3 => ?_⟩⟩,
    fun j av hj id hid => ?_, fun n r' b p h1 h2 => ?_, fun m n hm => ?_, fun hF id r' h1 h2 => ?_, fun id r' L h1 h2 j hj => ?_⟩
  · rw [hrow]
    obtain ⟨u, hu, h1⟩ := h.good.rel.slots j av hj
    refine ⟨u, hu, RepA.mono (fun _ h => h) (fun _ _ => rfl) (fun _ _ h => h) (fun id hid r' hr' => ?_) h1⟩
    obtain ⟨r'', h2⟩ := h.named j av hj id hid
    have := hne _ _ h2
    rw [if_neg this] at hr'
    exact ⟨r', hr', rfl, rfl, by rw [if_neg this]⟩
  · rw [hrow] at hr'
    simp only at hr'
    split at hr'
    · rename_i e
      cases hr'
      subst e
      exact hro
    · rename_i e
      exact RowOk.mono (h.good.rel.rows id r' hr') (fun _ h => h) (fun _ _ => rfl) (by rw [if_neg e]) (fun _ _ _ => rfl) (fun _ _ _ h => h)
  · rw [hrow] at h1 h2
    simp only at h1 h2 h3 h4
    -- a block of the new row is a block of no other
    have apart : ∀ n r' b p q, s.st.row n = some r' → γ' n = some (b, p) → g = some (b, q) → False := by
      intro n r' b p q e1 e2 e3
      obtain ⟨m, r0, q', f1, f2, f3⟩ := h.used n r' b p e1 e2
      obtain ⟨_, m', r0', q'', g1, g2, g3, g4, _⟩ := hg b q e3
      have := hinj m m' r0 r0' b q' q'' f1 g1 f2 g2
      subst this
      rw [f1] at g1
      cases g1
      rcases f3 with f3 | ⟨x, f3⟩
      · exact g3 f3
      · rw [f3] at g4; cases g4
    by_cases ej : j = i <;> by_cases ek : k = i
    · exact ej.trans ek.symm
    · simp only [ej, if_true] at h3
      simp only [ek, if_false] at h4 h2
      exact (apart k r2 b q p h2 h4 h3).elim
    · simp only [ek, if_true] at h4
      simp only [ej, if_false] at h3 h1
      exact (apart j r1 b p q h1 h3 h4).elim
    · simp only [ej, ek, if_false] at h1 h2 h3 h4
      exact h.good.rel.inj j k r1 r2 b p q h1 h2 h3 h4
  · rw [hrow] at h1 ⊢
    simp only at h1
    split at h1
    · rename_i e
      cases h1
      subst e
      obtain ⟨⟨b, q, e1, e2⟩, e3⟩ := hvar L h2
      refine ⟨b, q, by simp [e1], fun k sv hk => ?_⟩
      rcases e2 k sv hk with ⟨u, e4, e5⟩ | e4
      · exact .inl ⟨u, e4, hmono sv u (fun j hj => e3 j (leafIds_mem hk hj)) e5⟩
      · exact .inr e4
    · rename_i e
      obtain ⟨b, q, e1, e2⟩ := h.good.rel.vars id r' L h1 h2
      refine ⟨b, q, by simp [e, e1], fun k sv hk => ?_⟩
      rcases e2 k sv hk with ⟨u, e4, e5⟩ | e4
      · exact .inl ⟨u, e4, hmono sv u (fun j hj => h.inner id r' L h1 h2 j (leafIds_mem hk hj)) e5⟩
      · exact .inr e4
  · rw [hrow] at h1
    simp only at h1 h2
    split at h1
    · rename_i e
      cases h1
      rw [if_pos e] at h2
      refine ⟨fun h => absurd h hrk, fun _ => (hg b p h2).1⟩
    · rename_i e
      rw [if_neg e] at h2
      exact h.good.fr.rows id r' b p h1 h2
  · rw [hrow] at h1
    simp only at h1
    split at h1
    · cases h1
      exact absurd h2 hrk
    · rename_i e
      rw [if_neg e]
      exact h.good.fr.fix id r' h1 h2
  · rw [hrow] at h1
    simp only at h1
    split at h1
    · rename_i e
      cases h1
      subst e
      simp only [if_true]
      exact hpv L h2 h3
    · rename_i e
      rw [if_neg e]
      exact h.good.fr.pv id r' L h1 h2 h3
  · rw [hrow]
    simp only
    obtain ⟨r', h1⟩ := h.named j av hj id hid
    exact ⟨r', by rw [if_neg (hne _ _ h1)]; exact h1⟩
  · rw [hrow] at h1
    simp only at h1 h2
    split at h1
    · rename_i e
      rw [if_pos e] at h2
      obtain ⟨_, m, r0, q, g1, g2, _, _, x, g5⟩ := hg b p h2
      exact ⟨m, r0, q, g1, g2, .inr ⟨x, g5⟩⟩
    · rename_i e
      rw [if_neg e] at h2
      obtain ⟨m, r0, q, g1, g2, g3⟩ := h.used n r' b p h1 h2
      exact ⟨m, r0, q, g1, g2, g3.imp (fun h => h) fun ⟨x, hx⟩ => ⟨x, hren m x hx⟩⟩
  · rw [hrow]
    simp only
    rcases hren' m n hm with h1 | ⟨rfl, ⟨r0, h1, h1'⟩, h2⟩
    · obtain ⟨⟨r1, r', e1, e2, e2'⟩, e3⟩ := h.ren m n h1
      have := hne _ _ e2
      exact ⟨⟨r1, r', e1, by rw [if_neg this]; exact e2, e2'⟩, by rw [if_neg this]; exact e3⟩
    · exact ⟨⟨r0, r, h1, by rw [if_pos rfl], h1'⟩, by rw [if_pos rfl]; exact h2⟩
  · rw [hrow]
    simp only
    obtain ⟨e1, e2⟩ := h.fix hF id r' h1 h2
    have := hne _ _ e1
    exact ⟨by rw [if_neg this]; exact e1, by rw [if_neg this]; exact e2⟩
  · rw [hrow] at h1 ⊢
    simp only at h1 ⊢
    split at h1
    · rename_i e
      cases h1
      obtain ⟨_, e3⟩ := hvar L h2
      obtain ⟨r2, e4⟩ := e3 j hj
      exact ⟨r2, by rw [if_neg (hne _ _ e4)]; exact e4⟩
    · obtain ⟨r2, e4⟩ := h.inner id r' L h1 h2 j hj
      exact ⟨r2, by rw [if_neg (hne _ _ e4)]; exact e4⟩
/-- One more slot, and a row for it. -/
theorem Cln.new {F : Prop} {s : CS} {γ' : Gam} (h : Cln C w S γ st tmps F s γ') {i : Nat} {sv : SV} {v : Value} {r : Row} {g : Option (Nat × Nat)} {ren : List (Nat × Option Nat)} (hv : tmps[i]? = some v) (hfree : look s.rows i = none)
    (hids : sv.ids = [i]) (hrk : r.k = .free)
    (hr : RepS w S (fun n => if n = i then g else γ' n) (fun n => if n = i then some r else s.st.row n) sv v)
    (hro : RowOk w S (fun n => if n = i then g else γ' n) i r)
    (hg : ∀ b p, g = some (b, p) → (C.w.heap.size ≤ b ∨ C.G b) ∧ ∃ m r0 q, st.row m = some r0 ∧ γ m = some (b, q) ∧ r0.k ≠ .fixed ∧ look s.ren m = none ∧ ∃ x, look ren m = some x)
    (hren : ∀ m x, look s.ren m = some x → look ren m = some x)
    (hren' : ∀ m n, look ren m = some (some n) → look s.ren m = some (some n) ∨ (n = i ∧ st.row m = some r ∧ g = γ m))
    (hinj : ∀ m m' r1 r2 b p q, st.row m = some r1 → st.row m' = some r2 → γ m = some (b, p) → γ m' = some (b, q) → m = m') :
    Cln C w S γ st tmps F ⟨(i, .one sv) :: s.slots, (i, some r) :: s.rows, ren⟩ (fun n => if n = i then g else γ' n) := by
  have hrow : (CS.st ⟨s.slots, (i, some r) :: s.rows, ren⟩).row = fun n => if n = i then some r else s.st.row n := by
    funext n
    unfold CS.st ASt.row
    simp only [look_cons]
    by_cases e : n = i
    · subst e; simp
    · have : ¬ i = n := fun h => e h.symm
      simp [e, this]
  refine Cln.sl (h.row hfree (by rw [hrk]; simp) hro (fun L hL => by rw [hrk] at hL; cases hL) hg hren (fun m n hm => (hren' m n hm).imp (fun h => h) (fun h => ⟨h.1, ⟨r, h.2.1, .inl rfl⟩, h.2.2⟩)) hinj (fun L hL => by rw [hrk] at hL; cases hL)) hv (by rw [hrow]; exact hr) (fun id hid => ?_)
  rw [hids, List.mem_singleton] at hid
  subst hid
  rw [hrow]
  exact ⟨r, by simp⟩
theorem SU_frozen {id : Nat} {r : Row} (h : RowOk w S γ id r) (hk : r.k = .frozen) : ∀ b, SU S γ [id] b → S b := by
  rintro b (hb | ⟨i, hi, p, hp⟩)
  · exact hb
  · simp only [List.mem_singleton] at hi
    subst hi
    exact (h.st b p hp).1 hk
theorem row_some {s : CS} {i : Nat} {r : Row} {ren : List (Nat × Option Nat)} {s' : CS} (h : s.row i r ren = some s') :
    look s.rows i = none ∧ s' = ⟨s.slots, (i, some r) :: s.rows, ren⟩ := by
  unfold CS.row at h
  split at h
  · rename_i e; exact ⟨e, (Option.some.inj h).symm⟩
  · cases h
theorem ren_old {ren : List (Nat × Option Nat)} {id : Nat} {y : Option Nat} (hn : look ren id = none) : ∀ m x, look ren m = some x → look ((id, y) :: ren) m = some x := by
  intro m x h
  rw [look_cons]
  split
  · rename_i e; rw [← e, hn] at h; cases h
  · exact h
/-- What was there is there still. -/
def CS.Ext (s : CS) (γ : Gam) (s' : CS) (γ' : Gam) : Prop := (∀ id r, s.st.row id = some r → s'.st.row id = some r ∧ γ' id = γ id) ∧ ∀ m x, look s.ren m = some x → look s'.ren m = some x
theorem CS.Ext.refl (s : CS) (γ : Gam) : s.Ext γ s γ := ⟨fun _ _ h => ⟨h, rfl⟩, fun _ _ h => h⟩
theorem CS.Ext.trans {s1 s2 s3 : CS} {γ1 γ2 γ3 : Gam} (h : s1.Ext γ1 s2 γ2) (k : s2.Ext γ2 s3 γ3) : s1.Ext γ1 s3 γ3 :=
  ⟨fun id r hr => let ⟨a, b⟩ := h.1 id r hr; let ⟨c, d⟩ := k.1 id r a; ⟨c, d.trans b⟩, fun m x hx => k.2 m x (h.2 m x hx)⟩
theorem CS.Ext.rep {s s' : CS} {γ' γ'' : Gam} (h : s.Ext γ' s' γ'') {sv : SV} {v : Value} (hids : ∀ j ∈ sv.ids, ∃ r, s.st.row j = some r) (hr : RepS w S γ' s.st.row sv v) : RepS w S γ'' s'.st.row sv v := by
  refine hr.mono (fun _ h => h) (fun _ _ => rfl) (fun _ _ h => h) (fun id hid r' hr' => ?_)
  obtain ⟨r, h1⟩ := hids id hid
  obtain ⟨h2, h3⟩ := h.1 id r h1
  rw [h2] at hr'
  have e := Option.some.inj hr'
  subst e
  exact ⟨r, h1, rfl, rfl, h3⟩
theorem cleanV_ok (hg : Good C w S γ st tmps) {s s' : CS} {γ' : Gam} (h : Cln C w S γ st tmps True s γ') {i : Nat} {m : KM} {sv sv' : SV} {v : Value} (hrep : RepS w S γ st.row sv v) (hc : cleanV st i sv m s = some (sv', s')) :
    ∃ γ'', Cln C w S γ st tmps True s' γ'' ∧ RepS w S γ'' s'.st.row sv' v ∧ (∀ j ∈ sv'.ids, ∃ r, s'.st.row j = some r) ∧ s.Ext γ' s' γ'' ∧ s'.slots = s.slots := by
  have same : ∀ {sv2 : SV}, some (sv2, s) = some (sv', s') → RepS w S γ' s.st.row sv2 v → (∀ j ∈ sv2.ids, ∃ r, s.st.row j = some r) →
      ∃ γ'', Cln C w S γ st tmps True s' γ'' ∧ RepS w S γ'' s'.st.row sv' v ∧ (∀ j ∈ sv'.ids, ∃ r, s'.st.row j = some r) ∧ s.Ext γ' s' γ'' ∧ s'.slots = s.slots := by
    intro sv2 e h1 h2
    cases e
    exact ⟨γ', h, h1, h2, CS.Ext.refl _ _, rfl⟩
  -- a new row
  have new : ∀ {r : Row} {ren : List (Nat × Option Nat)} {s1 : CS} {sv2 : SV} {g : Option (Nat × Nat)}, s.row i r ren = some s1 → some (sv2, s1) = some (sv', s') → sv2.ids = [i] → r.k = .free →
      RepS w S (fun n => if n = i then g else γ' n) (fun n => if n = i then some r else s.st.row n) sv2 v → RowOk w S (fun n => if n = i then g else γ' n) i r →
      (∀ b p, g = some (b, p) → (C.w.heap.size ≤ b ∨ C.G b) ∧ ∃ m r0 q, st.row m = some r0 ∧ γ m = some (b, q) ∧ r0.k ≠ .fixed ∧ look s.ren m = none ∧ ∃ x, look ren m = some x) →
      (∀ m x, look s.ren m = some x → look ren m = some x) → (∀ m n, look ren m = some (some n) → look s.ren m = some (some n) ∨ (n = i ∧ st.row m = some r ∧ g = γ m)) →
      ∃ γ'', Cln C w S γ st tmps True s' γ'' ∧ RepS w S γ'' s'.st.row sv' v ∧ (∀ j ∈ sv'.ids, ∃ r, s'.st.row j = some r) ∧ s.Ext γ' s' γ'' ∧ s'.slots = s.slots := by
    intro r ren s1 sv2 g e1 e2 hids hrk hr hro hgg hren hren'
    cases e2
    obtain ⟨hfree, rfl⟩ := row_some e1
    have hrow : (CS.st ⟨s.slots, (i, some r) :: s.rows, ren⟩).row = fun n => if n = i then some r else s.st.row n := by
      funext n
      unfold CS.st ASt.row
      simp only [look_cons]
      by_cases e : n = i
      · subst e; simp
      · have : ¬ i = n := fun h => e h.symm
        simp [e, this]
    have hnone : s.st.row i = none := by unfold CS.st ASt.row; simp [hfree]
    refine ⟨_, h.row hfree (by rw [hrk]; simp) hro (fun L hL => by rw [hrk] at hL; cases hL) hgg hren (fun m n hm => (hren' m n hm).imp (fun h => h) (fun h => ⟨h.1, ⟨r, h.2.1, .inl rfl⟩, h.2.2⟩)) hg.rel.inj (fun L hL => by rw [hrk] at hL; cases hL), by rw [hrow]; exact hr, fun j hj => ?_, ⟨fun id r' hr' => ?_, hren⟩, rfl⟩
    · rw [hids, List.mem_singleton] at hj
      subst hj
      rw [hrow]
      exact ⟨r, by simp⟩
    · have : id ≠ i := fun e => by rw [e, hnone] at hr'; cases hr'
      rw [hrow]
      simp [this, hr']
  unfold cleanV at hc
  cases sv with
  | val t x => exact same hc hrep (fun j hj => by cases hj)
  | rptr t x => exact same hc hrep (fun j hj => by cases hj)
  | rfn f l => exact same hc (by obtain ⟨vs, h1, h2, h3⟩ := hrep; exact ⟨vs, h1, h2, h3⟩) (fun j hj => by cases hj)
  | und => cases hc
  | bnil e n => cases hc
  | any => cases hc
  | nilsl =>
    simp only at hc
    obtain ⟨a, rfl⟩ := hrep
    split at hc
    · rename_i t
      split at hc
      · rename_i s1 h1
        refine new (g := none) h1 hc rfl rfl ?_ ?_ (fun b p e => by cases e) (fun _ _ h => h) (fun m n h => .inl h)
        · intro r' hr'
          simp only [if_true, Option.some.injEq] at hr'
          subst hr'
          exact ⟨a, 0, rfl, Nat.le_refl _, by simp, .inl rfl⟩
        · exact ⟨fun _ => rfl, fun b p e => by simp at e, fun b p e => by simp at e⟩
      · cases hc
    · exact same hc ⟨[.slice a 0 0], ⟨a, 0, rfl, Nat.le_refl _, Nat.zero_le _, fun i x hx => by simp at hx⟩, rfl⟩ (fun j hj => by cases hj)
    · exact same hc ⟨a, rfl⟩ (fun j hj => by cases hj)
  | own id =>
    simp only at hc
    split at hc
    · rename_i r hr
      have hro := hg.rel.rows id r hr
      have hown := hrep r hr
      split at hc
      · rename_i hk
        refine same hc ?_ (fun j hj => by cases hj)
        have := sl_of_row (R := st.row) (ids := [id]) hro (lo := 0) (len := r.l.length) (by simp) hown hr (by simp)
        simp only [List.drop_zero, List.take_length] at this
        exact RepV.mono (SU_frozen hro hk) (fun _ _ => rfl) this
      · rename_i hk
        obtain ⟨f1, f2⟩ := h.fix trivial id r hr hk
        refine same hc ?_ (fun id' hid => by simp only [SV.ids, List.mem_singleton] at hid; subst hid; exact ⟨r, f1⟩)
        intro r' hr'
        rw [f1] at hr'
        cases hr'
        exact hown.re f2
      · rename_i hk
        split at hc
        · rename_i n hn
          obtain ⟨⟨r1, r', f1, f2, f2'⟩, f3⟩ := h.ren id n hn
          rw [hr] at f1
          cases f1
          have e : r' = r := f2'.resolve_right (fun ⟨L, hL⟩ => by rw [hk] at hL; cases hL)
          subst e
          refine same hc ?_ (fun id' hid => by simp only [SV.ids, List.mem_singleton] at hid; subst hid; exact ⟨r', f2⟩)
          intro r2 hr2
          rw [f2] at hr2
          cases hr2
          exact hown.re f3
        · cases hc
        · rename_i hn
          split at hc
          · rename_i s1 h1
            refine new (g := γ id) h1 hc rfl hk ?_ ?_ (fun b p e => ⟨(hg.fr.rows id r b p hr e).2 (by rw [hk]; simp), id, r, p, hr, e, by rw [hk]; simp, hn, some i, by simp [look]⟩) (ren_old hn) (fun m n hm => ?_)
            · intro r' hr'
              simp only [if_true, Option.some.injEq] at hr'
              subst hr'
              exact hown.re (by simp)
            · refine ⟨fun e => hro.nil (by simpa using e), fun b p e => hro.mem b p (by simpa using e), fun b p e => hro.st b p (by simpa using e)⟩
            · rw [look_cons] at hm
              split at hm
              · rename_i e
                cases hm
                subst e
                exact .inr ⟨rfl, hr, rfl⟩
              · exact .inl hm
          · cases hc
      · cases hc
    · cases hc
  | osub id lo len =>
    simp only at hc
    split at hc
    · rename_i r hr
      have hro := hg.rel.rows id r hr
      obtain ⟨hle, hown⟩ := hrep r hr
      split at hc
      · rename_i hk
        refine same hc ?_ (fun j hj => by cases hj)
        have := sl_of_row (R := st.row) (ids := [id]) hro (lo := lo) (len := len) hle hown hr (by simp)
        exact RepV.mono (SU_frozen hro hk) (fun _ _ => rfl) this
      · rename_i hk
        obtain ⟨f1, f2⟩ := h.fix trivial id r hr hk
        refine same hc ?_ (fun id' hid => by simp only [SV.ids, List.mem_singleton] at hid; subst hid; exact ⟨r, f1⟩)
        intro r' hr'
        rw [f1] at hr'
        cases hr'
        exact ⟨hle, hown.re f2⟩
      · rename_i hk
        split at hc
        · rename_i n hn
          obtain ⟨⟨r1, r', f1, f2, f2'⟩, f3⟩ := h.ren id n hn
          rw [hr] at f1
          cases f1
          have e : r' = r := f2'.resolve_right (fun ⟨L, hL⟩ => by rw [hk] at hL; cases hL)
          subst e
          refine same hc ?_ (fun id' hid => by simp only [SV.ids, List.mem_singleton] at hid; subst hid; exact ⟨r', f2⟩)
          intro r2 hr2
          rw [f2] at hr2
          cases hr2
          exact ⟨hle, hown.re f3⟩
        · cases hc
        · rename_i hn
          split at hc
          · rename_i s1 h1
            have hl : ((r.l.drop lo).take len).length = len := by simp only [List.length_take, List.length_drop]; omega
            refine new (g := (γ id).map fun x => (x.1, x.2 + lo * r.t.nc)) h1 hc rfl rfl ?_ ?_ (fun b p e => ?_) (ren_old hn) (fun m n hm => ?_)
            · intro r' hr'
              simp only [if_true, Option.some.injEq] at hr'
              subst hr'
              simp only [hl]
              obtain ⟨a, cap, e1, e2, e3, e4⟩ := hown
              refine ⟨a, cap, e1, e2, e3, e4.imp (fun h => h) ?_⟩
              rintro ⟨b, p, g1, g2, g3⟩
              refine ⟨b, p + lo * r.t.nc, by simp [g1], by simpa using g2, ?_⟩
              rw [Nat.add_mul] at g3
              rw [Nat.zero_add, Nat.add_assoc]
              exact g3
            · refine ⟨fun e => ?_, fun b p e => ?_, fun b p e => ?_⟩
              · simp only [if_true, Option.map_eq_none_iff] at e
                simp only [hro.nil e, List.drop_nil, List.take_nil]
              · simp only [if_true, Option.map_eq_some_iff, Prod.mk.injEq, Prod.exists] at e
                obtain ⟨b', p', e1, rfl, rfl⟩ := e
                rcases hro.mem b' p' e1 with ⟨cur, t, c1, c2⟩ | ⟨hm, hm2⟩
                rotate_left
                · exact .inr ⟨by simp only [hm, List.drop_nil, List.take_nil], hm2⟩
                refine .inl ⟨cur, t, c1, fun k x hx => ?_⟩
                have hk' : k < len := by have := (List.getElem?_eq_some_iff.1 hx).1; simp only [hl] at this; exact this
                simp only at hx
                rw [List.getElem?_take_of_lt hk', List.getElem?_drop] at hx
                obtain ⟨ds, d1, d2⟩ := c2 (lo + k) x hx
                refine ⟨ds, ?_, d2⟩
                rw [Nat.add_mul, ← Nat.add_assoc] at d1
                exact d1
              · simp only [if_true, Option.map_eq_some_iff, Prod.mk.injEq, Prod.exists] at e
                obtain ⟨b', p', e1, rfl, rfl⟩ := e
                have := hro.st b' p' e1
                rw [hk] at this
                exact this
            · simp only [Option.map_eq_some_iff, Prod.mk.injEq, Prod.exists] at e
              obtain ⟨b', p', e1, rfl, rfl⟩ := e
              exact ⟨(hg.fr.rows id r b' p' hr e1).2 (by rw [hk]; simp), id, r, p', hr, e1, by rw [hk]; simp, hn, none, by simp [look]⟩
            · rw [look_cons] at hm
              split at hm
              · cases hm
              · exact .inl hm
          · cases hc
      · cases hc
    · cases hc
  | optr id j p =>
    simp only at hc
    split at hc
    · rename_i r hr
      have hro := hg.rel.rows id r hr
      have hown := hrep r hr
      split at hc
      · rename_i hk
        obtain ⟨f1, f2⟩ := h.fix trivial id r hr hk
        refine same hc ?_ (fun id' hid => by simp only [SV.ids, List.mem_singleton] at hid; subst hid; exact ⟨r, f1⟩)
        intro r' hr'
        rw [f1] at hr'
        cases hr'
        rw [f2]
        exact hown
      · cases hc
      · rename_i hk
        split at hc
        · rename_i n hn
          obtain ⟨⟨r1, r', f1, f2, f2'⟩, f3⟩ := h.ren id n hn
          rw [hr] at f1
          cases f1
          have e : r' = r := f2'.resolve_right (fun ⟨L, hL⟩ => by rw [hk] at hL; cases hL)
          subst e
          refine same hc ?_ (fun id' hid => by simp only [SV.ids, List.mem_singleton] at hid; subst hid; exact ⟨r', f2⟩)
          intro r2 hr2
          rw [f2] at hr2
          cases hr2
          rw [f3]
          exact hown
        · cases hc
        · rename_i hn
          split at hc
          · rename_i s1 h1
            refine new (g := γ id) h1 hc rfl hk ?_ ?_ (fun b p e => ⟨(hg.fr.rows id r b p hr e).2 (by rw [hk]; simp), id, r, p, hr, e, by rw [hk]; simp, hn, some i, by simp [look]⟩) (ren_old hn) (fun m n hm => ?_)
            · intro r' hr'
              simp only [if_true, Option.some.injEq] at hr'
              subst hr'
              simp only [if_true]
              exact hown
            · refine ⟨fun e => hro.nil (by simpa using e), fun b p e => hro.mem b p (by simpa using e), fun b p e => hro.st b p (by simpa using e)⟩
            · rw [look_cons] at hm
              split at hm
              · rename_i e
                cases hm
                subst e
                exact .inr ⟨rfl, hr, rfl⟩
              · exact .inl hm
          · cases hc
      · cases hc
    · cases hc
  | fn f caps =>
    cases caps with
    | nil =>
      refine same hc ?_ (fun j hj => by cases hj)
      obtain ⟨vs, h1, h2, h3⟩ := hrep
      exact ⟨vs, h1, h2, fun k id hid => by simp at hid⟩
    | cons a l =>
      cases l with
      | cons b l => cases hc
      | nil =>
        simp only at hc
        split at hc
        · rename_i r hr
          split at hc
          · rename_i hk
            obtain ⟨f1, f2⟩ := h.fix trivial a r hr hk
            refine same hc ?_ (fun id' hid => by simp only [SV.ids, List.mem_singleton] at hid; subst hid; exact ⟨r, f1⟩)
            obtain ⟨vs, h1, h2, h3⟩ := hrep
            refine ⟨vs, h1, h2, fun k id hid => ?_⟩
            obtain ⟨u, e1, e2⟩ := h3 k id hid
            refine ⟨u, e1, fun r' hr' => ?_⟩
            have hid' : id = a := by
              cases k with
              | zero => simp only [List.getElem?_cons_zero, Option.some.injEq] at hid; exact hid.symm
              | succ k => simp at hid
            subst hid'
            rw [f1] at hr'
            cases hr'
            rw [f2]
            exact e2 r hr
          · cases hc
        · cases hc
  | vptr id t o =>
    simp only at hc
    split at hc
    · rename_i n hn
      obtain ⟨⟨r, r', f1, f2, _⟩, f3⟩ := h.ren id n hn
      refine same hc ?_ (fun id' hid => by simp only [SV.ids, List.mem_singleton] at hid; subst hid; exact ⟨r', f2⟩)
      intro r2 _
      rw [f3]
      exact hrep r f1
    · cases hc
  | mref id => cases hc
  | mp f n => cases hrep
/-- The cells of a variable, cleaned. -/
theorem cleanLv_ok (hg : Good C w S γ st tmps) {L : List (Nat × SV)} {b q : Nat} (hL : ∀ (k : Nat) (sv : SV), look L k = some sv → (∃ u, w.cell? ⟨b, q + k, none⟩ = some u ∧ RepS w S γ st.row sv u) ∨ ∃ f n, sv = .mp f n ∧ MapAt w b f n) {i : Nat} :
    ∀ (lm : List (Nat × KM)) (s s' : CS) (γ' : Gam) (L' : List (Nat × SV)), Cln C w S γ st tmps True s γ' → cleanLv st i L lm s = some (L', s') →
      ∃ γ'', Cln C w S γ st tmps True s' γ'' ∧ s.Ext γ' s' γ'' ∧ s'.slots = s.slots ∧ (∀ (k : Nat) (sv : SV), look L' k = some sv → (∃ u, w.cell? ⟨b, q + k, none⟩ = some u ∧ RepS w S γ'' s'.st.row sv u) ∨ ∃ f n, sv = .mp f n ∧ MapAt w b f n) ∧ ∀ j ∈ leafIds L', ∃ r, s'.st.row j = some r := by
  intro lm
  induction lm with
  | nil =>
    intro s s' γ' L' h hc
    simp only [cleanLv, Option.some.injEq, Prod.mk.injEq] at hc
    obtain ⟨rfl, rfl⟩ := hc
    exact ⟨γ', h, CS.Ext.refl _ _, rfl, fun k sv (hk : look [] k = some sv) => (by cases hk), fun j (hj : j ∈ []) => (by cases hj)⟩
  | cons x lm ih =>
    intro s s' γ' L' h hc
    obtain ⟨k0, m⟩ := x
    simp only [cleanLv] at hc
    split at hc
    · rename_i v hv
      split at hc
      · rename_i v' s1 h1
        split at hc
        · rename_i L1 s2 h2
          simp only [Option.some.injEq, Prod.mk.injEq] at hc
          obtain ⟨rfl, rfl⟩ := hc
          rcases hL k0 v hv with ⟨u, e1, e2⟩ | ⟨f, n, rfl, e2⟩
          rotate_left
          · simp only [cleanV, Option.some.injEq, Prod.mk.injEq] at h1
            obtain ⟨rfl, rfl⟩ := h1
            obtain ⟨γ2, f1, f2, f3, f4, f5⟩ := ih s s2 γ' L1 h h2
            refine ⟨γ2, f1, f2, f3, fun k sv hk => ?_, fun j hj => ?_⟩
            · rw [look_cons] at hk
              split at hk
              · cases hk; exact .inr ⟨f, n, rfl, e2⟩
              · exact f4 k sv hk
            · simp only [leafIds, List.flatMap_cons, SV.ids, List.nil_append] at hj
              exact f5 j hj
          obtain ⟨γ1, g1, g2, g3, g4, g5⟩ := cleanV_ok hg h e2 h1
          obtain ⟨γ2, f1, f2, f3, f4, f5⟩ := ih s1 s2 γ1 L1 g1 h2
          refine ⟨γ2, f1, g4.trans f2, f3.trans g5, fun k sv hk => ?_, fun j hj => ?_⟩
          · rw [look_cons] at hk
            split at hk
            · rename_i e
              cases hk
              subst e
              exact .inl ⟨u, e1, f2.rep g3 g2⟩
            · exact f4 k sv hk
          · simp only [leafIds, List.flatMap_cons, List.mem_append] at hj
            rcases hj with hj | hj
            · obtain ⟨r, hr⟩ := g3 j hj
              exact ⟨r, (f2.1 j r hr).1⟩
            · exact f5 j hj
        · cases hc
      · cases hc
    · cases hc
theorem cleanVar_ok (hg : Good C w S γ st tmps) {s s1 : CS} {γ' : Gam} (h : Cln C w S γ st tmps True s γ') {i id : Nat} {lm : List (Nat × KM)} (h1 : cleanVar st i id lm s = some s1) :
    ∃ γ'', Cln C w S γ st tmps True s1 γ'' ∧ γ'' (svI st i id) = γ id ∧ (∃ r', s1.st.row (svI st i id) = some r') ∧ ∃ r, st.row id = some r := by
  unfold cleanVar at h1
  generalize svI st i id = i0 at h1 ⊢
  split at h1
  · rename_i r hr hn
    split at h1
    · rename_i L hk
      split at h1
      · rename_i L' s2 h2
        split at h1
        · rename_i hn2
          obtain ⟨hfree, rfl⟩ := row_some h1
          obtain ⟨b, q, e1, e2⟩ := hg.rel.vars id r L hr hk
          obtain ⟨γ2, f1, f2, f3, f4, f5⟩ := cleanLv_ok hg e2 lm s s2 γ' L' h h2
          have hro := hg.rel.rows id r hr
          have hrow : (CS.st ⟨s2.slots, (i0, some ⟨.var L', r.t, []⟩) :: s2.rows, (id, some i0) :: s2.ren⟩).row = fun n => if n = i0 then some ⟨.var L', r.t, []⟩ else s2.st.row n := by
            funext n
            unfold CS.st ASt.row
            simp only [look_cons]
            by_cases e : n = i0
            · subst e; simp
            · have : ¬ i0 = n := fun h => e h.symm
              simp [e, this]
          have hSb : ∀ b p, γ id = some (b, p) → ¬ S b := fun b p hp hb => by have := (hro.st b p hp).2 hb; rw [hk] at this; cases this
          have hC := f1.row (g := γ id) (r := ⟨.var L', r.t, []⟩) (ren := (id, some i0) :: s2.ren) hfree (by simp)
            ⟨fun _ => rfl, fun b p e => by
              simp only [if_true] at e
              rcases hro.mem b p e with ⟨cur, t, c1, _⟩ | ⟨_, hm⟩
              · exact .inl ⟨cur, t, c1, fun j x hx => by simp at hx⟩
              · exact .inr ⟨rfl, hm⟩, fun b p e => by
              simp only [if_true] at e
              exact ⟨fun h => (by cases h), fun hb => absurd hb (hSb b p e)⟩⟩
            (fun L2 h2 => by cases h2; exact ⟨⟨b, q, e1, f4⟩, f5⟩)
            (fun b p e => ⟨(hg.fr.rows id r b p hr e).2 (by rw [hk]; simp), id, r, p, hr, e, by rw [hk]; simp, hn2, some i0, by simp [look]⟩) (ren_old hn2)
            (fun m n hm => by
              rw [look_cons] at hm
              split at hm
              · rename_i e
                cases hm
                subst e
                exact .inr ⟨rfl, ⟨r, hr, .inr ⟨L, hk⟩⟩, rfl⟩
              · exact .inl hm) hg.rel.inj (fun _ _ ht => hg.fr.pv id r L hr hk ht)
          refine ⟨_, hC, by simp, ?_, r, hr⟩
          rw [hrow]
          exact ⟨⟨.var L', r.t, []⟩, by simp⟩
        · cases h1
      · cases h1
    · cases h1
  · cases h1
theorem clean1_ok (hg : Good C w S γ st tmps) {s s' : CS} {γ' : Gam} (h : Cln C w S γ st tmps True s γ') {i : Nat} {m : KM} (hc : clean1 st i m s = some s') : ∃ γ'', Cln C w S γ st tmps True s' γ'' := by
  unfold clean1 at hc
  split at hc
  · rename_i sv hsv
    obtain ⟨v, hv, hrep⟩ := hg.rel.slots i _ hsv
    change RepS w S γ st.row sv v at hrep
    split at hc
    · rename_i lm id t o
      split at hc
      · rename_i s1 h1
        simp only [Option.some.injEq] at hc
        subst hc
        obtain ⟨γ2, hC, hγ, hrow, r, hr⟩ := cleanVar_ok hg h h1
        refine ⟨_, hC.sl hv ?_ (fun j hj => ?_)⟩
        · intro r2 _
          obtain ⟨b', q', g1, g2⟩ := hrep r hr
          exact ⟨b', q', hγ.trans g1, g2⟩
        · simp only [SV.ids, List.mem_singleton] at hj
          subst hj
          exact hrow
      · cases hc
    · rename_i lm id
      split at hc
      · rename_i s1 h1
        simp only [Option.some.injEq] at hc
        subst hc
        obtain ⟨γ2, hC, hγ, hrow, r, hr⟩ := cleanVar_ok hg h h1
        refine ⟨_, hC.sl hv ?_ (fun j hj => ?_)⟩
        · intro r2 _
          obtain ⟨b', q', g1, g2⟩ := hrep r hr
          exact ⟨b', q', hγ.trans g1, g2⟩
        · simp only [SV.ids, List.mem_singleton] at hj
          subst hj
          exact hrow
      · cases hc
    · split at hc
      · rename_i v' s1 h1
        simp only [Option.some.injEq] at hc
        subst hc
        obtain ⟨γ1, g1, g2, g3, _, _⟩ := cleanV_ok hg h hrep h1
        exact ⟨γ1, g1.sl hv g2 g3⟩
      · cases hc
  · cases hc
theorem cleanL_ok (hg : Good C w S γ st tmps) : ∀ (L : List (Nat × KM)) (s s' : CS) (γ' : Gam), Cln C w S γ st tmps True s γ' → cleanL st L s = some s' → ∃ γ'', Cln C w S γ st tmps True s' γ'' := by
  intro L
  induction L with
  | nil => intro s s' γ' h hc; simp only [cleanL, Option.some.injEq] at hc; subst hc; exact ⟨γ', h⟩
  | cons x L ih =>
    intro s s' γ' h hc
    obtain ⟨i, m⟩ := x
    simp only [cleanL] at hc
    split at hc
    · rename_i s1 h1
      obtain ⟨γ1, g1⟩ := clean1_ok hg h h1
      exact ih s1 s' γ1 g1 hc
    · cases hc
theorem clean_ok (hg : Good C w S γ st tmps) {L : List (Nat × KM)} {st' : ASt} (hc : clean st L = some st') : ∃ S' γ', Good C w S' γ' st' tmps := by
  unfold clean at hc
  split at hc
  · rename_i fr hfr
    have hg' : Good C w (SU S γ (pureIds st L)) γ (st.upd fr) tmps := Good.freeze (a := ⟨tmps, []⟩) hg (fun _ _ h => h) hfr
    split at hc
    · rename_i s hs
      simp only [Option.some.injEq] at hc
      subst hc
      obtain ⟨γ', h⟩ := cleanL_ok hg' L _ s γ (Cln.begin hg') hs
      exact ⟨_, γ', h.good⟩
    · cases hc
  · cases hc
end
/-- A value that comes out of a jump, or of no jump at all. -/
def Tail {R : Type} (jmp : Tgt → ASt → Option R) (f : (Tgt → ASt → Option R) → Option R) (r : R) : Prop :=
  (∃ t st, jmp t st = some r ∧ ∀ jmp', jmp' t st = some r → f jmp' = some r) ∨ ∀ jmp', f jmp' = some r
section
variable {R : Type} {r : R} {jmp : Tgt → ASt → Option R} {fin : ASt → Option R}
theorem condAll_mk {l : List Bool} {k : Option R} (h : ∀ c ∈ l, c = true) (hk : k = some r) : condAll l k = some r := by
  induction l with
  | nil => exact hk
  | cons b l ih =>
    have hb := h b (by simp)
    subst hb
    exact ih fun c hc => h c (by simp [hc])
theorem opsK_tail {ops : List Oper} {f : (Tgt → ASt → Option R) → ASt → List Acc → Option R} (hf : ∀ st tr, f jmp st tr = some r → Tail jmp (fun j => f j st tr) r) :
    ∀ (l : List Oper) (st : ASt) (tr : List Acc), opsK E ops l st tr (f jmp) = some r → Tail jmp (fun j => opsK E ops l st tr (f j)) r := by
  intro l
  induction l with
  | nil => intro st tr h; exact hf st tr h
  | cons o l ih =>
    intro st tr h
    simp only [opsK] at h ⊢
    have run : ∀ st : ASt, (opT E o (st.avs o) (rowsOf st (rdOf st o))).runK (fun p =>
          opsK E ops l ((st.upd p.2).put o.dst p.1) (⟨(guardTmp ops o).toList ++ tmpsOf (operandsL o.op), o.dst.toList, rdOf st o, p.2.map (·.1), stoOf o (st.avs o)⟩ :: tr) (f jmp)) = some r →
        Tail jmp (fun j => (opT E o (st.avs o) (rowsOf st (rdOf st o))).runK (fun p =>
          opsK E ops l ((st.upd p.2).put o.dst p.1) (⟨(guardTmp ops o).toList ++ tmpsOf (operandsL o.op), o.dst.toList, rdOf st o, p.2.map (·.1), stoOf o (st.avs o)⟩ :: tr) (f j))) r := by
      intro st h
      simp only [Tree.runK_eq] at h ⊢
      cases hv : (opT E o (st.avs o) (rowsOf st (rdOf st o))).val with
      | none => rw [hv] at h; cases h
      | some p => rw [hv] at h; exact ih _ _ h
    cases hgd : o.guard with
    | none => rw [hgd] at h; exact run st h
    | some gw =>
      obtain ⟨j, want⟩ := gw
      rw [hgd] at h
      simp only at h ⊢
      cases hgt : guardTmp ops o with
      | none => rw [hgt] at h; cases h
      | some g =>
        simp only [hgt] at h ⊢
        split at h
        · rename_i b hb
          rw [hgt] at run
          cases want <;> cases b <;> simp only [cond_true, cond_false] at h ⊢
          · exact run _ h
          · exact ih _ _ h
          · exact ih _ _ h
          · exact run _ h
        · rename_i hb
          exact ih _ _ h
        · cases h
theorem regionK_tail {ops : List Oper} {draw : Bool} {st : ASt} {f : (Tgt → ASt → Option R) → ASt → Option R} (hf : ∀ st, f jmp st = some r → Tail jmp (fun j => f j st) r)
    (h : regionK E ops draw st (f jmp) = some r) : Tail jmp (fun j => regionK E ops draw st (f j)) r := by
  unfold regionK at h ⊢
  cases hc : (freshB ops st && ops.all (dstOk E.nt)) with
  | false => rw [hc] at h; cases h
  | true =>
    rw [hc, cond_true] at h
    simp only [cond_true]
    refine opsK_tail (f := fun j st' tr => cond (!draw || drawOk ops tr) (condAll (cond draw (storeConds (closure ops []) 0 [] tr.reverse) []) (f j st')) none) (fun st' tr h => ?_) ops st [] h
    cases hd : (!draw || drawOk ops tr) with
    | false => simp only [hd, cond_false] at h; cases h
    | true =>
      simp only [hd, cond_true] at h ⊢
      obtain ⟨h1, h2⟩ := condAll_some h
      rcases hf st' h2 with ⟨t, s0, g1, g2⟩ | g1
      · exact .inl ⟨t, s0, g1, fun j hj => condAll_mk h1 (g2 j hj)⟩
      · exact .inr fun j => condAll_mk h1 (g1 j)
theorem jmp_tail {t : Tgt} {st : ASt} (h : jmp t st = some r) : Tail jmp (fun j => j t st) r := .inl ⟨t, st, h, fun _ h => h⟩
theorem ap_tail {rb : (Tgt → ASt → Option R) → Code → Kont → ASt → Option R} (hrb : ∀ c K st, rb jmp c K st = some r → Tail jmp (fun j => rb j c K st) r) :
    ∀ (K : Kont) (x : XT) (st : ASt), ap E jmp fin (rb jmp) K x st = some r → Tail jmp (fun j => ap E j fin (rb j) K x st) r := by
  intro K
  induction K with
  | ret =>
    intro x st h
    cases x with
    | ex i => cases h
    | nrm => exact .inr fun _ => h
    | ret => exact .inr fun _ => h
  | seq b K ih =>
    intro x st h
    cases x with
    | ex i => exact ih _ _ h
    | ret => exact ih _ _ h
    | nrm =>
      simp only [ap] at h ⊢
      split at h
      · rename_i hl
        exact hrb _ _ _ h
      · split at h
        · exact jmp_tail h
        · cases h
  | blk id K ih =>
    intro x st h
    cases x with
    | nrm => exact ih _ _ h
    | ret => exact ih _ _ h
    | ex i =>
      simp only [ap] at h ⊢
      cases hb : Nat.beq i id with
      | true => rw [hb] at h; simp only [cond_true] at h ⊢; exact ih _ _ h
      | false => rw [hb] at h; simp only [cond_false] at h ⊢; exact ih _ _ h
  | loop b K ih =>
    intro x st h
    cases x with
    | ex i => exact ih _ _ h
    | ret => exact ih _ _ h
    | nrm =>
      simp only [ap] at h ⊢
      split at h
      · split at h
        · exact jmp_tail h
        · cases h
      · cases h
theorem run_tail : ∀ (d : Nat) (c : Code) (K : Kont) (st : ASt), run E jmp fin d c K st = some r → Tail jmp (fun j => run E j fin d c K st) r := by
  intro d
  induction d with
  | zero => intro c K st h; exact jmp_tail h
  | succ d ih =>
    intro c K st h
    have hap := ap_tail (E := E) (jmp := jmp) (fin := fin) (rb := fun j => run E j fin d) ih
    cases c with
    | skip => exact hap K .nrm st h
    | exit id => exact hap K (.ex id) st h
    | ret => exact hap K .ret st h
    | region id ops draw => exact regionK_tail (f := fun j st => ap E j fin (run E j fin d) K .nrm st) (fun st h => hap K .nrm st h) h
    | seq a b => exact ih a _ st h
    | block id b => exact ih b _ st h
    | cond c a b =>
      simp only [run] at h ⊢
      split at h
      · rename_i x _
        cases x with
        | true => exact ih a K st h
        | false => exact ih b K st h
      · rename_i e n _
        cases e with
        | true => exact .inr fun _ => h
        | false =>
          cases n with
          | true => exact ih a K st h
          | false => exact ih b K st h
      · cases h
    | loop b =>
      simp only [run] at h ⊢
      split at h
      · split at h
        · exact jmp_tail h
        · cases h
      · cases h
    | _ => cases h
/-- A run without a jump is one whatever the jumps come to. -/
theorem noJ_run {d : Nat} {c : Code} {K : Kont} {st : ASt} (h : run E noJ fin d c K st = some r) (j : Tgt → ASt → Option R) : run E j fin d c K st = some r := by
  rcases run_tail (jmp := noJ) d c K st h with ⟨t, s, h1, _⟩ | h1
  · cases h1
  · exact h1 j
theorem runs_mono : ∀ (n : Nat) (t : Tgt) (st : ASt), runs E fin n t st = some r → runs E fin (n + 1) t st = some r := by
  intro n
  induction n with
  | zero => intro t st h; cases h
  | succ n ih =>
    intro t st h
    rcases run_tail _ _ _ _ h with ⟨t', st', h1, h2⟩ | h1
    · exact h2 _ (ih t' st' h1)
    · exact h1 _
theorem runs_le {n m : Nat} (h : n ≤ m) {t : Tgt} {st : ASt} (hr : runs E fin n t st = some r) : runs E fin m t st = some r := by
  induction h with
  | refl => exact hr
  | step _ ih => exact runs_mono _ _ _ ih
open Classical in
/-- What a run comes to, however many jumps it takes. -/
noncomputable def lim (E : Env) (fin : ASt → Option R) (t : Tgt) (st : ASt) : Option R :=
  if h : ∃ r n, runs E fin n t st = some r then some h.choose else none
theorem lim_some {t : Tgt} {st : ASt} : lim E fin t st = some r ↔ ∃ n, runs E fin n t st = some r := by
  unfold lim
  constructor
  · intro h
    split at h
    · rename_i hx
      obtain ⟨n, hn⟩ := hx.choose_spec
      cases h
      exact ⟨n, hn⟩
    · cases h
  · rintro ⟨n, hn⟩
    have hx : ∃ r n, runs E fin n t st = some r := ⟨r, n, hn⟩
    rw [dif_pos hx]
    obtain ⟨m, hm⟩ := hx.choose_spec
    have h1 := runs_le (Nat.le_max_left n m) hn
    have h2 := runs_le (Nat.le_max_right n m) hm
    rw [h1] at h2
    exact h2.symm
/-- A run, and its jumps. -/
theorem lim_eq (t : Tgt) (st : ASt) : lim E fin t st = run E (lim E fin) fin depth t.c t.k st := by
  have key : ∀ r, lim E fin t st = some r ↔ run E (lim E fin) fin depth t.c t.k st = some r := by
    intro r
    rw [lim_some]
    constructor
    · rintro ⟨n, hn⟩
      cases n with
      | zero => cases hn
      | succ n =>
        rcases run_tail _ _ _ _ hn with ⟨t', st', h1, h2⟩ | h1
        · exact h2 _ (lim_some.2 ⟨n, h1⟩)
        · exact h1 _
    · intro h
      rcases run_tail _ _ _ _ h with ⟨t', st', h1, h2⟩ | h1
      · obtain ⟨n, hn⟩ := lim_some.1 h1
        exact ⟨n + 1, h2 _ hn⟩
      · exact ⟨1, h1 _⟩
  cases h : lim E fin t st with
  | some r => exact ((key r).1 h).symm
  | none =>
    cases h' : run E (lim E fin) fin depth t.c t.k st with
    | none => rfl
    | some r => rw [(key r).2 h'] at h; cases h
end
def XT.exit : XT → Exit
  | .nrm => .normal
  | .ret => .ret
  | .ex id => .exit id
/-- What the way out of a piece of code has to bring, where 'K' is left to do and 'Q' holds at the end: n rounds of a loop at most. -/
def KQ (P : Program) (Q : Exit → Act → World → Prop) (n : Nat) : Kont → Exit → Act → World → Prop
  | .ret => Q
  | .seq b K => Exit.then (b.wp P (KQ P Q n K)) (KQ P Q n K)
  | .blk id K => Exit.inBlock id (KQ P Q n K)
  | .loop b K => Exit.then (Code.rounds P b (KQ P Q n K) n) (KQ P Q n K)
theorem rounds_mono {c : Code} {Q Q' : Exit → Act → World → Prop} (hq : ∀ e a w, Q e a w → Q' e a w) : ∀ (n m : Nat), n ≤ m → ∀ a w, Code.rounds P c Q n a w → Code.rounds P c Q' m a w := by
  intro n
  induction n with
  | zero => intro m _ a w h; exact h.elim
  | succ n ih =>
    intro m hm a w h
    obtain ⟨m, rfl⟩ : ∃ k, m = k + 1 := ⟨m - 1, by omega⟩
    rw [rounds_succ] at h ⊢
    refine Code.wp_mono (fun e a w h => ?_) h
    cases e <;> first | exact hq _ _ _ h | exact ih m (by omega) _ _ h
theorem KQ_mono {Q : Exit → Act → World → Prop} {n m : Nat} (hnm : n ≤ m) : ∀ (K : Kont) (e : Exit) (a : Act) (w : World), KQ P Q n K e a w → KQ P Q m K e a w := by
  intro K
  induction K with
  | ret => intro e a w h; exact h
  | seq b K ih =>
    intro e a w h
    cases e <;> first | exact ih _ _ _ h | exact Code.wp_mono ih h
  | blk id K ih =>
    intro e a w h
    cases e with
    | exit j =>
      simp only [KQ, Exit.inBlock] at h ⊢
      split
      · rename_i e; rw [if_pos e] at h; exact ih _ _ _ h
      · rename_i e; rw [if_neg e] at h; exact ih _ _ _ h
    | _ => exact ih _ _ _ h
  | loop b K ih =>
    intro e a w h
    cases e <;> first | exact ih _ _ _ h | exact rounds_mono ih n m hnm _ _ h
section
variable {C : Entry} {Q : Exit → Act → World → Prop}
/-- The state is as the abstract one says, and the call has put nothing off. -/
structure Fits (E : Env) (C : Entry) (st : ASt) (a : Act) (w : World) : Prop where
  good : ∃ S γ, Good C w S γ st a.tmps
  size : a.tmps.size = E.nt
  defers : a.defers = []
theorem Fits.clean {st st' : ASt} {a : Act} {w : World} {L : List (Nat × KM)} (h : Fits E C st a w) (hc : clean st L = some st') : Fits E C st' a w := by
  obtain ⟨⟨S, γ, hg⟩, h2, h3⟩ := h
  obtain ⟨S', γ', h4⟩ := clean_ok hg hc
  exact ⟨⟨S', γ', h4⟩, h2, h3⟩
/-- What a run of code says holds of the code, if it does for the jumps. -/
theorem run_sound (hm : P.follows .mixedOrders = true) (hT : TtOk P E.tt) (hC : EnvOk P E) {R : Type} {r : R} {jmp : Tgt → ASt → Option R} {fin : ASt → Option R} {n : Nat}
    (hfin : ∀ x st a w, (x = XT.nrm ∨ x = XT.ret) → fin st = some r → Fits E C st a w → Q x.exit a w)
    (hjc : ∀ c K st a w, jmp (.code c K) st = some r → Fits E C st a w → c.wp P (KQ P Q n K) a w)
    (hjl : ∀ b K st a w, jmp (.loop b K) st = some r → Fits E C st a w → Code.rounds P b (KQ P Q n K) n a w) :
    ∀ (d : Nat) (c : Code) (K : Kont) (st : ASt) (a : Act) (w : World), run E jmp fin d c K st = some r → Fits E C st a w → c.wp P (KQ P Q n K) a w := by
  intro d
  induction d with
  | zero => intro c K st a w h hf; exact hjc c K st a w h hf
  | succ d ih =>
    have hap : ∀ (K : Kont) (x : XT) (st : ASt) (a : Act) (w : World), ap E jmp fin (run E jmp fin d) K x st = some r → Fits E C st a w → KQ P Q n K x.exit a w := by
      intro K
      induction K with
      | ret =>
        intro x st a w h hf
        cases x with
        | ex i => cases h
        | nrm => exact hfin .nrm st a w (.inl rfl) h hf
        | ret => exact hfin .ret st a w (.inr rfl) h hf
      | seq b K ihK =>
        intro x st a w h hf
        cases x with
        | ex i => exact ihK (.ex i) st a w h hf
        | ret => exact ihK .ret st a w h hf
        | nrm =>
          simp only [ap] at h
          split at h
          · exact ih b K st a w h hf
          · split at h
            · rename_i st' hst'
              exact hjc b K st' a w h (hf.clean hst')
            · cases h
      | blk id K ihK =>
        intro x st a w h hf
        cases x with
        | nrm => exact ihK .nrm st a w h hf
        | ret => exact ihK .ret st a w h hf
        | ex j =>
          simp only [ap] at h
          simp only [XT.exit, KQ, Exit.inBlock]
          cases hb : Nat.beq j id with
          | true =>
            rw [hb] at h
            rw [if_pos (Nat.eq_of_beq_eq_true hb)]
            exact ihK .nrm st a w h hf
          | false =>
            rw [hb] at h
            rw [if_neg (fun e => by subst e; simp at hb)]
            exact ihK (.ex j) st a w h hf
      | loop b K ihK =>
        intro x st a w h hf
        cases x with
        | ex i => exact ihK (.ex i) st a w h hf
        | ret => exact ihK .ret st a w h hf
        | nrm =>
          simp only [ap] at h
          split at h
          · split at h
            · rename_i st' hst'
              exact hjl b K st' a w h (hf.clean hst')
            · cases h
          · cases h
    intro c K st a w h hf
    cases c with
    | skip => exact wp_skip (hap K .nrm st a w h hf)
    | ret => exact wp_ret (hap K .ret st a w h hf)
    | exit id => exact wp_exit (hap K (.ex id) st a w h hf)
    | region id ops draw =>
      obtain ⟨⟨S, γ, hg⟩, h2, h3⟩ := hf
      exact region_sound hm hT hC h hg h2 h3 (fun st' a' w' S' γ' g1 g2 g3 g4 => hap K .nrm st' a' w' g1 ⟨⟨S', γ', g2⟩, g3, g4⟩)
    | seq x y => exact wp_seq (ih x (.seq y K) st a w h hf)
    | cond c x y =>
      simp only [run] at h
      split at h
      · rename_i b hb
        obtain ⟨S, γ, hg⟩ := hf.good
        obtain ⟨cs, e1, e2⟩ := ev_rep hg.rel hb
        have e1' : cs = [.bool b] := e1
        subst e1'
        have e2' : a.eval c = .bool b := e2
        refine wp_cond e2' ?_
        cases b with
        | true => exact ih x K st a w h hf
        | false => exact ih y K st a w h hf
      · rename_i e m hb
        obtain ⟨S, γ, hg⟩ := hf.good
        obtain ⟨c', e1, e2⟩ := ev_rep hg.rel hb
        refine wp_cond e1 ?_
        cases e with
        | true =>
          obtain ⟨h1, h2⟩ := both_some h
          cases c' with
          | true => exact ih x K st a w (noJ_run h1 _) hf
          | false => exact ih y K st a w (noJ_run h2 _) hf
        | false =>
          have := e2 rfl
          subst this
          cases c' with
          | true => exact ih x K st a w h hf
          | false => exact ih y K st a w h hf
      · cases h
    | block id b => exact wp_block (ih b (.blk id K) st a w h hf)
    | loop b =>
      simp only [run] at h
      split at h
      · split at h
        · rename_i st' hst'
          exact wp_loop_rounds n (hjl b K st' a w h (hf.clean hst'))
        · cases h
      · cases h
    | _ => cases h
/-- What a run comes to holds of the code. -/
theorem runs_sound (hm : P.follows .mixedOrders = true) (hT : TtOk P E.tt) (hC : EnvOk P E) {R : Type} {r : R} {fin : ASt → Option R}
    (hfin : ∀ x st a w, (x = XT.nrm ∨ x = XT.ret) → fin st = some r → Fits E C st a w → Q x.exit a w) :
    ∀ (n : Nat) (t : Tgt) (st : ASt) (a : Act) (w : World), runs E fin (n + 1) t st = some r → Fits E C st a w → t.c.wp P (KQ P Q n t.k) a w := by
  intro n
  induction n with
  | zero =>
    intro t st a w h hf
    exact run_sound hm hT hC hfin (fun c K st a w h => by cases h) (fun b K st a w h => by cases h) depth t.c t.k st a w h hf
  | succ n ih =>
    intro t st a w h hf
    refine run_sound hm hT hC hfin (fun c K st a w h hf => ?_) (fun b K st a w h hf => ?_) depth t.c t.k st a w h hf
    · exact Code.wp_mono (KQ_mono (Nat.le_succ n) K) (ih (.code c K) st a w h hf)
    · have h1 := ih (.loop b K) st a w h hf
      rw [rounds_succ]
      refine Code.wp_mono (fun e a w h => ?_) h1
      cases e <;> first | exact KQ_mono (Nat.le_succ n) K _ _ _ h | exact rounds_mono (KQ_mono (Nat.le_succ n) K) n n (Nat.le_refl _) _ _ h
theorem lim_sound (hm : P.follows .mixedOrders = true) (hT : TtOk P E.tt) (hC : EnvOk P E) {R : Type} {r : R} {fin : ASt → Option R}
    (hfin : ∀ x st a w, (x = XT.nrm ∨ x = XT.ret) → fin st = some r → Fits E C st a w → Q x.exit a w) {c : Code} {st : ASt} {a : Act} {w : World}
    (h : lim E fin (.code c .ret) st = some r) (hf : Fits E C st a w) : c.wp P Q a w := by
  obtain ⟨n, hn⟩ := lim_some.1 h
  cases n with
  | zero => cases hn
  | succ n => exact runs_sound hm hT hC hfin n _ st a w hn hf
end
end Go.Lift
namespace Go.Lift
open Go
variable {P : Program} {E : Env}
section
variable {C : Entry} {w : World} {S : Nat → Prop} {γ : Gam} {st : ASt}
/-- The rows of the parameters, as they come back. -/
theorem collOut_ok {rows : RT} : ∀ (ps : List PM) (i : Nat) (z : (outTy ps).den), collOut rows i ps = some z → ∀ k x, look (exitRows i ps z) k = some x →
    ∃ r, x = some r ∧ rows k = some r ∧ r.k = .fixed ∧ 10000 + i ≤ k ∧ k < 10000 + i + ps.length := by
  intro ps
  induction ps with
  | nil => intro i z _ k x h; simp [exitRows, look] at h
  | cons p ps ih =>
    intro i z hz k x h
    cases p with
    | pure t =>
      obtain ⟨r, h1, h2, h3, h4, h5⟩ := ih (i + 1) z hz k x h
      exact ⟨r, h1, h2, h3, by omega, by simp; omega⟩
    | fn t =>
      obtain ⟨r, h1, h2, h3, h4, h5⟩ := ih (i + 1) z hz k x h
      exact ⟨r, h1, h2, h3, by omega, by simp; omega⟩
    | rd t =>
      obtain ⟨r, h1, h2, h3, h4, h5⟩ := ih (i + 1) z hz k x h
      exact ⟨r, h1, h2, h3, by omega, by simp; omega⟩
    | rfn f t =>
      obtain ⟨r, h1, h2, h3, h4, h5⟩ := ih (i + 1) z hz k x h
      exact ⟨r, h1, h2, h3, by omega, by simp; omega⟩
    | nil =>
      obtain ⟨r, h1, h2, h3, h4, h5⟩ := ih (i + 1) z hz k x h
      exact ⟨r, h1, h2, h3, by omega, by simp; omega⟩
    | give t =>
      obtain ⟨r, h1, h2, h3, h4, h5⟩ := ih (i + 1) z hz k x h
      exact ⟨r, h1, h2, h3, by omega, by simp; omega⟩
    | own t =>
      simp only [collOut] at hz
      split at hz
      · rename_i r hr
        split at hz
        · rename_i l hk hl
          split at hz
          · rename_i z' hz'
            cases hz
            simp only [exitRows, look_cons] at h
            split at h
            · rename_i e
              simp only [Option.some.injEq] at h
              subst h
              obtain ⟨e1, e2⟩ := castTy_some hl
              have e3 : r.t = t := by injection e1
              cases r with
              | mk rk rt rl =>
                simp only at e3 hk e2
                subst e3 hk e2
                exact ⟨_, rfl, by rw [← e]; exact hr, rfl, by omega, by simp; omega⟩
            · obtain ⟨r', h1, h2, h3, h4, h5⟩ := ih (i + 1) z' hz' k x h
              exact ⟨r', h1, h2, h3, by omega, by simp; omega⟩
          · cases hz
        · cases hz
      · cases hz
    | ptr t f =>
      simp only [collOut] at hz
      split at hz
      · rename_i r hr
        split at hz
        · rename_i x0 hk hl
          split at hz
          · rename_i z' hz'
            cases hz
            simp only [exitRows, look_cons] at h
            split at h
            · rename_i e
              simp only [Option.some.injEq] at h
              subst h
              obtain ⟨e1, e2⟩ := castTy_some hl
              have e3 : r.t = t := by injection e1
              cases r with
              | mk rk rt rl =>
                simp only at e3 hk e2
                subst e3 hk e2
                exact ⟨_, rfl, by rw [← e]; exact hr, rfl, by omega, by simp; omega⟩
            · obtain ⟨r', h1, h2, h3, h4, h5⟩ := ih (i + 1) z' hz' k x h
              exact ⟨r', h1, h2, h3, by omega, by simp; omega⟩
          · cases hz
        · cases hz
      · cases hz
/-- What is known of a result that is a row of the call's own. -/
theorem ownRes_ok (hrow : ∀ id r, st.row id = some r → RowOk w S γ id r) {t : Ty} {s : SV} {l : List t.den} {ids : List Nat} {v : Value} {n : Nat} (h : ownRes st.row t s = some (l, ids)) (hv : RepS w S γ st.row s v) :
    (ids = [] ∧ l = [] ∧ OwnSl w (fun k => if k = n then none else γ k) n t.nc 0 0 v) ∨
    (∃ id r0 g, ids = [id] ∧ st.row id = some r0 ∧ r0.k = .free ∧ (∀ b p, g = some (b, p) → ∃ q, γ id = some (b, q)) ∧ RowOk w S (fun k => if k = n then g else γ k) n ⟨.free, t, l⟩ ∧
      OwnSl w (fun k => if k = n then g else γ k) n t.nc 0 l.length v) := by
  cases s with
  | nilsl =>
    simp only [ownRes, Option.some.injEq, Prod.mk.injEq] at h
    obtain ⟨rfl, rfl⟩ := h
    obtain ⟨a, rfl⟩ := hv
    exact .inl ⟨rfl, rfl, a, 0, rfl, Nat.le_refl _, by simp, .inl rfl⟩
  | own id =>
    simp only [ownRes] at h
    split at h
    · rename_i r hr
      split at h
      · rename_i l0 hk hl
        simp only [Option.some.injEq, Prod.mk.injEq] at h
        obtain ⟨rfl, rfl⟩ := h
        obtain ⟨e1, e2⟩ := castTy_some hl
        have e3 : r.t = t := by injection e1
        have hro := hrow id r hr
        have hown := hv r hr
        cases r with
        | mk rk rt rl =>
          simp only at e3 hk e2 hown
          subst e3 hk e2
          refine .inr ⟨id, _, γ id, rfl, hr, rfl, fun b p e => ⟨p, e⟩, ⟨fun e => hro.nil (by simpa using e), fun b p e => hro.mem b p (by simpa using e), fun b p e => hro.st b p (by simpa using e)⟩, hown.re (by simp)⟩
      · cases h
    · cases h
  | osub id lo len =>
    simp only [ownRes] at h
    split at h
    · rename_i r hr
      split at h
      · rename_i l0 hk hl
        simp only [Option.some.injEq, Prod.mk.injEq] at h
        obtain ⟨rfl, rfl⟩ := h
        obtain ⟨e1, e2⟩ := castTy_some hl
        have e3 : r.t = t := by injection e1
        have hro := hrow id r hr
        obtain ⟨hle, hown⟩ := hv r hr
        cases r with
        | mk rk rt rl =>
          simp only at e3 hk e2 hown hle
          subst e3 hk e2
          have hlen : ((rl.drop lo).take len).length = len := by simp only [List.length_take, List.length_drop]; omega
          refine .inr ⟨id, _, (γ id).map fun x => (x.1, x.2 + lo * rt.nc), rfl, hr, rfl, fun b p e => ?_, ⟨fun e => ?_, fun b p e => ?_, fun b p e => ?_⟩, ?_⟩
          · simp only [Option.map_eq_some_iff, Prod.mk.injEq, Prod.exists] at e
            obtain ⟨b', p', e1, rfl, rfl⟩ := e
            exact ⟨p', e1⟩
          · simp only [if_true, Option.map_eq_none_iff] at e
            have := hro.nil e
            simp only at this
            simp only [this, List.drop_nil, List.take_nil]
          · simp only [if_true, Option.map_eq_some_iff, Prod.mk.injEq, Prod.exists] at e
            obtain ⟨b', p', e1, rfl, rfl⟩ := e
            rcases hro.mem b' p' e1 with ⟨cur, t, c1, c2⟩ | ⟨hm, hm2⟩
            rotate_left
            · exact .inr ⟨by simp only at hm; simp only [hm, List.drop_nil, List.take_nil], hm2⟩
            refine .inl ⟨cur, t, c1, fun k x hx => ?_⟩
            have hk' : k < len := by have := (List.getElem?_eq_some_iff.1 hx).1; simp only [hlen] at this; exact this
            simp only at hx
            rw [List.getElem?_take_of_lt hk', List.getElem?_drop] at hx
            obtain ⟨ds, d1, d2⟩ := c2 (lo + k) x hx
            refine ⟨ds, ?_, d2⟩
            rw [Nat.add_mul, ← Nat.add_assoc] at d1
            exact d1
          · simp only [if_true, Option.map_eq_some_iff, Prod.mk.injEq, Prod.exists] at e
            obtain ⟨b', p', e1, rfl, rfl⟩ := e
            exact hro.st b' p' e1
          · obtain ⟨a, cap, e1, e2, e3, e4⟩ := hown
            rw [hlen]
            refine ⟨a, cap, e1, e2, e3, e4.imp (fun h => h) ?_⟩
            rintro ⟨b, p, g1, g2, g3⟩
            refine ⟨b, p + lo * rt.nc, by simp [g1], by simpa using g2, ?_⟩
            rw [Nat.add_mul] at g3
            rw [Nat.zero_add, Nat.add_assoc]
            exact g3
      · cases h
    · cases h
  | _ => cases h
theorem coll_out {rows : RT} {ps : List PM} {d : Nat} : ∀ (rs : List RM) (i : Nat) (svs : List SV) (y : (resTy rs ps).den) (f ow : List Nat), coll rows ps rs svs = some (y, f, ow) → collOut rows 0 ps = some (res1 d i rs ps y).2.2 := by
  intro rs
  induction rs with
  | nil =>
    intro i svs y f ow h
    match svs, h with
    | _ :: _, h => simp [coll] at h
    | [], h =>
      simp only [coll] at h
      split at h
      · rename_i z hz
        cases h
        exact hz
      · cases h
  | cons r rs ih =>
    intro i svs y f ow h
    match svs, h with
    | [], h => cases r <;> simp [coll] at h
    | s :: svs, h =>
      cases r with
      | pure t =>
        simp only [coll] at h
        split at h
        · split at h
          · rename_i hz
            cases h
            exact ih _ _ _ _ _ hz
          · cases h
        · cases h
      | own t =>
        simp only [coll] at h
        split at h
        · split at h
          · rename_i hz
            cases h
            exact ih _ _ _ _ _ hz
          · cases h
        · cases h
      | rfn f0 ts =>
        cases s with
        | rfn g l =>
          simp only [coll] at h
          cases hb : Nat.beq f0 g with
          | false => rw [hb] at h; cases h
          | true =>
            rw [hb] at h
            simp only [cond_true] at h
            split at h
            · split at h
              · rename_i hz
                cases h
                exact ih _ _ _ _ _ hz
              · cases h
            · cases h
        | fn g caps =>
          simp only [coll] at h
          cases hb : Nat.beq f0 g with
          | false => rw [hb] at h; cases h
          | true =>
            rw [hb] at h
            simp only [cond_true] at h
            split at h
            · split at h
              · rename_i hz
                cases h
                exact ih _ _ _ _ _ hz
              · cases h
            · cases h
        | _ => simp [coll] at h
theorem some3 {α β δ : Type} {x x' : α} {y y' : β} {z z' : δ} (h : some (x, y, z) = some (x', y', z')) : x = x' ∧ y = y' ∧ z = z' := by
  cases h
  exact ⟨rfl, rfl, rfl⟩
/-- The results, laid out as the caller will find them. -/
theorem coll_ok {ps : List PM} {tv : Array Value} {tmps : Array Value} {frs : List Nat} {fr : Upd} (hg : Good C w S γ st tmps) (hfr : freeze st.row frs = some fr) (hps : ps.length ≤ 1000) :
    ∀ (rs : List RM) (i : Nat) (svs : List SV) (y : (resTy rs ps).den) (f ow : List Nat), coll st.row ps rs svs = some (y, f, ow) → (∀ id ∈ f, id ∈ frs) → ow.Nodup → (∀ id ∈ ow, id ∉ frs) →
    (∀ j s, svs[j]? = some s → ∃ v, tv[100000 + 4096 * (i + j)]? = some v ∧ RepS w S γ st.row s v) →
    ∃ s γ', Cln C w (SU S γ frs) γ (st.upd fr) tv False s γ' ∧ s.rows = (res1 100000 i rs ps y).2.1 ++ exitRows 0 ps (res1 100000 i rs ps y).2.2 ∧
      (∀ m x, look s.ren m = some x → m ∈ ow) ∧ (res1 100000 i rs ps y).1.length = rs.length ∧ svs.length = rs.length ∧
      (∀ j sv, (res1 100000 i rs ps y).1[j]? = some sv → look s.slots (100000 + 4096 * (i + j)) = some (.one sv)) := by
  have hgF : Good C w (SU S γ frs) γ (st.upd fr) tmps := Good.freeze (a := ⟨tmps, []⟩) hg (fun _ _ h => h) hfr
  obtain ⟨f1, f2⟩ := freeze_look hfr
  intro rs
  induction rs with
  | nil =>
    intro i svs y f ow hc hf hnd hof hsl
    match svs, hc with
    | _ :: _, hc => simp [coll] at hc
    | [], hc =>
      simp only [coll] at hc
      split at hc
      · rename_i z hz
        obtain ⟨rfl, rfl, rfl⟩ := some3 hc
        refine ⟨⟨[], exitRows 0 ps z, []⟩, γ, Cln.start hgF (fun id r h => ?_) (fun h => h.elim), rfl, (fun m x h => by cases h), rfl, rfl, (fun j sv h => by simp [res1] at h)⟩
        unfold CS.st ASt.row at h
        simp only at h
        cases hl : look (exitRows 0 ps z) id with
        | none => rw [hl] at h; cases h
        | some x =>
          rw [hl] at h
          obtain ⟨r', e1, e2, e3, _⟩ := collOut_ok ps 0 z hz id x hl
          subst e1
          simp only [Option.join_some, Option.some.injEq] at h
          subst h
          refine ⟨?_, e3⟩
          rw [ASt.row_upd]
          split
          · rename_i x hx
            obtain ⟨r0, a1, a2, a3, a4⟩ := f1 id x hx
            rw [e2] at a1
            cases a1
            rw [e3] at a2
            cases a2
          · exact e2
      · cases hc
  | cons r rs ih =>
    intro i svs y f ow hc hf hnd hof hsl
    match svs, hc with
    | [], hc => cases r <;> simp [coll] at hc
    | s :: svs, hc =>
      obtain ⟨v, hv, hrep⟩ := hsl 0 s rfl
      rw [Nat.add_zero] at hv
      have hsl' : ∀ j s, svs[j]? = some s → ∃ v, tv[100000 + 4096 * (i + 1 + j)]? = some v ∧ RepS w S γ st.row s v := fun j s hs => by
        have := hsl (j + 1) s (by simpa using hs)
        rwa [show i + (j + 1) = i + 1 + j by omega] at this
      cases r with
      | rfn f0 ts =>
        have fin : ∀ (x : (tupTy ts).den) (z : (resTy rs ps).den) (fr' ow' ids : List Nat), coll st.row ps rs svs = some (z, fr', ow') → y = (x, z) → f = ids ++ fr' → ow = ow' → RepS w (SU S γ ids) γ st.row (.rfn f0 (dvs ts x)) v →
            ∃ s0 γ', Cln C w (SU S γ frs) γ (st.upd fr) tv False s0 γ' ∧ s0.rows = (res1 100000 i (.rfn f0 ts :: rs) ps y).2.1 ++ exitRows 0 ps (res1 100000 i (.rfn f0 ts :: rs) ps y).2.2 ∧
              (∀ m x, look s0.ren m = some x → m ∈ ow) ∧ (res1 100000 i (.rfn f0 ts :: rs) ps y).1.length = (RM.rfn f0 ts :: rs).length ∧ (s :: svs).length = (RM.rfn f0 ts :: rs).length ∧
              (∀ j sv, (res1 100000 i (.rfn f0 ts :: rs) ps y).1[j]? = some sv → look s0.slots (100000 + 4096 * (i + j)) = some (.one sv)) := by
          intro x z fr' ow' ids hz e1 e2 e3 hr
          subst e1 e2 e3
          obtain ⟨s', γ', h1, h2, h3, h4, h5, h6⟩ := ih (i + 1) svs z fr' ow hz (fun id hid => hf id (List.mem_append_right _ hid)) hnd hof hsl'
          refine ⟨{ s' with slots := (100000 + 4096 * i, .one (.rfn f0 (dvs ts x))) :: s'.slots }, γ', h1.sl hv ?_ (fun id hid => by cases hid), h2, h3, by simp only [res1, List.length_cons, h4], by simp only [List.length_cons, h5], fun j sv hj => ?_⟩
          · exact rfn_mono (SU_mono (fun id hid => hf id (List.mem_append_left _ hid))) hr
          · simp only [res1] at hj
            cases j with
            | zero =>
              simp only [List.getElem?_cons_zero, Option.some.injEq] at hj
              subst hj
              simp [look_cons]
            | succ j =>
              simp only [List.getElem?_cons_succ] at hj
              rw [look_cons, if_neg (by omega), show i + (j + 1) = i + 1 + j by omega]
              exact h6 j sv hj
        cases s with
        | rfn g l =>
          simp only [coll] at hc
          cases hb : Nat.beq f0 g with
          | false => rw [hb] at hc; cases hc
          | true =>
            rw [hb] at hc
            simp only [cond_true] at hc
            have := Nat.eq_of_beq_eq_true hb
            subst this
            split at hc
            · rename_i x hx
              split at hc
              · rename_i z fr' ow' hz
                obtain ⟨e1, e2, e3⟩ := some3 hc
                refine fin x z fr' ow' [] hz e1.symm e2.symm e3.symm ?_
                rw [castDs_dvs ts l x hx]
                exact rfn_mono (S1 := S) SU_sub hrep
              · cases hc
            · cases hc
        | fn g caps =>
          simp only [coll] at hc
          cases hb : Nat.beq f0 g with
          | false => rw [hb] at hc; cases hc
          | true =>
            rw [hb] at hc
            simp only [cond_true] at hc
            have := Nat.eq_of_beq_eq_true hb
            subst this
            split at hc
            · rename_i x ids hx
              split at hc
              · rename_i z fr' ow' hz
                obtain ⟨e1, e2, e3⟩ := some3 hc
                refine fin x z fr' ow' ids hz e1.symm e2.symm e3.symm ?_
                obtain ⟨vs, g1, g2, g3⟩ := hrep
                obtain ⟨k1, k2⟩ := capsC_rep hg.rel.rows hg.rel.vars (fun _ _ h => h) ts caps x ids vs hx g2 g3
                exact ⟨vs, g1, k1, k2⟩
              · cases hc
            · cases hc
        | _ => simp [coll] at hc
      | pure t =>
        simp only [coll] at hc
        split at hc
        · rename_i x ids hx
          split at hc
          · rename_i z fr' ow' hz
            obtain ⟨rfl, rfl, rfl⟩ := some3 hc
            obtain ⟨s', γ', h1, h2, h3, h4, h5, h6⟩ := ih (i + 1) svs z fr' ow' hz (fun id hid => hf id (List.mem_append_right _ hid)) hnd hof hsl'
            refine ⟨{ s' with slots := (100000 + 4096 * i, .one (.val t x)) :: s'.slots }, γ', h1.sl hv ?_ (fun id hid => by cases hid), h2, h3, by simp only [res1, List.length_cons, h4], by simp only [List.length_cons, h5], fun j sv hj => ?_⟩
            · have := toPure_rep hg.rel.rows (fun _ _ h => h) hx hrep
              exact RepV.mono (SU_mono (fun id hid => hf id (List.mem_append_left _ hid))) (fun _ _ => rfl) this
            · simp only [res1] at hj
              cases j with
              | zero =>
                simp only [List.getElem?_cons_zero, Option.some.injEq] at hj
                subst hj
                simp [look_cons]
              | succ j =>
                simp only [List.getElem?_cons_succ] at hj
                rw [look_cons, if_neg (by omega), show i + (j + 1) = i + 1 + j by omega]
                exact h6 j sv hj
          · cases hc
        · cases hc
      | own t =>
        simp only [coll] at hc
        split at hc
        · rename_i x ids hx
          split at hc
          · rename_i z fr' ow' hz
            obtain ⟨rfl, rfl, rfl⟩ := some3 hc
            obtain ⟨hnd1, hnd2, hnd3⟩ := List.nodup_append.1 hnd
            obtain ⟨s', γ', h1, h2, h3, h4, h5, h6⟩ := ih (i + 1) svs z fr' ow' hz hf hnd2 (fun id hid => hof id (List.mem_append_right _ hid)) hsl'
            -- the row's name is free
            have hfree : look s'.rows (100000 + 4096 * i) = none := by
              rw [h2, look_append]
              cases hl : look (res1 100000 (i + 1) rs ps z).2.1 (100000 + 4096 * i) with
              | some q =>
                obtain ⟨j, _, _, e1, e2, _⟩ := res_keys rs 100000 (i + 1) ps z _ q hl
                omega
              | none =>
                cases hl2 : look (exitRows 0 ps (res1 100000 (i + 1) rs ps z).2.2) (100000 + 4096 * i) with
                | none => rfl
                | some q =>
                  have hcol := coll_out (d := 100000) rs (i + 1) svs z fr' ow' hz
                  obtain ⟨_, _, _, _, _, e⟩ := collOut_ok ps 0 _ hcol _ q hl2
                  omega
            have slots : ∀ (s2 : CS), s2.slots = (100000 + 4096 * i, .one (.own (100000 + 4096 * i))) :: s'.slots → ∀ j sv, (res1 100000 i (.own t :: rs) ps (x, z)).1[j]? = some sv → look s2.slots (100000 + 4096 * (i + j)) = some (.one sv) := by
              intro s2 hs2 j sv hj
              rw [hs2]
              simp only [res1] at hj
              cases j with
              | zero =>
                simp only [List.getElem?_cons_zero, Option.some.injEq] at hj
                subst hj
                simp [look_cons]
              | succ j =>
                simp only [List.getElem?_cons_succ] at hj
                rw [look_cons, if_neg (by omega), show i + (j + 1) = i + 1 + j by omega]
                exact h6 j sv hj
            rcases ownRes_ok (n := 100000 + 4096 * i) hg.rel.rows hx hrep with ⟨e1, e2, e3⟩ | ⟨id, r0, g, e1, e2, e3, e4, e5, e6⟩
            · subst e1 e2
              refine ⟨⟨(100000 + 4096 * i, .one (.own (100000 + 4096 * i))) :: s'.slots, (100000 + 4096 * i, some ⟨.free, t, []⟩) :: s'.rows, s'.ren⟩, _,
                h1.new (g := none) hv hfree rfl rfl ?_ ⟨fun _ => rfl, fun b p e => by simp at e, fun b p e => by simp at e⟩ (fun b p e => by cases e) (fun _ _ h => h) (fun m n h => .inl h) hgF.rel.inj, ?_, h3, ?_, ?_, slots _ rfl⟩
              · intro r' hr'
                simp only [if_true, Option.some.injEq] at hr'
                subst hr'
                exact e3.re (by simp)
              · simp only [res1, h2, List.cons_append]
              · simp only [res1, List.length_cons, h4]
              · simp only [List.length_cons, h5]
            · subst e1
              have hid : id ∉ frs := hof id (by simp)
              have hrowF : (st.upd fr).row id = some r0 := by rw [row_freeze hfr hid]; exact e2
              have hnren : look s'.ren id = none := by
                cases hl : look s'.ren id with
                | none => rfl
                | some q => exact absurd rfl (hnd3 id (by simp) id (h3 id q hl))
              refine ⟨⟨(100000 + 4096 * i, .one (.own (100000 + 4096 * i))) :: s'.slots, (100000 + 4096 * i, some ⟨.free, t, x⟩) :: s'.rows, (id, none) :: s'.ren⟩, _,
                h1.new (g := g) hv hfree rfl rfl ?_ ?_ (fun b p e => ?_) (ren_old hnren) (fun m n hm => ?_) hgF.rel.inj, ?_, fun m q hm => ?_, ?_, ?_, slots _ rfl⟩
              · intro r' hr'
                simp only [if_true, Option.some.injEq] at hr'
                subst hr'
                exact e6.re (by simp)
              · refine ⟨fun e => e5.nil (by simpa using e), fun b p e => ?_, fun b p e => ?_⟩
                · rcases e5.mem b p (by simpa using e) with ⟨cur, t', c1, c2⟩ | hm
                  · exact .inl ⟨cur, t', c1, fun k x hx => let ⟨ds, d1, d2⟩ := c2 k x hx; ⟨ds, d1, d2.mono SU_sub (fun _ _ => rfl)⟩⟩
                  · exact .inr hm
                · simp only [if_true] at e
                  obtain ⟨q, hq⟩ := e4 b p e
                  have := (hgF.rel.rows id r0 hrowF).st b q hq
                  rw [e3] at this
                  exact this
              · obtain ⟨q, hq⟩ := e4 b p e
                exact ⟨(hg.fr.rows id r0 b q e2 hq).2 (by rw [e3]; simp), id, r0, q, hrowF, hq, by rw [e3]; simp, hnren, none, by simp [look]⟩
              · rw [look_cons] at hm
                split at hm
                · cases hm
                · exact .inl hm
              · simp only [res1, h2, List.cons_append]
              · rw [look_cons] at hm
                split at hm
                · rename_i e; subst e; simp
                · exact List.mem_append_right _ (h3 m q hm)
              · simp only [res1, List.length_cons, h4]
              · simp only [List.length_cons, h5]
          · cases hc
        · cases hc
/-- What a call gives back, for its results. -/
def packV (vs : List Value) : Value := if vs.length = 1 then vs.getD 0 undef else .tuple vs.toArray
theorem run_res (hT : TtOk P E.tt) {tmps : Array Value} (hg : Good C w S γ st tmps) (F : ResultVar → Sem Value) (hF1 : ∀ t, F (.tmp t) = pure (tmps.getD t undef)) (hF2 : ∀ a t, F (.cell a t) = (do loadVar t (← asAddr (tmps.getD a undef)))) :
    ∀ (res : List ResultVar) (vs : List SV), resVs E st res = some vs → ∃ vals : List Value, (res.mapM (m := Sem) F).run P w = .ok vals w ∧ vals.length = vs.length ∧ vs.length = res.length ∧
      ∀ (j : Nat) s, vs[j]? = some s → ∃ v, vals[j]? = some v ∧ RepS w S γ st.row s v := by
  intro res
  induction res with
  | nil =>
    intro vs h
    simp only [resVs, Option.some.injEq] at h
    subst h
    exact ⟨[], by simp [List.mapM_nil], rfl, rfl, fun j s h => by simp at h⟩
  | cons x res ih =>
    intro vs h
    simp only [resVs] at h
    split at h
    · rename_i s hs
      split at h
      · rename_i r hr
        simp only [Option.some.injEq] at h
        subst h
        obtain ⟨vals, h1, h2, h3, h4⟩ := ih r hr
        have key : ∃ v, (F x).run P w = .ok v w ∧ RepS w S γ st.row s v := by
          cases x with
          | tmp t =>
            simp only [resV] at hs
            split at hs
            · rename_i s' hs'
              cases hs
              obtain ⟨v, hv, hrep⟩ := hg.rel.slots t _ hs'
              refine ⟨v, ?_, hrep⟩
              rw [hF1]
              simp [hv]
            · cases hs
          | cell a t =>
            simp only [resV] at hs
            split at hs
            · rename_i id ha
              split at hs
              · rename_i r0 hr0
                split at hs
                · rename_i y hy
                  cases hd : decide (E.ty t = some r0.t) with
                  | false => rw [hd] at hs; cases hs
                  | true =>
                    rw [hd] at hs
                    cases hs
                    have ht : E.ty t = some r0.t := by simpa using hd
                    obtain ⟨v, hv, hrep⟩ := hg.rel.slots a _ ha
                    obtain ⟨g1, b, q, uu, o, g2, g3, g4⟩ := hrep r0 hr0
                    obtain ⟨ds, d1, d2⟩ := mem_row (hg.rel.rows id r0 hr0) g1 g2
                    simp only [Ty.at, Option.some.injEq, Prod.mk.injEq] at g3
                    obtain ⟨rfl, rfl⟩ := g3
                    have hy' : r0.l.getD 0 r0.t.zero = y := by rw [hy]; rfl
                    rw [hy'] at d2
                    refine ⟨pack r0.t ds, ?_, ds, d2, rfl⟩
                    rw [hF2]
                    have hget : tmps.getD a undef = v := by simp [hv]
                    rw [hget, g4]
                    simp only [asAddr, Sem.run_bind, Sem.run_pure, Result.andThen_ok, Nat.add_zero]
                    exact run_loadVar' (hT.at ht) d1 d2
                · cases hs
              · cases hs
            · cases hs
        obtain ⟨v, hv, hrep⟩ := key
        refine ⟨v :: vals, ?_, by simp [h2], by simp [h3], fun j s' hj => ?_⟩
        · rw [List.mapM_cons]
          simp only [Sem.run_bind, Sem.run_pure, Result.andThen_ok, hv, h1]
        · cases j with
          | zero => simp only [List.getElem?_cons_zero, Option.some.injEq] at hj; subst hj; exact ⟨v, rfl, hrep⟩
          | succ j => exact h4 j s' (by simpa using hj)
      · cases h
    · cases h
theorem run_results (hT : TtOk P E.tt) {tmps : Array Value} (hg : Good C w S γ st tmps) {fn : Func} {vs : List SV} (h : resVs E st fn.results.toList = some vs) :
    ∃ vals : List Value, (results fn tmps).run P w = .ok (packV vals) w ∧ vals.length = vs.length ∧ vs.length = fn.results.toList.length ∧ ∀ (j : Nat) s, vs[j]? = some s → ∃ v, vals[j]? = some v ∧ RepS w S γ st.row s v := by
  obtain ⟨vals, h1, h2, h3, h4⟩ := run_res hT hg (fun x => match x with
    | .tmp t => (pure (tmps.getD t undef) : Sem Value)
    | .cell a t => do loadVar t (← asAddr (tmps.getD a undef))) (fun _ => rfl) (fun _ _ => rfl) _ vs h
  refine ⟨vals, ?_, h2, h3, h4⟩
  have e : (fn.results.mapM (m := Sem) fun x => match x with
    | .tmp t => (pure (tmps.getD t undef) : Sem Value)
    | .cell a t => do loadVar t (← asAddr (tmps.getD a undef))).run P w = .ok vals.toArray w := by
    rw [Array.mapM_eq_mapM_toList, Sem.run_map, h1]
    rfl
  unfold results
  rw [Sem.run_bind]
  refine Eq.trans (congrArg (fun r : Result (Array Value) => r.andThen _) e) ?_
  simp only [Result.andThen_ok, Sem.run_pure, packV]
  by_cases hl : vals.length = 1
  · match vals, hl with
    | [t], _ => simp
  · simp [hl]
theorem pack_reps {S' : Nat → Prop} {γ' : Gam} {R : RT} {l : List SV} {vs : List Value} (hl : l.length = vs.length) (h : ∀ (j : Nat) s, l[j]? = some s → ∃ v, vs[j]? = some v ∧ RepS w S' γ' R s v) :
    RepA w S' γ' R (packAV l) (packV vs) := by
  match l, vs, hl with
  | [], [], _ => exact ⟨[], rfl, rfl, fun k s hk => by simp at hk⟩
  | [s], [v], _ =>
    obtain ⟨u, h1, h2⟩ := h 0 s rfl
    simp only [List.getElem?_cons_zero, Option.some.injEq] at h1
    subst h1
    exact h2
  | s1 :: s2 :: l, v1 :: v2 :: vs, hl =>
    refine ⟨v1 :: v2 :: vs, ?_, hl.symm, fun k s hk => h k s hk⟩
    simp [packV]
theorem entry_keys : ∀ (ps : List PM) (i : Nat) (x : (argTy ps).den) (k : Nat) (r : Row), (entryFrom i ps x).row k = some r → r.k = .fixed ∨ r.k = .free := by
  intro ps
  induction ps with
  | nil => intro i x k r h; simp [entryFrom, ASt.row, look] at h
  | cons p ps ih =>
    intro i x k r h
    cases p with
    | pure t => exact ih (i + 1) x.2 k r h
    | fn f => exact ih (i + 1) x.2 k r h
    | rd t => exact ih (i + 1) x.2 k r h
    | rfn f ts => exact ih (i + 1) x.2 k r h
    | nil => exact ih (i + 1) x.2 k r h
    | own t =>
      change (look ((10000 + i, some ⟨.fixed, t, x.1⟩) :: (entryFrom (i + 1) ps x.2).rows) k).join = some r at h
      rw [look_cons] at h
      split at h
      · cases h; exact .inl rfl
      · exact ih (i + 1) x.2 k r h
    | ptr t f =>
      change (look ((10000 + i, some ⟨.fixed, t, [x.1]⟩) :: (entryFrom (i + 1) ps x.2).rows) k).join = some r at h
      rw [look_cons] at h
      split at h
      · cases h; exact .inl rfl
      · exact ih (i + 1) x.2 k r h
    | give t =>
      change (look ((10000 + i, some ⟨.free, t, x.1⟩) :: (entryFrom (i + 1) ps x.2).rows) k).join = some r at h
      rw [look_cons] at h
      split at h
      · cases h; exact .inr rfl
      · exact ih (i + 1) x.2 k r h
theorem entry_good {ps : List PM} {x : (argTy ps).den} {vals : Array Value} (h : Rel w S γ (entryFrom 0 ps x) vals) : Good (entryC w S γ (entryFrom 0 ps x)) w S γ (entryFrom 0 ps x) vals := by
  refine ⟨h, ⟨Nat.le_refl _, rfl, rfl, rfl, fun _ _ _ => rfl, fun _ _ h => h, fun _ h => h, fun _ h => .inl h, fun id r b p h1 h2 => ⟨fun _ => ⟨id, r, p, h1, h2⟩, fun h3 => .inr ⟨id, r, p, h1, h2, (entry_keys ps 0 x id r h1).resolve_left h3⟩⟩, fun id r h1 _ => ⟨?_, rfl⟩, fun b hb => let ⟨id, r, p, h1, h2, _⟩ := hb; ⟨id, r, p, h1, h2⟩, fun id r L h1 h2 => by rcases entry_keys ps 0 x id r h1 with h | h <;> rw [h] at h2 <;> cases h2⟩⟩
  change r.l.length = match (entryFrom 0 ps x).row id with | some r => r.l.length | none => 0
  rw [h1]
theorem Rel.more {tmps more : Array Value} (h : Rel w S γ st tmps) : Rel w S γ st (tmps ++ more) := by
  refine ⟨fun i av hi => ?_, h.rows, h.inj, h.lt, h.vars⟩
  obtain ⟨v, hv, hr⟩ := h.slots i av hi
  refine ⟨v, ?_, hr⟩
  rw [Array.getElem?_append_left (Array.getElem?_eq_some_iff.1 hv).1]
  exact hv
/-- Behind the body. -/
theorem Kret_ok (hT : TtOk P E.tt) {fn : Func} {ps : List PM} {rs : List RM} {y : (resTy rs ps).den} {tmps : Array Value} (h' : Kret E fn.results.toList ps rs st = some y) (hps : ps.length ≤ 1000) (hg : Good C w S γ st tmps) :
    ∃ v S' γ', (results fn tmps).run P w = .ok v w ∧ Good C w S' γ' (exitSt rs ps y) #[v] := by
  unfold Kret at h'
  split at h'
  · rename_i vs hvs
    split at h'
    · rename_i y' fr ow hc
      cases hb : (distinctB ow && !meets fr ow) with
      | false => rw [hb] at h'; cases h'
      | true =>
        rw [hb, cond_true] at h'
        simp only [Bool.and_eq_true, Bool.not_eq_true'] at hb
        split at h'
        · rename_i u hu
          obtain rfl := Option.some.inj h'
          obtain ⟨vals, hrun, hl1, hl2, hs⟩ := run_results hT hg hvs
          let n := 100000 + 4096 * (vs.length + 1)
          let tv : Array Value := Array.ofFn (n := n) fun k => vals.getD ((k.val - 100000) / 4096) undef
          have htv : ∀ (j : Nat) s, vs[j]? = some s → ∃ v, tv[100000 + 4096 * j]? = some v ∧ vals[j]? = some v ∧ RepS w S γ st.row s v := by
            intro j s hj
            obtain ⟨v, hv, hr⟩ := hs j s hj
            have hjl : j < vs.length := (List.getElem?_eq_some_iff.1 hj).1
            refine ⟨v, ?_, hv, hr⟩
            have hlt : 100000 + 4096 * j < n := by simp only [n]; omega
            simp only [tv, Array.getElem?_ofFn, hlt, dif_pos, Option.some.injEq]
            rw [show (100000 + 4096 * j - 100000) / 4096 = j by omega, List.getD_eq_getElem?_getD, hv]
            rfl
          obtain ⟨s, γ', h1, h2, _, h4, h5, h6⟩ := coll_ok (tv := tv) hg hu hps rs 0 vs y' fr ow hc (fun _ h => h) (distinctB_nodup hb.1)
            (fun id hid hfr => by rw [meets_of hfr hid] at hb; cases hb.2)
            (fun j s hj => by
              obtain ⟨v, e1, _, e2⟩ := htv j s hj
              rw [Nat.zero_add]
              exact ⟨v, e1, e2⟩)
          refine ⟨packV vals, SU S γ fr, γ', hrun, ?_⟩
          have hrow : (exitSt rs ps y').row = s.st.row := by
            funext k
            unfold CS.st ASt.row
            rw [h2]
            rfl
          have hgs := h1.good
          refine ⟨⟨fun i av hi => ?_, fun id r hr => hgs.rel.rows id r (by rw [← hrow]; exact hr), fun i j r r' b p q e1 e2 => hgs.rel.inj i j r r' b p q (by rw [← hrow]; exact e1) (by rw [← hrow]; exact e2), hgs.rel.lt, fun id r L e1 e2 => by rw [hrow] at e1 ⊢; exact hgs.rel.vars id r L e1 e2⟩,
            ⟨hgs.fr.size, hgs.fr.os, hgs.fr.tape, hgs.fr.output, hgs.fr.block, hgs.fr.blk, hgs.fr.s1, hgs.fr.s2, fun id r b p e => hgs.fr.rows id r b p (by rw [← hrow]; exact e), fun id r e => hgs.fr.fix id r (by rw [← hrow]; exact e), hgs.fr.gw, fun id r L e => hgs.fr.pv id r L (by rw [← hrow]; exact e)⟩⟩
          change look [(0, packAV (res1 100000 0 rs ps y').1)] i = some av at hi
          rw [look_cons] at hi
          split at hi
          · rename_i e
            subst e
            cases hi
            refine ⟨_, rfl, ?_⟩
            rw [hrow]
            refine pack_reps (by rw [h4, ← h5, hl1]) (fun j sv hj => ?_)
            have hsl := h6 j sv hj
            rw [Nat.zero_add] at hsl
            obtain ⟨v, hv, hr⟩ := hgs.rel.slots _ _ hsl
            have hjl : j < vs.length := by
              have := (List.getElem?_eq_some_iff.1 hj).1
              rw [h4, ← h5] at this
              exact this
            obtain ⟨v', e1, e2, _⟩ := htv j _ (List.getElem?_eq_getElem hjl)
            rw [e1] at hv
            cases hv
            exact ⟨_, e2, hr⟩
          · cases hi
        · cases h'
    · cases h'
  · cases h'
/-- A function's contract, from what a run of its body comes to. -/
theorem callOK_of_lim (hm : P.follows .mixedOrders = true) (hT : TtOk P E.tt) (hC : CtxOk P E.ctx) {f : Nat} {fn : Func} {body : Code} {sig : Sig} (hf : P.funcs[f]? = some fn) (hb : fn.body = some body)
    (hn : fn.ntmps = E.nt) (hp : sig.ps.length ≤ fn.ntmps) (hps : sig.ps.length ≤ 1000)
    (h : ∀ x y, sig.run x = some y → lim E (Kret E fn.results.toList sig.ps sig.rs) (.code body .ret) (entryFrom 0 sig.ps x) = some y) (hV : SvsOk P E.sv := by exact svsOk_nil) : CallOK P f sig := by
  intro w S γ vals x y hy hrel hsz
  refine calls_of_wp hf hb ?_
  have hg := entry_good (hrel.more (more := Array.replicate (fn.ntmps - vals.size) undef))
  refine lim_sound hm hT ⟨hC, hV⟩ (C := entryC w S γ (entryFrom 0 sig.ps x)) (fun x' st' a' w' hx h1 hf' => ?_) (h x y hy) ⟨⟨S, γ, hg⟩, by simp; omega, rfl⟩
  obtain ⟨⟨S', γ', hg'⟩, h3, h4⟩ := hf'
  obtain ⟨v, S2, γ2, hrun, hG⟩ := Kret_ok hT h1 hps hg'
  have post : a'.defers = [] ∧ ∃ v, (results fn a'.tmps).run P w' = .ok v w' ∧ ∃ v0 S' γ', Ending.returned v = .returned v0 ∧ Good (entryC w S γ (entryFrom 0 sig.ps x)) w' S' γ' (exitSt sig.rs sig.ps y) #[v0] :=
    ⟨h4, v, hrun, _, S2, γ2, rfl, hG⟩
  rcases hx with rfl | rfl
  · exact post
  · exact post
/-- A function that is handed a pointer to a variable of two cells. -/
theorem svOK_of_lim (hm : P.follows .mixedOrders = true) (hT : TtOk P E.tt) (hC : CtxOk P E.ctx) {f : Nat} {fn : Func} {body : Code} {s : SSig} (hf : P.funcs[f]? = some fn) (hb : fn.body = some body)
    (hn : fn.ntmps = E.nt) (hp : 2 ≤ fn.ntmps) (hres : fn.results.toList = [])
    (h : ∀ l y m, s.run l y = some m → lim E (svRet s.t s.f) (.code body .ret) (svEntry s.t s.u s.f l y) = some m) (hV : SvsOk P E.sv := by exact svsOk_nil) : SvOK P f s := by
  intro w S γ vals l m y hy hrel hsz
  refine calls_of_wp hf hb ?_
  have hg : Good (svC w S γ) w S γ (svEntry s.t s.u s.f l y) (vals ++ Array.replicate (fn.ntmps - vals.size) undef) := by
    refine ⟨hrel.more, ⟨Nat.le_refl _, rfl, rfl, rfl, fun _ _ _ => rfl, fun _ _ h => h, fun _ h => h, fun _ h => .inl h, fun id r b p h1 h2 => ?_, fun id r h1 h2 => ?_, fun b hb => hb, fun id r L h1 h2 h3 => ?_⟩⟩
    · rcases svRows_row h1 with ⟨rfl, rfl⟩ | ⟨rfl, rfl⟩
      · exact ⟨fun h => (by cases h), fun _ => .inr (.inl ⟨p, h2⟩)⟩
      · exact ⟨fun h => (by cases h), fun _ => .inr (.inr ⟨p, h2⟩)⟩
    · rcases svRows_row h1 with ⟨rfl, rfl⟩ | ⟨rfl, rfl⟩ <;> cases h2
    · rcases svRows_row h1 with ⟨rfl, rfl⟩ | ⟨rfl, rfl⟩
      · rfl
      · cases h2
  refine lim_sound hm hT ⟨hC, hV⟩ (C := svC w S γ) (fun x' st' a' w' hx h1 hf' => ?_) (h l y m hy) ⟨⟨S, γ, hg⟩, by simp; omega, rfl⟩
  obtain ⟨⟨S', γ', hg'⟩, h3, h4⟩ := hf'
  have post : a'.defers = [] ∧ ∃ v, (results fn a'.tmps).run P w' = .ok v w' ∧ ∃ v0 S' γ', Ending.returned v = .returned v0 ∧ Good (svC w S γ) w' S' γ' (svExit s.t s.f m) #[v0] := by
    refine ⟨h4, ?_⟩
    obtain ⟨vals', hrun, hl1, hl2, hs⟩ := run_results hT hg' (fn := fn) (vs := []) (by rw [hres]; rfl)
    have : vals' = [] := List.eq_nil_of_length_eq_zero hl1
    subst this
    unfold svRet svGet at h1
    split at h1
    · rename_i z l' hz
      simp only [Option.some.injEq] at h1
      subst h1
      split at hz
      · rename_i r hr
        split at hz
        · rename_i L hk
          split at hz
          · rename_i j g e0 e1
            split at hz
            · rename_i rj hj
              split at hz
              · rename_i l2 hkj hc
                cases hb2 : (Nat.beq g s.f && decide (r.t = svT)) with
                | false => rw [hb2] at hz; cases hz
                | true =>
                  rw [hb2, cond_true] at hz
                  simp only [Option.some.injEq, Prod.mk.injEq] at hz
                  obtain ⟨rfl, rfl⟩ := hz
                  simp only [Bool.and_eq_true, decide_eq_true_eq] at hb2
                  obtain ⟨k1, ht⟩ := hb2
                  have k1 := Nat.eq_of_beq_eq_true k1
                  subst k1
                  obtain ⟨rk, hrj⟩ := castTy_row hc
                  subst hrj
                  have hkj' : rk = .free := hkj
                  subst hkj'
                  have hne : (10000 : Nat) ≠ j := fun e => by subst e; rw [hr] at hj; cases hj; cases hk
                  have hr' := hg'.rel.rows _ _ hr
                  have hj' := hg'.rel.rows _ _ hj
                  refine ⟨_, hrun, _, S', (fun k => if k = 10000 then γ' 10000 else if k = 20000 then γ' j else none), rfl, ⟨⟨fun i av hi => ?_, fun i r2 hr2 => ?_, fun i k r2 r3 b p q h5 h6 h7 h8 => ?_, hg'.rel.lt, fun i r2 L2 hr2 hk2 => ?_⟩,
                    ⟨hg'.fr.size, hg'.fr.os, hg'.fr.tape, hg'.fr.output, hg'.fr.block, hg'.fr.blk, hg'.fr.s1, hg'.fr.s2, fun i r2 b p hr2 hp2 => ?_, fun i r2 hr2 hk2 => ?_, hg'.fr.gw, fun i r2 L2 hr2 hk2 _ => ?_⟩⟩⟩
                  · unfold ASt.slot svExit at hi
                    simp only [look_cons] at hi
                    split at hi
                    · rename_i e
                      subst e
                      cases hi
                      exact ⟨_, rfl, [], by simp [packV], rfl, fun k s hk => by simp at hk⟩
                    · cases hi
                  · rcases svRows_row hr2 with ⟨rfl, rfl⟩ | ⟨rfl, rfl⟩
                    · refine ⟨fun _ => rfl, fun b p e => ?_, fun b p e => ⟨fun h => (by cases h), fun h => ?_⟩⟩
                      · rcases hr'.mem b p e with ⟨cur, c, m1, _⟩ | ⟨_, mm⟩
                        · exact .inl ⟨cur, c, m1, fun i x hx => by simp at hx⟩
                        · exact .inr ⟨rfl, mm⟩
                      · have := (hr'.st b p e).2 h
                        rw [hk] at this; cases this
                    · exact ⟨hj'.nil, hj'.mem, hj'.st⟩
                  · rcases svRows_row h5 with ⟨rfl, rfl⟩ | ⟨rfl, rfl⟩ <;> rcases svRows_row h6 with ⟨rfl, rfl⟩ | ⟨rfl, rfl⟩
                    · rfl
                    · exact absurd (hg'.rel.inj _ _ _ _ b p q hr hj h7 h8) hne
                    · exact absurd (hg'.rel.inj _ _ _ _ b q p hr hj h8 h7) hne
                    · rfl
                  · rcases svRows_row hr2 with ⟨rfl, rfl⟩ | ⟨rfl, rfl⟩
                    · cases hk2
                      obtain ⟨b, q, m1, m2⟩ := hg'.rel.vars 10000 r L hr hk
                      refine ⟨b, q, m1, fun k sv hs2 => ?_⟩
                      simp only [look_cons] at hs2
                      split at hs2
                      · rename_i e
                        subst e
                        cases hs2
                        rcases m2 0 _ e0 with ⟨v, p1, p2⟩ | ⟨_, _, e, _⟩
                        · refine .inl ⟨v, p1, fun r3 hr3 => ?_⟩
                          rcases svRows_row hr3 with ⟨e, _⟩ | ⟨_, rfl⟩
                          · cases e
                          · exact (p2 _ hj).re rfl
                        · cases e
                      · split at hs2
                        · rename_i e
                          subst e
                          cases hs2
                          rcases m2 1 _ e1 with ⟨v, p1, p2⟩ | ⟨_, _, e, _⟩
                          · obtain ⟨vs, q1, q2, _⟩ := p2
                            exact .inl ⟨v, p1, vs, q1, q2, fun k id hk => by simp at hk⟩
                          · cases e
                        · cases hs2
                    · cases hk2
                  · rcases svRows_row hr2 with ⟨rfl, rfl⟩ | ⟨rfl, rfl⟩
                    · exact ⟨fun h => (by cases h), fun _ => (hg'.fr.rows _ r b p hr hp2).2 (by rw [hk]; simp)⟩
                    · exact ⟨fun h => (by cases h), fun _ => (hg'.fr.rows _ _ b p hj hp2).2 (by simp)⟩
                  · rcases svRows_row hr2 with ⟨rfl, rfl⟩ | ⟨rfl, rfl⟩ <;> cases hk2
                  · rcases svRows_row hr2 with ⟨rfl, rfl⟩ | ⟨rfl, rfl⟩
                    · exact hg'.fr.pv _ r L hr hk ht
                    · cases hk2
              · cases hz
            · cases hz
          · cases hz
        · cases hz
      · cases hz
    · cases h1
  rcases hx with rfl | rfl
  · exact post
  · exact post
end
end Go.Lift
namespace Go.Lift
open Go Go.RowKit
variable {P : Program} {E : Env}
/-- A part of code, by the way to it. -/
noncomputable def sub : List Nat → Code → Code
  | [], c => c
  | 0 :: p, .seq a _ => sub p a
  | 1 :: p, .seq _ b => sub p b
  | 0 :: p, .cond _ a _ => sub p a
  | 1 :: p, .cond _ _ b => sub p b
  | 0 :: p, .block _ b => sub p b
  | 0 :: p, .loop b => sub p b
  | _ :: _, c => c
noncomputable def bodyOf (f : Func) : Code := match f.body with | some c => c | none => .skip
theorem infoOk_of {τ : Ty} {t : TypeId} (h1 : (P.info? t).map (·.size) = some τ.nc) (h2 : (P.info? t).bind (·.zero) = some (pack τ (zeroC τ))) : InfoOk P τ t := by
  cases hi : P.info? t with
  | none => rw [hi] at h1; cases h1
  | some i =>
    rw [hi] at h1 h2
    exact ⟨i, hi, Option.some.inj h1, h2⟩
theorem ttOk_nil : TtOk P [] := ⟨(fun t τ eb h => by cases h), (fun t u eb e h => by cases h), (fun t τ k h => by cases h)⟩
theorem ttOk_cons {tt : List (Nat × TI)} {t : Nat} {τ : Ty} {eb : Nat} (h : TtOk P tt) (ht : TyOk P τ t) (he : ∀ u, τ = .sl u → 0 < eb ∧ ∀ e, P.underlying t = some (.slice e) → P.bytesOf e = eb) :
    TtOk P ((t, ⟨τ, eb, false⟩) :: tt) := by
  refine ⟨fun t' τ' eb' hl => ?_, fun t' u eb' e hl hu => ?_, fun t' τ' k hl => ?_⟩
  · rw [look_cons] at hl
    split at hl
    · rename_i e; subst e; cases hl; exact ht
    · exact h.ty t' _ _ hl
  · rw [look_cons] at hl
    split at hl
    · rename_i e'
      subst e'
      cases hl
      exact ⟨(he u rfl).1, (he u rfl).2 e hu⟩
    · exact h.el t' u eb' e hl hu
  · rw [look_cons] at hl
    split at hl
    · cases hl
    · exact h.mp t' _ _ hl
theorem ttOk_arr {tt : List (Nat × TI)} {t n : Nat} {q : IntKind} (h : TtOk P tt) (ht : ArrT P t q n) : TtOk P ((t, ⟨.int q, n, true⟩) :: tt) := by
  refine ⟨fun t' τ' eb' hl => ?_, fun t' u eb' e hl hu => ?_, fun t' τ' k' hl => ?_⟩
  · rw [look_cons] at hl
    split at hl
    · cases hl
    · exact h.ty t' _ _ hl
  · rw [look_cons] at hl
    split at hl
    · cases hl
    · exact h.el t' u eb' e hl hu
  · rw [look_cons] at hl
    split at hl
    · rename_i e; subst e; cases hl; exact ht
    · exact h.mp t' _ _ hl
theorem ctxOk_nil : CtxOk P [] := ⟨(fun t ti h => by cases h), (fun t u h => by cases h)⟩
theorem ctxOk_cons {ctx : List (Nat × Sig)} {f : Nat} {sig : Sig} {fn : Func} (h : CtxOk P ctx) (hc : CallOK P f sig) (hf : P.funcs[f]? = some fn) (hb : fn.body.isNone = false) (hn : (fn.name == "runtime.NumGoroutine") = false) :
    CtxOk P ((f, sig) :: ctx) := by
  refine ⟨fun g s hl => ?_, fun g s hl => ?_⟩
  · rw [look_cons] at hl
    split at hl
    · rename_i e; subst e; cases hl; exact hc
    · exact h.ok g s hl
  · rw [look_cons] at hl
    split at hl
    · rename_i e; subst e; cases hl; exact ⟨fn, hf, hb, hn⟩
    · exact h.fn g s hl
def Ty.okv : (t : Ty) → t.den → Prop
  | .int k, n => (Lit.int k n).wf = true
  | .bool, _ => True
  | .str, s => List.length s ≤ maxLen
  | .sl t, l => List.length l ≤ maxLen ∧ ∀ x ∈ l, t.okv x
  | .unit, _ => True
  | .fnc, _ => True
  | .pair a b, x => a.okv x.1 ∧ b.okv x.2
theorem RepC.okv {w : World} {S : Nat → Prop} : ∀ {t : Ty} {x : t.den} {cs : List Value}, RepC w S t x cs → t.okv x := by
  intro t
  induction t with
  | int k => intro x cs h; exact h.2
  | bool => intro x cs _; trivial
  | str => intro x cs h; obtain ⟨s, _, h1, h2⟩ := h; exact h2
  | unit => intro x cs _; trivial
  | fnc => intro x cs _; trivial
  | pair a b iha ihb => intro x cs h; obtain ⟨c1, c2, _, h1, h2⟩ := h; exact ⟨iha h1, ihb h2⟩
  | sl t ih =>
    intro x cs h
    obtain ⟨a, cap, _, h1, h2, h3⟩ := h
    refine ⟨Nat.le_trans h1 h2, fun y hy => ?_⟩
    obtain ⟨i, hi, rfl⟩ := List.mem_iff_getElem.1 hy
    obtain ⟨b, p, ds, _, _, _, h4⟩ := h3 i _ (List.getElem?_eq_getElem hi)
    exact ih h4
/-- The size of a typed value, as the rows count it. -/
def Ty.bulk : (t : Ty) → t.den → Nat
  | .int _, _ => 1
  | .bool, _ => 1
  | .str, s => List.length s + 1
  | .sl t, l => (l.map t.bulk).sum + 1
  | .unit, _ => 0
  | .fnc, _ => 0
  | .pair a b, x => a.bulk x.1 + b.bulk x.2
structure IsBulk {H : Type} (B : DataW H → Nat) (BA : List (DataW H) → Nat) : Prop where
  str : ∀ s, s.length + 1 ≤ B (.lit (.string s))
  int : ∀ k n, 1 ≤ B (.lit (.int k n))
  bool : ∀ b, 1 ≤ B (.lit (.bool b))
  nil : 1 ≤ B .nil
  slice : ∀ e s, BA e + 1 ≤ B (.slice e s)
  agg : ∀ p, BA p ≤ B (.agg p)
  all0 : BA [] = 0
  all1 : ∀ d r, BA (d :: r) = B d + BA r
/-- Elements of slices take cells. -/
def Ty.pos : Ty → Bool
  | .sl t => decide (0 < t.nc) && t.pos
  | .pair a b => a.pos && b.pos
  | .int _ | .bool | .str | .unit => true
  | .fnc => false
/-- Slices of a length that a machine can hold. -/
def Ty.szd : (t : Ty) → t.den → Prop
  | .sl t, l => List.length l ≤ 140737488355328 ∧ ∀ x ∈ l, t.szd x
  | .pair a b, x => a.szd x.1 ∧ b.szd x.2
  | .int _, _ => True
  | .bool, _ => True
  | .str, _ => True
  | .unit, _ => True
  | .fnc, _ => True
/-- Elements of slices take memory: seen by reckoning. -/
def byB (P : Program) : Nat → TypeId → Bool
  | 0, _ => false
  | n + 1, t => match P.underlying t with
    | some (.slice e) => decide (1 ≤ P.bytesOf e) && byB P n e
    | some (.struct fs) => fs.toList.all fun f => byB P n f.type
    | _ => true
def By (P : Program) (t : TypeId) : Prop := ∃ n, byB P n t = true
theorem By.slice {t e : TypeId} (h : By P t) (ht : P.underlying t = some (.slice e)) : 1 ≤ P.bytesOf e ∧ By P e := by
  obtain ⟨n, h⟩ := h
  cases n with
  | zero => cases h
  | succ n =>
    simp only [byB, ht, Bool.and_eq_true, decide_eq_true_eq] at h
    exact ⟨h.1, n, h.2⟩
theorem By.struct {t : TypeId} {fs : Array Field} (h : By P t) (ht : P.underlying t = some (.struct fs)) : ∀ f ∈ fs.toList, By P f.type := by
  obtain ⟨n, h⟩ := h
  cases n with
  | zero => cases h
  | succ n =>
    simp only [byB, ht] at h
    exact fun f hf => ⟨n, List.all_eq_true.1 h f hf⟩
theorem weightsAll_mem {H : Type} {e : TypeId} {d : DataW H} {n : Nat} : ∀ {l : List (DataW H)}, d ∈ l → n ∈ DataW.weights P e d → n ∈ DataW.weightsAll P e l
  | x :: l, hd, hn => by
    simp only [DataW.weightsAll, List.mem_append]
    rcases List.mem_cons.1 hd with h | h
    · subst h; exact .inl hn
    · exact .inr (weightsAll_mem h hn)
section
variable {W : World} {H : Type} {enc : TypeId × Value → H} {sp : Nat → Bool} {B : DataW H → Nat} {BA : List (DataW H) → Nat}
theorem cellsOf_nc {τ : Ty} {t : TypeId} (h : TyOk P τ t) : P.cellsOf t = τ.nc := by
  obtain ⟨i, h1, h2, _⟩ := h.info.info
  simp [Program.cellsOf, h1, h2]
theorem build_list {α : Type} {Q : Nat → α → Prop} {b : α → Nat} : ∀ (n : Nat) (g : Nat → Nat), (∀ i, i < n → ∃ x, Q i x ∧ b x ≤ g i) →
    ∃ l : List α, l.length = n ∧ (∀ (i : Nat) x, l[i]? = some x → Q i x) ∧ (l.map b).sum ≤ ((List.range n).map g).sum := by
  intro n
  induction n with
  | zero => intro g _; exact ⟨[], rfl, fun i x h => by simp at h, by simp⟩
  | succ n ih =>
    intro g h
    obtain ⟨l, h1, h2, h3⟩ := ih g (fun i hi => h i (by omega))
    obtain ⟨x, h4, h5⟩ := h n (by omega)
    refine ⟨l ++ [x], by simp [h1], fun i y hi => ?_, ?_⟩
    · by_cases e : i < n
      · rw [List.getElem?_append_left (by omega)] at hi
        exact h2 i y hi
      · have : i = n := by
          have := (List.getElem?_eq_some_iff.1 hi).1
          simp at this
          omega
        subst this
        rw [← h1, List.getElem?_concat_length] at hi
        cases hi
        exact h4
    · rw [List.map_append, List.sum_append, List.range_succ, List.map_append, List.sum_append]
      simp only [List.map_cons, List.map_nil, List.sum_cons, List.sum_nil]
      omega
theorem bulk_range (hB : IsBulk B BA) {α : Type} (D : α → DataW H) : ∀ l : List α, (l.map fun i => B (D i)).sum = BA (l.map D) := by
  intro l
  induction l with
  | nil => simp [hB.all0]
  | cons a l ih => simp [hB.all1, ih]
theorem mapM_get {α β : Type} {F : α → Option β} : ∀ {l : List α} {ys : List β}, l.mapM F = some ys → ∀ (k : Nat) y, ys[k]? = some y → ∃ i, l[k]? = some i ∧ F i = some y := by
  intro l
  induction l with
  | nil =>
    intro ys h k y hk
    simp only [List.mapM_nil, Option.pure_def, Option.some.injEq] at h
    subst h
    simp at hk
  | cons i l ih =>
    intro ys h k y hk
    rw [List.mapM_cons] at h
    cases hi : F i with
    | none => simp [hi] at h
    | some y0 =>
      cases hl : l.mapM F with
      | none => simp [hi, hl] at h
      | some ys' =>
        simp only [hi, hl, Option.pure_def, Option.bind_eq_bind, Option.bind_some, Option.some.injEq] at h
        subst h
        cases k with
        | zero => simp only [List.getElem?_cons_zero, Option.some.injEq] at hk; subst hk; exact ⟨i, rfl, hi⟩
        | succ k => exact ih hl k y (by simpa using hk)
theorem cells_mem {a : Addr} {n : Nat} {ds : List Value} (h : W.cells? 0 a n = some ds) : ds.length = n ∧ (0 < n → a.spot = none ∧ a.block < W.heap.size) ∧ (a.spot = none → Mem W a.block a.off ds) := by
  unfold World.cells? at h
  rw [if_pos (Nat.zero_le _)] at h
  have hlen : ds.length = n := by
    have : ∀ {α β : Type} {F : α → Option β} {l : List α} {ys : List β}, l.mapM F = some ys → ys.length = l.length := by
      intro α β F l
      induction l with
      | nil => intro ys h; simp only [List.mapM_nil, Option.pure_def, Option.some.injEq] at h; subst h; rfl
      | cons i l ih =>
        intro ys h
        rw [List.mapM_cons] at h
        cases hi : F i with
        | none => simp [hi] at h
        | some y =>
          cases hl : l.mapM F with
          | none => simp [hi, hl] at h
          | some ys' =>
            simp only [hi, hl, Option.pure_def, Option.bind_eq_bind, Option.bind_some, Option.some.injEq] at h
            subst h
            simp [ih hl]
    simpa using this h
  have hat : ∀ j v, ds[j]? = some v → W.cell? (a.add j) = some v := by
    intro j v hj
    obtain ⟨i, h1, h2⟩ := mapM_get h j v hj
    rw [List.getElem?_range (by rw [← hlen]; exact (List.getElem?_eq_some_iff.1 hj).1)] at h1
    cases h1
    exact h2
  obtain ⟨b, off, spot⟩ := a
  refine ⟨hlen, fun hn => ?_, fun hs => ?_⟩
  · have h0 := hat 0 ds[0] (List.getElem?_eq_getElem (by omega))
    have e1 := World.cell?_spot h0
    refine ⟨by simpa [Addr.add] using e1, ?_⟩
    rcases Nat.lt_or_ge b W.heap.size with h | h
    · exact h
    · have : W.heap[b]? = none := Array.getElem?_eq_none h
      simp [World.cell?, Addr.add, this] at h0
  · intro j v hj
    simp only at hs
    subst hs
    have := hat j v hj
    by_cases hj0 : j = 0
    · subst hj0; exact this
    · rw [show (⟨b, off, none⟩ : Addr).add j = ⟨b, off + j, none⟩ by simp [Addr.add, hj0]] at this
      exact this
theorem add_none {a : Addr} (h : a.spot = none) (j : Nat) : a.add j = ⟨a.block, a.off + j, none⟩ := by
  obtain ⟨b, off, spot⟩ := a
  simp only at h
  subst h
  by_cases hj : j = 0
  · subst hj; rfl
  · simp [Addr.add, hj]
set_option maxHeartbeats 800000 in
/-- A reading of typed memory, as a typed value. -/
theorem trod_rep2 (hB : IsBulk B BA) : ∀ (τ : Ty), τ.pos = true →
    (∀ (fuel : Nat) (t : TypeId) (cs : List Value) (d : DataW H) (ps : List MemPlace), TyOk P τ t → DataW.trod enc P W 0 sp true fuel t cs = some (d, ps) →
      ∃ x : τ.den, RepC W (· < W.heap.size) τ x cs ∧ τ.bulk x ≤ B d ∧ (By P t → (∀ n ∈ DataW.weights P t d, n ≤ reachBytes) → τ.szd x)) ∧
    (∀ (n : Nat) (fs : List Field) (off : Nat) (cs : List Value) (xs : List (DataW H × List MemPlace)), FsOk P τ fs off → xs.length = fs.length →
      (∀ (i : Nat) (f : Field), fs[i]? = some f → DataW.trod enc P W 0 sp true n f.type ((cs.drop f.offset).take (P.cellsOf f.type)) = xs[i]?) → cs.length = off + τ.nc →
      ∃ x : τ.den, RepC W (· < W.heap.size) τ x (cs.drop off) ∧ τ.bulk x ≤ BA (xs.map (·.1)) ∧ ((∀ f ∈ fs, By P f.type) → (∀ n ∈ DataW.weightsEach P (fs.map (·.type)) (xs.map (·.1)), n ≤ reachBytes) → τ.szd x)) := by
  intro τ
  induction τ with
  | int k =>
    intro _
    refine ⟨fun fuel t cs d ps hT h => ?_, fun n fs off cs xs hT => hT.elim⟩
    obtain ⟨n, rfl, h2, h3⟩ := DataW.trod_int hT.1 h
    cases h2
    exact ⟨n, ⟨rfl, h3⟩, hB.int k n, fun _ _ => trivial⟩
  | bool =>
    intro _
    refine ⟨fun fuel t cs d ps hT h => ?_, fun n fs off cs xs hT => hT.elim⟩
    obtain ⟨b, rfl, h2⟩ := DataW.trod_bool hT.1 h
    cases h2
    exact ⟨b, rfl, hB.bool b, fun _ _ => trivial⟩
  | str =>
    intro _
    refine ⟨fun fuel t cs d ps hT h => ?_, fun n fs off cs xs hT => hT.elim⟩
    obtain ⟨s, rfl, h2, h3⟩ := DataW.trod_string hT.1 h
    cases h2
    have : s.data.toList.length = s.size := by rw [Array.length_toList]; rfl
    exact ⟨s.data.toList, ⟨s, rfl, rfl, by rw [this]; exact h3⟩, hB.str _, fun _ _ => trivial⟩
  | sl u ih =>
    intro hp
    simp only [Ty.pos, Bool.and_eq_true, decide_eq_true_eq] at hp
    refine ⟨fun fuel t cs d ps hT h => ?_, fun n fs off cs xs hT => hT.elim⟩
    obtain ⟨⟨e, h1, h2⟩, _⟩ := hT
    rcases Deep.open_slice h1 h with ⟨rfl, h3⟩ | ⟨a, len, cap, m, n, D, Pl, rfl, _, hl, hc, hm, hx, hel⟩
    · cases h3
      exact ⟨[], ⟨none, 0, rfl, Nat.le_refl _, Nat.zero_le _, fun i x hx => by simp at hx⟩, by simpa [Ty.bulk] using hB.nil, fun _ _ => ⟨Nat.zero_le _, fun x hx => by cases hx⟩⟩
    · cases hx
      rw [cellsOf_nc h2] at hel
      have hlm : len ≤ m := by rw [hm]; split <;> omega
      obtain ⟨l, l1, l2, l3⟩ := build_list (Q := fun i x => ∃ cs', W.cells? 0 (a.add (i * u.nc)) u.nc = some cs' ∧ RepC W (· < W.heap.size) u x cs' ∧ (By P e → (∀ n ∈ DataW.weights P e (D i), n ≤ reachBytes) → u.szd x)) (b := u.bulk) len (fun i => B (D i)) (fun i hi => by
        obtain ⟨cs', e1, e2⟩ := hel i (by omega)
        obtain ⟨x, e3, e4, e5⟩ := (ih hp.2).1 n e cs' _ _ h2 e2
        exact ⟨x, ⟨cs', e1, e3, e5⟩, e4⟩)
      refine ⟨l, ⟨some a, cap, by rw [l1], by omega, hc, fun i x hi => ?_⟩, ?_, fun hpos hw => ?_⟩
      · obtain ⟨cs', e1, e2, _⟩ := l2 i x hi
        obtain ⟨f1, f2, f3⟩ := cells_mem e1
        have hi' : i < len := by have := (List.getElem?_eq_some_iff.1 hi).1; omega
        obtain ⟨cs0, c1, _⟩ := hel 0 (by omega)
        rw [Nat.zero_mul, show a.add 0 = a from rfl] at c1
        have hs := ((cells_mem c1).2.1 hp.1).1
        have hblk := (f2 hp.1).2
        rw [add_none hs] at f3 hblk
        exact ⟨a.block, a.off, cs', by cases a; simp_all, hblk, f3 rfl, e2⟩
      · rw [bulk_range hB D] at l3
        have := hB.slice ((List.range len).map D) ((List.range (m - len)).map fun j => D (len + j))
        simp only [Ty.bulk]
        omega
      · simp only [DataW.weights, h1, List.mem_cons, List.mem_append] at hw
        have hlen := hw _ (.inl rfl)
        obtain ⟨hpe, hbe⟩ := hpos.slice h1
        simp only [List.length_map, List.length_range] at hlen
        refine ⟨?_, fun x hx => ?_⟩
        · have : (len + (m - len)) * 1 ≤ (len + (m - len)) * P.bytesOf e := Nat.mul_le_mul_left _ hpe
          have hr : reachBytes ≤ 140737488355328 := by decide
          rw [l1]; omega
        · obtain ⟨i, hi, rfl⟩ := List.mem_iff_getElem.1 hx
          obtain ⟨cs', _, _, e5⟩ := l2 i _ (List.getElem?_eq_getElem hi)
          exact e5 hbe (fun k hk => hw k (.inr (.inl (weightsAll_mem (List.mem_map.2 ⟨i, List.mem_range.2 (by omega), rfl⟩) hk))))
  | fnc => intro hp; cases hp
  | unit =>
    intro _
    refine ⟨fun fuel t cs d ps hT h => ?_, fun n fs off cs xs hT hl _ hcs => ?_⟩
    · obtain ⟨⟨fs, h1, h2, _⟩, hi⟩ := hT
      obtain ⟨xs, n, _, h3, h4, h5, h6⟩ := DataW.trod_struct h1 h
      have hnc : P.cellsOf t = Ty.nc .unit := cellsOf_nc (τ := .unit) ⟨⟨fs, h1, h2, by assumption⟩, hi⟩
      rw [hnc] at h4
      exact ⟨(), List.length_eq_zero_iff.1 h4, Nat.zero_le _, fun _ _ => trivial⟩
    · refine ⟨(), ?_, Nat.zero_le _, fun _ _ => trivial⟩
      have : cs.drop off = [] := by
        rw [List.drop_eq_nil_iff]
        simp only [Ty.nc] at hcs
        omega
      exact this
  | pair a b iha ihb =>
    intro hp
    simp only [Ty.pos, Bool.and_eq_true] at hp
    have key : ∀ (n : Nat) (fs : List Field) (off : Nat) (cs : List Value) (xs : List (DataW H × List MemPlace)), FsOk P (.pair a b) fs off → xs.length = fs.length →
        (∀ (i : Nat) (f : Field), fs[i]? = some f → DataW.trod enc P W 0 sp true n f.type ((cs.drop f.offset).take (P.cellsOf f.type)) = xs[i]?) → cs.length = off + (Ty.pair a b).nc →
        ∃ x : (Ty.pair a b).den, RepC W (· < W.heap.size) (.pair a b) x (cs.drop off) ∧ (Ty.pair a b).bulk x ≤ BA (xs.map (·.1)) ∧ ((∀ f ∈ fs, By P f.type) → (∀ n ∈ DataW.weightsEach P (fs.map (·.type)) (xs.map (·.1)), n ≤ reachBytes) → (Ty.pair a b).szd x) := by
      intro n fs off cs xs hT hl hx hcs
      obtain ⟨f, r, rfl, h1, h2, h3, _⟩ := hT
      match xs, hl with
      | [], hl => simp at hl
      | y :: xs, hl =>
        have hy := hx 0 f rfl
        simp only [List.getElem?_cons_zero] at hy
        rw [h1, cellsOf_nc h2] at hy
        simp only [Ty.nc] at hcs
        obtain ⟨x1, e1, e2, e5⟩ := (iha hp.1).1 n f.type _ y.1 y.2 h2 hy
        obtain ⟨x2, e3, e4, e6⟩ := (ihb hp.2).2 n r (off + a.nc) cs xs h3 (by simpa using hl) (fun i g hg => by simpa using hx (i + 1) g (by simpa using hg)) (by omega)
        refine ⟨(x1, x2), ⟨(cs.drop off).take a.nc, cs.drop (off + a.nc), ?_, e1, e3⟩, ?_, fun hpos hw => ?_⟩
        · rw [← List.drop_drop, List.take_append_drop]
        · simp only [Ty.bulk, List.map_cons, hB.all1]
          omega
        · simp only [List.map_cons, DataW.weightsEach, List.mem_append] at hw
          exact ⟨e5 (hpos f List.mem_cons_self) (fun k hk => hw k (.inl hk)), e6 (fun g hg => hpos g (List.mem_cons_of_mem _ hg)) (fun k hk => hw k (.inr hk))⟩
    refine ⟨fun fuel t cs d ps hT h => ?_, key⟩
    have hT' := hT
    obtain ⟨⟨fs, f, r, h1, h2, h3, h4, h5, h6, _⟩, _⟩ := hT
    obtain ⟨xs, n, _, e1, e2, e3, e4⟩ := DataW.trod_struct h1 h
    cases e1
    obtain ⟨x, g1, g2, g3⟩ := key n fs.toList 0 cs xs ⟨f, r, h2, h3, h4, by simpa using h5, h6⟩ (by simpa using e3) (fun i g hg => e4 i g (by simpa using hg)) (by rw [e2, cellsOf_nc hT']; omega)
    refine ⟨x, g1, Nat.le_trans g2 (hB.agg _), fun hpos hw => g3 (hpos.struct h1) (fun k hk => hw k ?_)⟩
    simp only [DataW.weights, h1]
    exact hk
end
theorem okWide_pack {W : World} {τ : Ty} {t : TypeId} {v : Value} (hT : TyOk P τ t) (hp : τ.pos = true) (h : Value.okWide P W .any 0 t v) : v = pack τ v.cells.toList := by
  cases τ with
  | int k => obtain ⟨n, rfl⟩ := WideShapes.okWide_int hT.1 h; rfl
  | bool => obtain ⟨n, rfl⟩ := WideShapes.okWide_bool hT.1 h; rfl
  | str => obtain ⟨n, rfl⟩ := WideShapes.okWide_string hT.1 h; rfl
  | sl u => obtain ⟨⟨e, h1, _⟩, _⟩ := hT; obtain ⟨_, _, _, rfl⟩ := WideShapes.okWide_slice h1 h; rfl
  | fnc => simp [Ty.pos] at hp
  | unit => obtain ⟨⟨fs, h1, _⟩, _⟩ := hT; obtain ⟨cs, rfl, _⟩ := WideShapes.okWide_struct h1 h; simp [pack, Ty.isAgg, Value.cells]
  | pair a b => obtain ⟨⟨fs, _, _, h1, _⟩, _⟩ := hT; obtain ⟨cs, rfl, _⟩ := WideShapes.okWide_struct h1 h; simp [pack, Ty.isAgg, Value.cells]
/-- One argument. -/
theorem arg_rep {W : World} {H : Type} {enc : TypeId × Value → H} {sp : Nat → Bool} {B : DataW H → Nat} {BA : List (DataW H) → Nat} (hB : IsBulk B BA) {τ : Ty} {t : TypeId} {v : Value} {d : DataW H} {ps : List MemPlace}
    (hT : TyOk P τ t) (hp : τ.pos = true) (hv : Value.okWide P W .any 0 t v) (h : DataW.Trod enc P W 0 sp true t v d ps) :
    ∃ x : τ.den, RepV W (· < W.heap.size) τ x v ∧ τ.okv x ∧ τ.bulk x ≤ B d := by
  obtain ⟨fuel, hf⟩ := h
  obtain ⟨x, h1, h2, _⟩ := (trod_rep2 hB τ hp).1 fuel t _ d ps hT hf
  exact ⟨x, ⟨_, h1, okWide_pack hT hp hv⟩, h1.okv, h2⟩
/-- One argument, of a size that a machine can hold. -/
theorem trod_array2 {W : World} {H : Type} {enc : TypeId × Value → H} {sp : Nat → Bool} {t e : TypeId} {fuel : Nat} {c0 c1 : Value} {x : DataW H × List MemPlace} (ht : P.underlying t = some (.array 2 e)) (hce : P.cellsOf e = 1)
    (h : DataW.trod enc P W 0 sp true fuel t [c0, c1] = some x) :
    ∃ y0 y1 n, x = (.agg [y0.1, y1.1], y0.2 ++ y1.2) ∧ DataW.trod enc P W 0 sp true n e [c0] = some y0 ∧ DataW.trod enc P W 0 sp true n e [c1] = some y1 := by
  cases fuel with
  | zero => simp [DataW.trod] at h
  | succ n =>
    unfold DataW.trod at h
    rw [ht] at h
    have r2 : List.range 2 = [0, 1] := rfl
    simp [r2, hce] at h
    obtain ⟨_, h⟩ := h
    cases h0 : DataW.trod enc P W 0 sp true n e [c0] with
    | none => simp [h0] at h
    | some y0 =>
      cases h1 : DataW.trod enc P W 0 sp true n e [c1] with
      | none => simp [h0, h1] at h
      | some y1 =>
        simp [h0, h1] at h
        exact ⟨y0, y1, n, h.symm, h0, h1⟩
/-- One argument: an array of two integers. -/
theorem arr_rep {W : World} {H : Type} {enc : TypeId × Value → H} {sp : Nat → Bool} {B : DataW H → Nat} {BA : List (DataW H) → Nat} (hB : IsBulk B BA) {q : IntKind} {t : TypeId} {v : Value} {d : DataW H} {ps : List MemPlace}
    (hT : ArrT P t q 2) (hv : Value.okWide P W .any 0 t v) (h : DataW.Trod enc P W 0 sp true t v d ps) :
    ∃ x : (powI q 2).den, RepV W (· < W.heap.size) (powI q 2) x v ∧ (powI q 2).okv x ∧ (powI q 2).bulk x ≤ B d := by
  obtain ⟨e, h1, h2, h3⟩ := hT
  have hce : P.cellsOf e = 1 := cellsOf_nc h2
  obtain ⟨cs, rfl, hs⟩ : ∃ cs, v = .agg cs ∧ cs.size = P.cellsOf t := by
    simp only [Value.okWide, h1] at hv
    obtain ⟨cs, e1, e2, _⟩ := hv
    exact ⟨cs, e1, e2⟩
  rw [h3] at hs
  obtain ⟨fuel, hf⟩ := h
  simp only [Value.cells] at hf
  obtain ⟨l⟩ := cs
  match l, hs with
  | [c0, c1], _ =>
    obtain ⟨y0, y1, n, e1, e2, e3⟩ := trod_array2 h1 hce hf
    obtain ⟨x0, r0, b0, _⟩ := (trod_rep2 hB (.int q) rfl).1 n e _ y0.1 y0.2 h2 e2
    obtain ⟨x1, r1, b1, _⟩ := (trod_rep2 hB (.int q) rfl).1 n e _ y1.1 y1.2 h2 e3
    have hr : RepC W (· < W.heap.size) (powI q 2) (x0, x1, ()) [c0, c1] := ⟨[c0], [c1], rfl, r0, [c1], [], rfl, r1, rfl⟩
    refine ⟨(x0, x1, ()), ⟨_, hr, rfl⟩, hr.okv, ?_⟩
    have ed : d = .agg [y0.1, y1.1] := congrArg Prod.fst e1
    subst ed
    refine Nat.le_trans ?_ (hB.agg _)
    rw [hB.all1, hB.all1, hB.all0]
    simp only [powI, Ty.bulk] at b0 b1 ⊢
    omega
def ArgsRep (w : World) (S : Nat → Prop) : (ps : List PM) → (argTy ps).den → List Value → Prop
  | [], _, [] => True
  | .pure t :: ps, x, v :: vs => RepV w S t x.1 v ∧ ArgsRep w S ps x.2 vs
  | _, _, _ => False
theorem args_rel {W : World} {S : Nat → Prop} {γ : Gam} : ∀ (ps : List PM) (i : Nat) (x : (argTy ps).den) (vs : List Value), ArgsRep W S ps x vs →
    vs.length = ps.length ∧ (∀ id, (entryFrom i ps x).row id = none) ∧ ∀ j av, (entryFrom i ps x).slot j = some av → i ≤ j ∧ ∃ v, vs[j - i]? = some v ∧ ∀ R, RepA W S γ R av v := by
  intro ps
  induction ps with
  | nil =>
    intro i x vs h
    match vs, h with
    | [], _ => exact ⟨rfl, fun id => rfl, fun j av h => by cases h⟩
  | cons p ps ih =>
    intro i x vs h
    cases p with
    | own t => exact h.elim
    | ptr t f => exact h.elim
    | fn g => exact h.elim
    | give t => exact h.elim
    | rd t => exact h.elim
    | rfn f ts => exact h.elim
    | nil => exact h.elim
    | pure t =>
    match vs, h with
    | v :: vs, ⟨h1, h2⟩ =>
      obtain ⟨h3, h4, h5⟩ := ih (i + 1) x.2 vs h2
      refine ⟨by simp [h3], h4, fun j av hj => ?_⟩
      change look ((i, AV.one (.val t x.1)) :: (entryFrom (i + 1) ps x.2).slots) j = some av at hj
      rw [look_cons] at hj
      split at hj
      · rename_i e
        subst e
        cases hj
        exact ⟨Nat.le_refl _, v, by simp, fun R => h1⟩
      · obtain ⟨e1, u, e2, e3⟩ := h5 j av hj
        refine ⟨by omega, u, ?_, e3⟩
        rw [show j - i = (j - (i + 1)) + 1 by omega, List.getElem?_cons_succ]
        exact e2
/-- A law's call: it returns true, and nothing that was there has turned. -/
theorem law_calls {f : Nat} {ps : List PM} {run : (argTy ps).den → Option (resTy [.pure .bool] ps).den} {W : World} {x : (argTy ps).den} {vs : List Value} {z : (outTy ps).den} (hC : CallOK P f ⟨ps, [.pure .bool], run⟩)
    (hrun : run x = some (true, z)) (ha : ArgsRep W (· < W.heap.size) ps x vs) : Calls P f vs.toArray W fun e w' => e = .returned (.bool true) ∧ Below W.heap.size W w' := by
  obtain ⟨h1, h2, h3⟩ := args_rel (γ := fun _ => none) ps 0 x vs ha
  refine Calls.mono (hC W (· < W.heap.size) (fun _ => none) vs.toArray x (true, z) hrun ⟨fun j av hj => ?_, fun id r hr => ?_, fun i j r r' b p q hr => ?_, fun b hb => hb, fun id r L hr => by rw [h2] at hr; cases hr⟩ (by simpa using h1)) ?_
  · obtain ⟨_, v, e1, e2⟩ := h3 j av hj
    exact ⟨v, by simpa using e1, e2 _⟩
  · rw [h2] at hr; cases hr
  · rw [h2] at hr; cases hr
  · rintro e w' ⟨v, S', γ', rfl, hG⟩
    obtain ⟨u, hu, cs, e1, e2⟩ := hG.rel.slots 0 (.one (.val .bool true)) rfl
    have e1' : cs = [.bool true] := e1
    subst e1'
    have e2' : u = .bool true := e2
    subst e2'
    simp only [List.getElem?_toArray, List.getElem?_cons_zero, Option.some.injEq] at hu
    subst hu
    refine ⟨rfl, ⟨hG.fr.os, hG.fr.tape, hG.fr.output, hG.fr.size, fun k hk => hG.fr.block k hk ?_⟩⟩
    rintro ⟨id, r, p, hr, _⟩
    rw [h2] at hr
    cases hr
end Go.Lift
namespace Go.Lift
open Go
variable {E : Env}
/-- What the functions of 'c' give, those of 'c'' give too. -/
def CtxLe (c c' : List (Nat × Sig)) : Prop :=
  ∀ f sig, look c f = some sig → ∃ run' : (argTy sig.ps).den → Option (resTy sig.rs sig.ps).den, look c' f = some ⟨sig.ps, sig.rs, run'⟩ ∧ ∀ x y, sig.run x = some y → run' x = some y
theorem ctxLe_nil : CtxLe [] [] := fun f sig h => by cases h
theorem ctxLe_cons {c c' : List (Nat × Sig)} {f : Nat} {ps : List PM} {rs : List RM} {r r' : (argTy ps).den → Option (resTy rs ps).den} (h : CtxLe c c') (hr : ∀ x y, r x = some y → r' x = some y) :
    CtxLe ((f, ⟨ps, rs, r⟩) :: c) ((f, ⟨ps, rs, r'⟩) :: c') := by
  intro g sig hl
  rw [look_cons] at hl
  rw [look_cons]
  split at hl
  · rename_i e
    rw [if_pos e]
    cases hl
    exact ⟨r', rfl, hr⟩
  · rename_i e
    rw [if_neg e]
    exact h g sig hl
def withCS (E : Env) (c : List (Nat × Sig)) (v : List (Nat × SSig)) : Env := { E with ctx := c, sv := v }
def withCtx (E : Env) (c : List (Nat × Sig)) : Env := { E with ctx := c }
def SvLe (v v' : List (Nat × SSig)) : Prop :=
  ∀ f, (look v f = none → look v' f = none) ∧ ∀ s, look v f = some s → ∃ run' : List s.t.den → s.u.den → Option (List s.t.den), look v' f = some ⟨s.t, s.u, s.f, run'⟩ ∧ ∀ l y m, s.run l y = some m → run' l y = some m
theorem svLe_nil : SvLe [] [] := fun f => ⟨fun h => h, fun s h => by cases h⟩
theorem svLe_cons {v v' : List (Nat × SSig)} {f : Nat} {t u : Ty} {g : Nat} {r r' : List t.den → u.den → Option (List t.den)} (h : SvLe v v') (hr : ∀ l y m, r l y = some m → r' l y = some m) :
    SvLe ((f, ⟨t, u, g, r⟩) :: v) ((f, ⟨t, u, g, r'⟩) :: v') := by
  intro k
  rw [look_cons, look_cons]
  split
  · exact ⟨fun h => by (cases h), fun s hs => by cases hs; exact ⟨r', rfl, hr⟩⟩
  · exact h k
theorem SvLe.refl (v : List (Nat × SSig)) : SvLe v v := fun f => ⟨fun h => h, fun s h => ⟨s.run, h, fun _ _ _ h => h⟩⟩
def CsLe (E : Env) (c : List (Nat × Sig)) (v : List (Nat × SSig)) : Prop := CtxLe c E.ctx ∧ SvLe v E.sv
section
variable {c : List (Nat × Sig)} {v : List (Nat × SSig)}
theorem callK_le (hc : CsLe E c v) {d f : Nat} {rows : RT} {more : List Nat} {args : List SV} {p : AV × Upd} (h : (callK (withCS E c v) d f rows more args fun v u => Tree.ret (v, u)).val = some p) :
    (callK E d f rows more args fun v u => Tree.ret (v, u)).val = some p := by
  unfold callK at h
  unfold callK
  split at h
  · rename_i s hs
    obtain ⟨run', h1, h2⟩ := (hc.2 f).2 s hs
    rw [h1]
    cases hm : more.isEmpty with
    | false => rw [hm] at h; simp [Tree.val] at h
    | true =>
      rw [hm, cond_true] at h
      simp only [cond_true]
      unfold svK at h ⊢
      split at h
      · split at h
        · rename_i r y hr hy
          simp only [hr, hy]
          split at h
          · rename_i L hk hl
            split at h
            · rename_i j g e0 e1
              split at h
              · rename_i rj hj
                split at h
                · rename_i l hkj hcc
                  obtain ⟨k1, h⟩ := br_val h
                  obtain ⟨m, hm2, h⟩ := bnd_val h
                  simp only [hcc, Tree.val, k1, cond_true, h2 _ _ _ hm2, Option.bind_some]
                  exact h
                · simp [Tree.val] at h
              · simp [Tree.val] at h
            · simp [Tree.val] at h
          · simp [Tree.val] at h
        · simp [Tree.val] at h
      · simp [Tree.val] at h
  rename_i hnone
  rw [(hc.2 f).1 hnone]
  simp only
  split at h
  · rename_i sig hsig
    obtain ⟨run', h1, h2⟩ := hc.1 f sig hsig
    rw [h1]
    simp only
    split at h
    · rename_i b hb
      obtain ⟨h0, h3⟩ := br_val h
      split at h3
      · rename_i fr hfr
        obtain ⟨y, hy, h4⟩ := bnd_val h3
        simp only [Tree.val, h0, cond_true]
        have hfr' : (bif Sig.alias ⟨sig.ps, sig.rs, run'⟩ then freeze rows (b.reads ++ more) else some []) = some fr := hfr
        rw [hfr']
        simp only [Tree.val, h2 _ _ hy, Option.bind_some]
        exact h4
      · simp [Tree.val] at h3
    · simp [Tree.val] at h
  · simp [Tree.val] at h
theorem opT_le (hc : CsLe E c v) {o : Oper} {avs : List (Option AV)} {rows : RT} {p : AV × Upd} (h : (opT (withCS E c v) o avs rows).val = some p) : (opT E o avs rows).val = some p := by
  obtain ⟨dst, op, ty, pos, af, gd⟩ := o
  cases op with
  | call cl =>
    obtain ⟨cal, args, tys⟩ := cl
    cases cal with
    | value fo =>
      simp only [opT, callOpK] at h ⊢
      split at h
      rotate_left
      · simp [Tree.val] at h
      split at h
      · exact callK_le hc h
      · exact callK_le hc h
      · simp [Tree.val] at h
    | invoke r n => exact h
    | builtin b => cases b <;> exact h
  | makeMap t r => cases r <;> exact h
  | lookup t x y b => cases b <;> exact h
  | _ => exact h
theorem opsK_le (hc : CsLe E c v) {R : Type} {r : R} {ops : List Oper} {f f' : ASt → List Acc → Option R} (hf : ∀ st tr, f st tr = some r → f' st tr = some r) :
    ∀ (l : List Oper) (st : ASt) (tr : List Acc), opsK (withCS E c v) ops l st tr f = some r → opsK E ops l st tr f' = some r := by
  intro l
  induction l with
  | nil => intro st tr h; exact hf st tr h
  | cons o l ih =>
    intro st tr h
    simp only [opsK] at h ⊢
    have run : ∀ st : ASt, (opT (withCS E c v) o (st.avs o) (rowsOf st (rdOf st o))).runK (fun p =>
          opsK (withCS E c v) ops l ((st.upd p.2).put o.dst p.1) (⟨(guardTmp ops o).toList ++ tmpsOf (operandsL o.op), o.dst.toList, rdOf st o, p.2.map (·.1), stoOf o (st.avs o)⟩ :: tr) f) = some r →
        (opT E o (st.avs o) (rowsOf st (rdOf st o))).runK (fun p =>
          opsK E ops l ((st.upd p.2).put o.dst p.1) (⟨(guardTmp ops o).toList ++ tmpsOf (operandsL o.op), o.dst.toList, rdOf st o, p.2.map (·.1), stoOf o (st.avs o)⟩ :: tr) f') = some r := by
      intro st h
      simp only [Tree.runK_eq] at h ⊢
      cases hv : (opT (withCS E c v) o (st.avs o) (rowsOf st (rdOf st o))).val with
      | none => rw [hv] at h; cases h
      | some p =>
        rw [hv] at h
        rw [opT_le hc hv]
        exact ih _ _ h
    cases hgd : o.guard with
    | none => rw [hgd] at h; exact run st h
    | some gw =>
      obtain ⟨j, want⟩ := gw
      rw [hgd] at h
      simp only at h ⊢
      cases hgt : guardTmp ops o with
      | none => rw [hgt] at h; cases h
      | some g =>
        simp only [hgt] at h ⊢
        split at h
        · rename_i b hb
          rw [hgt] at run
          cases want <;> cases b <;> simp only [cond_true, cond_false] at h ⊢
          · exact run _ h
          · exact ih _ _ h
          · exact ih _ _ h
          · exact run _ h
        · exact ih _ _ h
        · cases h
theorem regionK_le (hc : CsLe E c v) {R : Type} {r : R} {ops : List Oper} {draw : Bool} {st : ASt} {f f' : ASt → Option R} (hf : ∀ st, f st = some r → f' st = some r)
    (h : regionK (withCS E c v) ops draw st f = some r) : regionK E ops draw st f' = some r := by
  unfold regionK at h ⊢
  change (cond (freshB ops st && ops.all (dstOk E.nt)) _ none) = some r at h
  cases hcc : (freshB ops st && ops.all (dstOk E.nt)) with
  | false => rw [hcc] at h; cases h
  | true =>
    rw [hcc, cond_true] at h
    simp only [cond_true]
    refine opsK_le hc (fun st' tr h => ?_) ops st [] h
    cases hd : (!draw || drawOk ops tr) with
    | false => simp only [hd, cond_false] at h; cases h
    | true =>
      simp only [hd, cond_true] at h ⊢
      obtain ⟨h1, h2⟩ := condAll_some h
      exact condAll_mk h1 (hf st' h2)
end
section
variable {c : List (Nat × Sig)} {v : List (Nat × SSig)} {R : Type} {r : R} {jmp jmp' : Tgt → ASt → Option R} {fin : ASt → Option R}
theorem ap_le (hj : ∀ t st, jmp t st = some r → jmp' t st = some r) {rb rb' : Code → Kont → ASt → Option R} (hrb : ∀ c K st, rb c K st = some r → rb' c K st = some r) :
    ∀ (K : Kont) (x : XT) (st : ASt), ap (withCS E c v) jmp fin rb K x st = some r → ap E jmp' fin rb' K x st = some r := by
  intro K
  induction K with
  | ret => intro x st h; cases x <;> exact h
  | seq b K ih =>
    intro x st h
    cases x with
    | ex i => exact ih _ _ h
    | ret => exact ih _ _ h
    | nrm =>
      simp only [ap] at h ⊢
      change (match look E.ann (firstRegion b) with
        | none => rb b K st
        | some L => match clean st L with
          | some st' => jmp (.code b K) st'
          | none => none) = some r at h
      cases hl : look E.ann (firstRegion b) with
      | none => rw [hl] at h; exact hrb _ _ _ h
      | some L =>
        rw [hl] at h
        simp only at h ⊢
        cases hcl : clean st L with
        | none => rw [hcl] at h; cases h
        | some st' => rw [hcl] at h; exact hj _ _ h
  | blk id K ih =>
    intro x st h
    cases x with
    | nrm => exact ih _ _ h
    | ret => exact ih _ _ h
    | ex i =>
      simp only [ap] at h ⊢
      cases hb : Nat.beq i id with
      | true => rw [hb] at h; simp only [cond_true] at h ⊢; exact ih _ _ h
      | false => rw [hb] at h; simp only [cond_false] at h ⊢; exact ih _ _ h
  | loop b K ih =>
    intro x st h
    cases x with
    | ex i => exact ih _ _ h
    | ret => exact ih _ _ h
    | nrm =>
      simp only [ap] at h ⊢
      change (match look E.ann (1000000 + firstRegion b) with
        | some L => match clean st L with
          | some st' => jmp (.loop b K) st'
          | none => none
        | none => none) = some r at h
      cases hl : look E.ann (1000000 + firstRegion b) with
      | none => rw [hl] at h; cases h
      | some L =>
        rw [hl] at h
        simp only at h ⊢
        cases hcl : clean st L with
        | none => rw [hcl] at h; cases h
        | some st' => rw [hcl] at h; exact hj _ _ h
theorem run_le (hj : ∀ t st, jmp t st = some r → jmp' t st = some r) (hc : CsLe E c v) : ∀ (d : Nat) (cd : Code) (K : Kont) (st : ASt), run (withCS E c v) jmp fin d cd K st = some r → run E jmp' fin d cd K st = some r := by
  intro d
  induction d generalizing jmp jmp' with
  | zero => intro cd K st h; exact hj _ _ h
  | succ d ih =>
    intro cd K st h
    have ih0 := @ih
    have ih := ih hj
    have hap := ap_le (v := v) (E := E) (c := c) (fin := fin) hj ih
    cases cd with
    | skip => exact hap K .nrm st h
    | exit id => exact hap K (.ex id) st h
    | ret => exact hap K .ret st h
    | region id ops draw => exact regionK_le hc (fun st h => hap K .nrm st h) h
    | seq a b => exact ih a _ st h
    | block id b => exact ih b _ st h
    | cond x a b =>
      simp only [run] at h ⊢
      split at h
      · rename_i x _
        cases x with
        | true => exact ih a K st h
        | false => exact ih b K st h
      · rename_i e n _
        cases e with
        | true =>
          obtain ⟨h1, h2⟩ := both_some h
          have g1 := ih0 (jmp := noJ) (jmp' := noJ) (fun _ _ h => by cases h) a K st h1
          have g2 := ih0 (jmp := noJ) (jmp' := noJ) (fun _ _ h => by cases h) b K st h2
          show both (run E noJ fin d a K st) (run E noJ fin d b K st) = some r
          rw [g1, g2]
          exact both_self _
        | false =>
          cases n with
          | true => exact ih a K st h
          | false => exact ih b K st h
      · cases h
    | loop b =>
      simp only [run] at h ⊢
      change (match look E.ann (1000000 + firstRegion b) with
        | some L => match clean st L with
          | some st' => jmp (.loop b K) st'
          | none => none
        | none => none) = some r at h
      cases hl : look E.ann (1000000 + firstRegion b) with
      | none => rw [hl] at h; cases h
      | some L =>
        rw [hl] at h
        simp only at h ⊢
        cases hcl : clean st L with
        | none => rw [hcl] at h; cases h
        | some st' => rw [hcl] at h; exact hj _ _ h
    | _ => cases h
end
/-- A run that is seen to end. -/
theorem runs_lim2 {c : List (Nat × Sig)} {v : List (Nat × SSig)} (hc : CtxLe c E.ctx) (hv : SvLe v E.sv) {R : Type} {r : R} {fin : ASt → Option R} {n : Nat} {t : Tgt} {st : ASt} (h : runs (withCS E c v) fin n t st = some r) : lim E fin t st = some r := by
  have key : ∀ n t st, runs (withCS E c v) fin n t st = some r → runs E fin n t st = some r := by
    intro n
    induction n with
    | zero => intro t st h; cases h
    | succ n ih => intro t st h; exact run_le ih ⟨hc, hv⟩ depth t.c t.k st h
  exact lim_some.2 ⟨n, key n t st h⟩
theorem runs_lim {c : List (Nat × Sig)} (hc : CtxLe c E.ctx) {R : Type} {r : R} {fin : ASt → Option R} {n : Nat} {t : Tgt} {st : ASt} (h : runs (withCtx E c) fin n t st = some r) : lim E fin t st = some r :=
  runs_lim2 hc (SvLe.refl _) h
end Go.Lift
namespace Go.Lift
open Go
theorem wrap64 {n : Int} (h1 : -9223372036854775808 ≤ n) (h2 : n ≤ 9223372036854775807) : IntKind.i64.wrap n = n := IntWalk.i64_in n ⟨h1, h2⟩
theorem idx_nat {α : Type} (l : List α) (i : Nat) : idx l (i : Int) = l[i]? := by
  have : (0 : Int) ≤ (i : Int) := by omega
  simp [idx, this]
theorem wrap_succ {i : Nat} (h : i < 9223372036854775807) : IntKind.i64.wrap ((i : Int) + 1) = ((i + 1 : Nat) : Int) := by
  rw [wrap64 (by omega) (by omega)]
  omega
theorem u64_eq (n : Int) : IntKind.u64.wrap n = n % 18446744073709551616 := by
  simp [IntKind.wrap, IntKind.bits, IntKind.signed]
theorem wrapU {n : Int} (h1 : 0 ≤ n) (h2 : n ≤ 18446744073709551615) : IntKind.u64.wrap n = n := by
  rw [u64_eq]; omega
theorem room_eq : room = 140737488355328 := rfl
theorem tdiv_pos {a b : Int} (h : 0 ≤ a) : Int.tdiv a b = a / b := Int.tdiv_eq_ediv_of_nonneg h
theorem bind_some' {α β : Type} (a : α) (f : α → Option β) : Option.bind (some a) f = f a := rfl
end Go.Lift
namespace Go.Lift
open Go
variable {P : Program} {E : Env}
theorem ctxLe_refl (c : List (Nat × Sig)) : CtxLe c c := fun _ sig h => ⟨sig.run, h, fun _ _ h => h⟩
theorem ctxLe_le {cs : Nat → List (Nat × Sig)} (h : ∀ d, CtxLe (cs d) (cs (d + 1))) {d d' : Nat} (hd : d ≤ d') : CtxLe (cs d) (cs d') := by
  induction hd with
  | refl => exact ctxLe_refl _
  | step _ ih =>
    intro f sig hl
    obtain ⟨r, h1, h2⟩ := ih f sig hl
    obtain ⟨r', h3, h4⟩ := h _ f _ h1
    exact ⟨r', h3, fun x y hx => h4 x y (h2 x y hx)⟩
/-- 'c' is what the contexts 'cs' come to. -/
structure Sup (cs : Nat → List (Nat × Sig)) (c : List (Nat × Sig)) : Prop where
  mono : ∀ d, CtxLe (cs d) (cs (d + 1))
  sup : ∀ f sig, look c f = some sig → ∃ fam : Nat → (argTy sig.ps).den → Option (resTy sig.rs sig.ps).den, (∀ d, look (cs d) f = some ⟨sig.ps, sig.rs, fam d⟩) ∧ ∀ x y, sig.run x = some y → ∃ d, fam d x = some y
section
variable {cs : Nat → List (Nat × Sig)} {c : List (Nat × Sig)} (hs : Sup cs c)
theorem callK_cont (hs : Sup cs c) {d0 f : Nat} {rows : RT} {more : List Nat} {args : List SV} {p : AV × Upd} (h : (callK (withCtx E c) d0 f rows more args fun v u => Tree.ret (v, u)).val = some p) :
    ∃ d, (callK (withCtx E (cs d)) d0 f rows more args fun v u => Tree.ret (v, u)).val = some p := by
  unfold callK at h
  have esv : (withCtx E c).sv = E.sv := rfl
  rw [esv] at h
  split at h
  · rename_i s hsv
    refine ⟨0, ?_⟩
    unfold callK
    rw [show look (withCtx E (cs 0)).sv f = some s from hsv]
    exact h
  rename_i hnone
  split at h
  · rename_i sig hsig
    obtain ⟨fam, h1, h2⟩ := hs.sup f sig hsig
    split at h
    · rename_i b hb
      obtain ⟨h0, h3⟩ := br_val h
      split at h3
      · rename_i fr hfr
        obtain ⟨y, hy, h4⟩ := bnd_val h3
        obtain ⟨d, hd⟩ := h2 _ _ hy
        refine ⟨d, ?_⟩
        unfold callK
        rw [show look (withCtx E (cs d)).sv f = none from hnone, show look (withCtx E (cs d)).ctx f = some ⟨sig.ps, sig.rs, fam d⟩ from h1 d]
        simp only [hb, Tree.val, h0, cond_true]
        have hfr' : (bif Sig.alias ⟨sig.ps, sig.rs, fam d⟩ then freeze rows (b.reads ++ more) else some []) = some fr := hfr
        rw [hfr']
        simp only [Tree.val, hd, Option.bind_some]
        exact h4
      · simp [Tree.val] at h3
    · simp [Tree.val] at h
  · simp [Tree.val] at h
theorem opT_cont (hs : Sup cs c) {o : Oper} {avs : List (Option AV)} {rows : RT} {p : AV × Upd} (h : (opT (withCtx E c) o avs rows).val = some p) : ∃ d, (opT (withCtx E (cs d)) o avs rows).val = some p := by
  obtain ⟨dst, op, ty, pos, af, gd⟩ := o
  cases op with
  | call cl =>
    obtain ⟨cal, args, tys⟩ := cl
    cases cal with
    | value fo =>
      simp only [opT, callOpK] at h ⊢
      split at h
      rotate_left
      · simp [Tree.val] at h
      split at h
      · exact callK_cont hs h
      · exact callK_cont hs h
      · simp [Tree.val] at h
    | invoke r n => exact ⟨0, h⟩
    | builtin b => cases b <;> exact ⟨0, h⟩
  | makeMap t r => cases r <;> exact ⟨0, h⟩
  | lookup t x y b => cases b <;> exact ⟨0, h⟩
  | _ => exact ⟨0, h⟩
theorem opsK_cont (hs : Sup cs c) {R : Type} {r : R} {ops : List Oper} {f : ASt → List Acc → Option R} {fs : Nat → ASt → List Acc → Option R} (hf : ∀ st tr, f st tr = some r → ∃ d, fs d st tr = some r)
    (hfm : ∀ d d' st tr, d ≤ d' → fs d st tr = some r → fs d' st tr = some r) :
    ∀ (l : List Oper) (st : ASt) (tr : List Acc), opsK (withCtx E c) ops l st tr f = some r → ∃ d, opsK (withCtx E (cs d)) ops l st tr (fs d) = some r := by
  intro l
  induction l with
  | nil => intro st tr h; exact hf st tr h
  | cons o l ih =>
    intro st tr h
    simp only [opsK] at h ⊢
    have run : ∀ st : ASt, (opT (withCtx E c) o (st.avs o) (rowsOf st (rdOf st o))).runK (fun p =>
          opsK (withCtx E c) ops l ((st.upd p.2).put o.dst p.1) (⟨(guardTmp ops o).toList ++ tmpsOf (operandsL o.op), o.dst.toList, rdOf st o, p.2.map (·.1), stoOf o (st.avs o)⟩ :: tr) f) = some r →
        ∃ d, (opT (withCtx E (cs d)) o (st.avs o) (rowsOf st (rdOf st o))).runK (fun p =>
          opsK (withCtx E (cs d)) ops l ((st.upd p.2).put o.dst p.1) (⟨(guardTmp ops o).toList ++ tmpsOf (operandsL o.op), o.dst.toList, rdOf st o, p.2.map (·.1), stoOf o (st.avs o)⟩ :: tr) (fs d)) = some r := by
      intro st h
      simp only [Tree.runK_eq] at h ⊢
      cases hv : (opT (withCtx E c) o (st.avs o) (rowsOf st (rdOf st o))).val with
      | none => rw [hv] at h; cases h
      | some p =>
        rw [hv] at h
        obtain ⟨d1, e1⟩ := opT_cont hs hv
        obtain ⟨d2, e2⟩ := ih _ _ h
        refine ⟨max d1 d2, ?_⟩
        have hc1 : CtxLe (cs d1) (withCtx E (cs (max d1 d2))).ctx := ctxLe_le hs.mono (Nat.le_max_left _ _)
        have hc2 : CtxLe (cs d2) (withCtx E (cs (max d1 d2))).ctx := ctxLe_le hs.mono (Nat.le_max_right _ _)
        rw [opT_le (E := withCtx E (cs (max d1 d2))) (v := E.sv) ⟨hc1, SvLe.refl _⟩ e1]
        exact opsK_le (E := withCtx E (cs (max d1 d2))) (v := E.sv) ⟨hc2, SvLe.refl _⟩ (fun st tr h => hfm d2 _ st tr (Nat.le_max_right _ _) h) l _ _ e2
    cases hgd : o.guard with
    | none => rw [hgd] at h; exact run st h
    | some gw =>
      obtain ⟨j, want⟩ := gw
      rw [hgd] at h
      simp only at h ⊢
      cases hgt : guardTmp ops o with
      | none => rw [hgt] at h; cases h
      | some g =>
        simp only [hgt] at h ⊢
        split at h
        · rename_i b hb
          rw [hgt] at run
          cases want <;> cases b <;> simp only [cond_true, cond_false] at h ⊢
          · exact run _ h
          · exact ih _ _ h
          · exact ih _ _ h
          · exact run _ h
        · exact ih _ _ h
        · cases h
theorem regionK_cont (hs : Sup cs c) {R : Type} {r : R} {ops : List Oper} {draw : Bool} {st : ASt} {f : ASt → Option R} {fs : Nat → ASt → Option R} (hf : ∀ st, f st = some r → ∃ d, fs d st = some r)
    (hfm : ∀ d d' st, d ≤ d' → fs d st = some r → fs d' st = some r) (h : regionK (withCtx E c) ops draw st f = some r) : ∃ d, regionK (withCtx E (cs d)) ops draw st (fs d) = some r := by
  unfold regionK at h ⊢
  change (cond (freshB ops st && ops.all (dstOk E.nt)) _ none) = some r at h
  cases hcc : (freshB ops st && ops.all (dstOk E.nt)) with
  | false => rw [hcc] at h; cases h
  | true =>
    rw [hcc, cond_true] at h
    have h1 : ∀ st' tr, cond (!draw || drawOk ops tr) (condAll (cond draw (storeConds (closure ops []) 0 [] tr.reverse) []) (f st')) none = some r → ∃ d, cond (!draw || drawOk ops tr) (condAll (cond draw (storeConds (closure ops []) 0 [] tr.reverse) []) (fs d st')) none = some r := by
      intro st' tr h
      cases hd : (!draw || drawOk ops tr) with
      | false => simp only [hd, cond_false] at h; cases h
      | true =>
        simp only [hd, cond_true] at h ⊢
        obtain ⟨h1, h2⟩ := condAll_some h
        obtain ⟨d, h3⟩ := hf st' h2
        exact ⟨d, condAll_mk h1 h3⟩
    have h2 : ∀ d d' st' tr, d ≤ d' → cond (!draw || drawOk ops tr) (condAll (cond draw (storeConds (closure ops []) 0 [] tr.reverse) []) (fs d st')) none = some r →
        cond (!draw || drawOk ops tr) (condAll (cond draw (storeConds (closure ops []) 0 [] tr.reverse) []) (fs d' st')) none = some r := by
      intro d d' st' tr hdd h
      cases hd : (!draw || drawOk ops tr) with
      | false => simp only [hd, cond_false] at h; cases h
      | true =>
        simp only [hd, cond_true] at h ⊢
        obtain ⟨h1, h2⟩ := condAll_some h
        exact condAll_mk h1 (hfm d d' st' hdd h2)
    obtain ⟨d, hd⟩ := opsK_cont hs (fs := fun d st' tr => cond (!draw || drawOk ops tr) (condAll (cond draw (storeConds (closure ops []) 0 [] tr.reverse) []) (fs d st')) none) h1 h2 ops st [] h
    refine ⟨d, ?_⟩
    change (cond (freshB ops st && ops.all (dstOk E.nt)) _ none) = some r
    rw [hcc, cond_true]
    exact hd
section
variable {R : Type} {r : R} {jmp : Tgt → ASt → Option R} {jmps : Nat → Tgt → ASt → Option R} {fin : ASt → Option R}
theorem ap_cont (hj : ∀ t st, jmp t st = some r → ∃ d, jmps d t st = some r) {rb : Code → Kont → ASt → Option R} {rbs : Nat → Code → Kont → ASt → Option R} (hrb : ∀ cd K st, rb cd K st = some r → ∃ d, rbs d cd K st = some r) :
    ∀ (K : Kont) (x : XT) (st : ASt), ap (withCtx E c) jmp fin rb K x st = some r → ∃ d, ap (withCtx E (cs d)) (jmps d) fin (rbs d) K x st = some r := by
  intro K
  induction K with
  | ret => intro x st h; cases x <;> exact ⟨0, h⟩
  | seq b K ih =>
    intro x st h
    cases x with
    | ex i => exact ih _ _ h
    | ret => exact ih _ _ h
    | nrm =>
      simp only [ap] at h ⊢
      change (match look E.ann (firstRegion b) with
        | none => rb b K st
        | some L => match clean st L with
          | some st' => jmp (.code b K) st'
          | none => none) = some r at h
      change ∃ d, (match look E.ann (firstRegion b) with
        | none => rbs d b K st
        | some L => match clean st L with
          | some st' => jmps d (.code b K) st'
          | none => none) = some r
      cases hl : look E.ann (firstRegion b) with
      | none => rw [hl] at h; exact hrb _ _ _ h
      | some L =>
        rw [hl] at h
        simp only at h ⊢
        cases hcl : clean st L with
        | none => rw [hcl] at h; cases h
        | some st' => rw [hcl] at h; exact hj _ _ h
  | blk id K ih =>
    intro x st h
    cases x with
    | nrm => exact ih _ _ h
    | ret => exact ih _ _ h
    | ex i =>
      simp only [ap] at h ⊢
      cases hb : Nat.beq i id with
      | true => rw [hb] at h; simp only [cond_true] at h ⊢; exact ih _ _ h
      | false => rw [hb] at h; simp only [cond_false] at h ⊢; exact ih _ _ h
  | loop b K ih =>
    intro x st h
    cases x with
    | ex i => exact ih _ _ h
    | ret => exact ih _ _ h
    | nrm =>
      simp only [ap] at h ⊢
      change (match look E.ann (1000000 + firstRegion b) with
        | some L => match clean st L with
          | some st' => jmp (.loop b K) st'
          | none => none
        | none => none) = some r at h
      change ∃ d, (match look E.ann (1000000 + firstRegion b) with
        | some L => match clean st L with
          | some st' => jmps d (.loop b K) st'
          | none => none
        | none => none) = some r
      cases hl : look E.ann (1000000 + firstRegion b) with
      | none => rw [hl] at h; cases h
      | some L =>
        rw [hl] at h
        simp only at h ⊢
        cases hcl : clean st L with
        | none => rw [hcl] at h; cases h
        | some st' => rw [hcl] at h; exact hj _ _ h
theorem run_cont (hs : Sup cs c) (hj : ∀ t st, jmp t st = some r → ∃ d, jmps d t st = some r) (hjm : ∀ d d' t st, d ≤ d' → jmps d t st = some r → jmps d' t st = some r) :
    ∀ (n : Nat) (cd : Code) (K : Kont) (st : ASt), run (withCtx E c) jmp fin n cd K st = some r → ∃ d, run (withCtx E (cs d)) (jmps d) fin n cd K st = some r := by
  intro n
  induction n generalizing jmp jmps with
  | zero => intro cd K st h; exact hj _ _ h
  | succ n ih =>
    intro cd K st h
    have ih0 := @ih
    have ih := ih hj hjm
    have hle : ∀ d d' cd K st, d ≤ d' → run (withCtx E (cs d)) (jmps d) fin n cd K st = some r → run (withCtx E (cs d')) (jmps d') fin n cd K st = some r := fun d d' cd K st hdd h =>
      run_le (E := withCtx E (cs d')) (fun t st h => hjm d d' t st hdd h) (v := E.sv) ⟨ctxLe_le hs.mono hdd, SvLe.refl _⟩ n cd K st h
    have hap := ap_cont (E := E) (cs := cs) (c := c) (fin := fin) hj ih
    have hapm : ∀ d d' (K : Kont) x st, d ≤ d' → ap (withCtx E (cs d)) (jmps d) fin (run (withCtx E (cs d)) (jmps d) fin n) K x st = some r → ap (withCtx E (cs d')) (jmps d') fin (run (withCtx E (cs d')) (jmps d') fin n) K x st = some r := fun d d' K x st hdd h =>
      ap_le (E := withCtx E (cs d')) (c := cs d) (fun t st h => hjm d d' t st hdd h) (fun cd K st h => hle d d' cd K st hdd h) K x st h
    cases cd with
    | skip => exact hap K .nrm st h
    | exit id => exact hap K (.ex id) st h
    | ret => exact hap K .ret st h
    | region id ops draw => exact regionK_cont hs (fs := fun d => ap (withCtx E (cs d)) (jmps d) fin (run (withCtx E (cs d)) (jmps d) fin n) K .nrm) (fun st h => hap K .nrm st h) (fun d d' st hdd h => hapm d d' K .nrm st hdd h) h
    | seq a b => exact ih a _ st h
    | block id b => exact ih b _ st h
    | cond x a b =>
      simp only [run] at h ⊢
      split at h
      · rename_i x _
        cases x with
        | true => exact ih a K st h
        | false => exact ih b K st h
      · rename_i e m _
        cases e with
        | true =>
          obtain ⟨h1, h2⟩ := both_some h
          obtain ⟨d1, g1⟩ := ih0 (jmp := noJ) (jmps := fun _ => noJ) (fun _ _ h => by cases h) (fun _ _ _ _ _ h => h) a K st h1
          obtain ⟨d2, g2⟩ := ih0 (jmp := noJ) (jmps := fun _ => noJ) (fun _ _ h => by cases h) (fun _ _ _ _ _ h => h) b K st h2
          have g1' := run_le (E := withCtx E (cs (max d1 d2))) (jmp := noJ) (jmp' := noJ) (fun _ _ h => h) (v := E.sv) ⟨ctxLe_le hs.mono (Nat.le_max_left d1 d2), SvLe.refl _⟩ n a K st g1
          have g2' := run_le (E := withCtx E (cs (max d1 d2))) (jmp := noJ) (jmp' := noJ) (fun _ _ h => h) (v := E.sv) ⟨ctxLe_le hs.mono (Nat.le_max_right d1 d2), SvLe.refl _⟩ n b K st g2
          refine ⟨max d1 d2, ?_⟩
          show both (run (withCtx E (cs (max d1 d2))) noJ fin n a K st) (run (withCtx E (cs (max d1 d2))) noJ fin n b K st) = some r
          rw [show run (withCtx E (cs (max d1 d2))) noJ fin n a K st = some r from g1', show run (withCtx E (cs (max d1 d2))) noJ fin n b K st = some r from g2']
          exact both_self _
        | false =>
          cases m with
          | true => exact ih a K st h
          | false => exact ih b K st h
      · cases h
    | loop b =>
      simp only [run] at h ⊢
      change (match look E.ann (1000000 + firstRegion b) with
        | some L => match clean st L with
          | some st' => jmp (.loop b K) st'
          | none => none
        | none => none) = some r at h
      change ∃ d, (match look E.ann (1000000 + firstRegion b) with
        | some L => match clean st L with
          | some st' => jmps d (.loop b K) st'
          | none => none
        | none => none) = some r
      cases hl : look E.ann (1000000 + firstRegion b) with
      | none => rw [hl] at h; cases h
      | some L =>
        rw [hl] at h
        simp only at h ⊢
        cases hcl : clean st L with
        | none => rw [hcl] at h; cases h
        | some st' => rw [hcl] at h; exact hj _ _ h
    | _ => cases h
theorem runs_ctx_le {c c' : List (Nat × Sig)} (hc : CtxLe c c') : ∀ (n : Nat) (t : Tgt) (st : ASt), runs (withCtx E c) fin n t st = some r → runs (withCtx E c') fin n t st = some r := by
  intro n
  induction n with
  | zero => intro t st h; cases h
  | succ n ih => intro t st h; exact run_le (E := withCtx E c') (v := E.sv) ih ⟨hc, SvLe.refl _⟩ depth t.c t.k st h
theorem runs_cont (hs : Sup cs c) : ∀ (n : Nat) (t : Tgt) (st : ASt), runs (withCtx E c) fin n t st = some r → ∃ d, runs (withCtx E (cs d)) fin n t st = some r := by
  intro n
  induction n with
  | zero => intro t st h; cases h
  | succ n ih =>
    intro t st h
    exact run_cont hs (jmps := fun d => runs (withCtx E (cs d)) fin n) ih (fun d d' t st hdd h => runs_ctx_le (ctxLe_le hs.mono hdd) n t st h) depth t.c t.k st h
theorem lim_ctx_le {c c' : List (Nat × Sig)} (hc : CtxLe c c') {t : Tgt} {st : ASt} (h : lim (withCtx E c) fin t st = some r) : lim (withCtx E c') fin t st = some r := by
  obtain ⟨n, hn⟩ := lim_some.1 h
  exact lim_some.2 ⟨n, runs_ctx_le hc n t st hn⟩
theorem lim_cont (hs : Sup cs c) {t : Tgt} {st : ASt} (h : lim (withCtx E c) fin t st = some r) : ∃ d, lim (withCtx E (cs d)) fin t st = some r := by
  obtain ⟨n, hn⟩ := lim_some.1 h
  obtain ⟨d, hd⟩ := runs_cont hs n t st hn
  exact ⟨d, lim_some.2 ⟨n, hd⟩⟩
end
end
section
variable {f : Nat} {ps : List PM} {rs : List RM} {ctx : List (Nat × Sig)} {fin : ASt → Option (resTy rs ps).den} {body : Code}
/-- Its calls, at most d deep. -/
noncomputable def recD (E : Env) (ctx : List (Nat × Sig)) (f : Nat) (ps : List PM) (rs : List RM) (fin : ASt → Option (resTy rs ps).den) (body : Code) : Nat → (argTy ps).den → Option (resTy rs ps).den
  | 0, _ => none
  | d + 1, x => lim (withCtx E ((f, ⟨ps, rs, recD E ctx f ps rs fin body d⟩) :: ctx)) fin (.code body .ret) (entryFrom 0 ps x)
open Classical in
noncomputable def recF (E : Env) (ctx : List (Nat × Sig)) (f : Nat) (ps : List PM) (rs : List RM) (fin : ASt → Option (resTy rs ps).den) (body : Code) (x : (argTy ps).den) : Option (resTy rs ps).den :=
  if h : ∃ y d, recD E ctx f ps rs fin body d x = some y then some h.choose else none
theorem recD_mono : ∀ (d : Nat) (x : (argTy ps).den) (y : (resTy rs ps).den), recD E ctx f ps rs fin body d x = some y → recD E ctx f ps rs fin body (d + 1) x = some y := by
  intro d
  induction d with
  | zero => intro x y h; cases h
  | succ d ih => intro x y h; exact lim_ctx_le (ctxLe_cons (ctxLe_refl ctx) ih) h
theorem recD_le {d d' : Nat} (hd : d ≤ d') {x : (argTy ps).den} {y : (resTy rs ps).den} (h : recD E ctx f ps rs fin body d x = some y) : recD E ctx f ps rs fin body d' x = some y := by
  induction hd with
  | refl => exact h
  | step _ ih => exact recD_mono _ _ _ ih
theorem recF_some {x : (argTy ps).den} {y : (resTy rs ps).den} : recF E ctx f ps rs fin body x = some y ↔ ∃ d, recD E ctx f ps rs fin body d x = some y := by
  unfold recF
  constructor
  · intro h
    split at h
    · rename_i hx
      obtain ⟨d, hd⟩ := hx.choose_spec
      cases h
      exact ⟨d, hd⟩
    · cases h
  · rintro ⟨d, hd⟩
    have hx : ∃ y d, recD E ctx f ps rs fin body d x = some y := ⟨y, d, hd⟩
    rw [dif_pos hx]
    obtain ⟨m, hm⟩ := hx.choose_spec
    have h1 := recD_le (Nat.le_max_left d m) hd
    have h2 := recD_le (Nat.le_max_right d m) hm
    rw [h1] at h2
    exact h2.symm
theorem recF_eq (x : (argTy ps).den) : recF E ctx f ps rs fin body x = lim (withCtx E ((f, ⟨ps, rs, recF E ctx f ps rs fin body⟩) :: ctx)) fin (.code body .ret) (entryFrom 0 ps x) := by
  have key : ∀ y, recF E ctx f ps rs fin body x = some y ↔ lim (withCtx E ((f, ⟨ps, rs, recF E ctx f ps rs fin body⟩) :: ctx)) fin (.code body .ret) (entryFrom 0 ps x) = some y := by
    intro y
    constructor
    · intro h
      obtain ⟨d, hd⟩ := recF_some.1 h
      cases d with
      | zero => cases hd
      | succ d => exact lim_ctx_le (ctxLe_cons (ctxLe_refl ctx) (fun x y h => recF_some.2 ⟨d, h⟩)) hd
    · intro h
      have hs : Sup (fun d => (f, ⟨ps, rs, recD E ctx f ps rs fin body d⟩) :: ctx) ((f, ⟨ps, rs, recF E ctx f ps rs fin body⟩) :: ctx) := by
        refine ⟨fun d => ctxLe_cons (ctxLe_refl ctx) (recD_mono d), fun g sig hl => ?_⟩
        rw [look_cons] at hl
        split at hl
        · rename_i e
          cases hl
          exact ⟨fun d => recD E ctx f ps rs fin body d, fun d => by rw [look_cons, if_pos e], fun x y h => recF_some.1 h⟩
        · rename_i e
          exact ⟨fun _ => sig.run, fun d => by rw [look_cons, if_neg e]; exact hl, fun x y h => ⟨0, h⟩⟩
      obtain ⟨d, hd⟩ := lim_cont hs h
      exact recF_some.2 ⟨d + 1, hd⟩
  cases h : recF E ctx f ps rs fin body x with
  | some y => exact ((key y).1 h).symm
  | none =>
    cases h' : lim (withCtx E ((f, ⟨ps, rs, recF E ctx f ps rs fin body⟩) :: ctx)) fin (.code body .ret) (entryFrom 0 ps x) with
    | none => rfl
    | some y => rw [(key y).2 h'] at h; cases h
theorem Kret_ctx (c : List (Nat × Sig)) (res : List ResultVar) (ps : List PM) (rs : List RM) : Kret (withCtx E c) res ps rs = Kret E res ps rs := by
  have h1 : ∀ (st : ASt) (l : List ResultVar), resVs (withCtx E c) st l = resVs E st l := by
    intro st l
    induction l with
    | nil => rfl
    | cons x l ih =>
      have hx : resV (withCtx E c) st x = resV E st x := by cases x <;> rfl
      simp only [resVs, hx, ih]
  funext st
  unfold Kret
  rw [h1]
/-- Its contract. -/
theorem callOK_rec (hm : P.follows .mixedOrders = true) (hT : TtOk P E.tt) (hC : CtxOk P ctx) {fn : Func} (hf : P.funcs[f]? = some fn) (hb : fn.body = some body) (hbn : fn.body.isNone = false) (hnm : (fn.name == "runtime.NumGoroutine") = false)
    (hn : fn.ntmps = E.nt) (hp : ps.length ≤ fn.ntmps) (hps : ps.length ≤ 1000) (hfin : fin = Kret E fn.results.toList ps rs) (hV : SvsOk P E.sv := by exact svsOk_nil) : CallOK P f ⟨ps, rs, recF E ctx f ps rs fin body⟩ := by
  subst hfin
  have key : ∀ d, CallOK P f ⟨ps, rs, recD E ctx f ps rs (Kret E fn.results.toList ps rs) body d⟩ := by
    intro d
    induction d with
    | zero => intro w S γ vals x y hy; cases hy
    | succ d ih =>
      exact callOK_of_lim (E := withCtx E ((f, ⟨ps, rs, recD E ctx f ps rs (Kret E fn.results.toList ps rs) body d⟩) :: ctx)) hm hT (ctxOk_cons hC ih hf hbn hnm) hf hb hn hp hps (fun x y h => by rw [Kret_ctx]; exact h) (hV := hV)
  intro w S γ vals x y hy
  obtain ⟨d, hd⟩ := recF_some.1 hy
  exact key d w S γ vals x y hd
end
end Go.Lift
