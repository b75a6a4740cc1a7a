import Derived.Test.YtmmimgjakoacaaaLib1
namespace Go.Lift
open Go
variable {P : Program} {E : Env}
section
variable {C : Entry} {w : World} {S : Nat → Prop} {γ : Gam} {st : ASt} {a : Act} {R : RT}
variable {dst : Option Nat} {ty : Nat} {pos : String} {af : Array Edge} {gd : Option (Nat × Bool)} {v : AV} {u : Upd} {ids : List Nat}
theorem toPure_ids {rows : RT} {t : Ty} {s : SV} {x : t.den} {is : List Nat} (h : toPure rows t s = some (x, is)) : ∀ id ∈ is, id ∈ s.ids := by
  cases s <;> simp only [toPure] at h <;> (repeat' split at h) <;> simp_all [SV.ids]
/-- A row that is not frozen along is as it was. -/
theorem row_freeze {rows : RT} {is : List Nat} {fr : Upd} (h : freeze rows is = some fr) {id : Nat} (hid : id ∉ is) : (st.upd fr).row id = st.row id := by
  rw [ASt.row_upd]
  split
  · rename_i x hx
    obtain ⟨r, _, _, h3, _⟩ := (freeze_look h).1 id x hx
    exact absurd h3 hid
  · rfl
theorem at_of_setP : ∀ (p : List Nat) {t : Ty} {x y : t.den} {d : DV}, setP t x p d = some y → ∃ o, t.at p = some (d.t, o) := by
  intro p
  induction p with
  | nil =>
    intro t x y d h
    simp only [setP] at h
    obtain ⟨e, _⟩ := castTy_some h
    exact ⟨0, by simp [Ty.at, e]⟩
  | cons f p ih =>
    intro t x y d h
    simp only [setP] at h
    split at h
    · rename_i e hf
      split at h
      · rename_i z hz
        obtain ⟨o, ho⟩ := ih hz
        obtain ⟨o', ho'⟩ := getF_comp hf
        exact ⟨o' + o, by simp [Ty.at, ho', ho]⟩
      · cases h
    · cases h
theorem sound_store0 (hT : TtOk P E.tt) {t : Nat} {x y : Operand} (hg : Good C w S γ st a.tmps)
    (hv : (one2 [st.ev x, st.ev y] fun a s => storeOpK E (rowsOf st ids) t a s fun v u => Tree.ret (v, u)).val = some (v, u)) : OpRes P ⟨dst, .store t x y, ty, pos, af, gd⟩ a w (After C st u v a.tmps) := by
  obtain ⟨sa, sb, he, hv1⟩ := one2_val (k := fun a s => storeOpK E (rowsOf st ids) t a s fun v u => Tree.ret (v, u)) hv
  clear hv
  simp only [List.cons.injEq, and_true] at he
  have hA := ev_rep hg.rel he.1
  have hB := ev_rep hg.rel he.2
  unfold storeOpK at hv1
  split at hv1
  · rename_i id i p
    unfold storeK at hv1
    split at hv1
    · rename_i τ r ht hr
      have hsub : ∀ id r, rowsOf st ids id = some r → st.row id = some r := fun _ _ => rowsOf_sub
      have hr' := hsub _ _ hr
      split at hv1
      · simp [Tree.val] at hv1
      · simp [Tree.val] at hv1
      · rename_i x' is hp hk hkv
        have hk : r.k ≠ .frozen := hk
        split at hv1
        · rename_i y' hs
          obtain ⟨h0, hv⟩ := br_val' hv1
          clear hv1
          split at hv
          · rename_i fr hf
            simp only [Tree.val, Option.some.injEq, Prod.mk.injEq] at hv
            obtain ⟨rfl, rfl⟩ := hv
            have hnid : id ∉ is := by simpa [List.elem_eq_mem] using h0
            have hg2 := hg.freeze hsub hf
            have hr2 : (st.upd fr).row id = some r := by rw [row_freeze hf hnid]; exact hr'
            have hrep := toPure_rep hg.rel.rows hsub hp hB
            obtain ⟨hi, b, q, uu, o, e1, e2, e3⟩ := hA r hr'
            have hro := hg2.rel.rows id r hr2
            obtain ⟨o', ho'⟩ := at_of_setP p hs
            rw [e2] at ho'
            simp only [Option.some.injEq, Prod.mk.injEq] at ho'
            obtain ⟨rfl, rfl⟩ := ho'
            have hle := at_le p e2
            obtain ⟨cur, e, c1, c2⟩ := hro.cells e1 (.inl (fun e => by rw [e] at hi; simp at hi))
            obtain ⟨ds, d1, d2⟩ := mem_row hro hi e1
            have hl := d2.length
            have hth : w.there b (q + i * r.t.nc + o) uu.nc := by
              intro j hj
              have := d1 (o + j) _ (List.getElem?_eq_getElem (by omega))
              rw [← Nat.add_assoc] at this
              exact ⟨by rw [this]; rfl, by simp [World.frozen?, c1]⟩
            have hvc := hrep.cells
            have hvl := hvc.length
            refine .inr (.inl ⟨w.setCells b (q + i * r.t.nc + o) (a.eval y).cells.toList, ?_, SU S γ is, γ, ?_, ?_⟩)
            · simp only [execOp, e3, Instr.storeAt, Instr.sureAddr, Sem.run_bind, Sem.run_pure, Result.andThen_ok, run_storeVar' (hT.at ht) hrep hth]
            · rw [upd_cons]
              have hrow1 : ∀ k x, ((st.upd fr).upd [(id, some { r with l := r.l.set i y' })]).row k = some x → (k = id ∧ x = { r with l := r.l.set i y' }) ∨ (k ≠ id ∧ (st.upd fr).row k = some x) := by
                intro k x hx
                rw [ASt.row_upd] at hx
                by_cases e : id = k
                · subst e
                  simp only [look, Nat.beq_refl, cond_true, Option.some.injEq] at hx
                  exact .inl ⟨rfl, hx.symm⟩
                · have hb : Nat.beq id k = false := by
                    rw [Bool.eq_false_iff]; intro e2; exact e (Nat.eq_of_beq_eq_true e2)
                  simp only [look, hb, cond_false] at hx
                  exact .inr ⟨fun e2 => e e2.symm, hx⟩
              refine hg2.write hr2 hk hkv e1 _ _ _ γ (fun _ _ _ => rfl) ?_ ?_
              · intro k x hx
                rcases hrow1 k x hx with ⟨rfl, rfl⟩ | ⟨h1, h2⟩
                · refine .inr ⟨.inl rfl, rfl, ⟨q, e1⟩, ⟨?_, ?_, ?_⟩, fun _ => ⟨rfl, by simp, rfl⟩, fun h => absurd rfl h⟩
                  · intro h; rw [h] at e1; cases e1
                  · intro b' q' h
                    rw [e1] at h
                    cases h
                    obtain ⟨cur', c3, c4⟩ := setCells_block w b (a.eval y).cells.toList (q + i * r.t.nc + o) cur e (0, 0) c1
                    refine .inl ⟨cur', e, c3, fun i' x hx => ?_⟩
                    have hSb : ¬ SU S γ is b := fun h => hk ((hro.st b q e1).2 h)
                    have hSw : ∀ k, SU S γ is k → (w.setCells b (q + i * r.t.nc + o) (a.eval y).cells.toList).heap[k]? = w.heap[k]? := fun k hkS => setCells_heap_other w b _ _ (fun e => hSb (e ▸ hkS))
                    by_cases e4 : i = i'
                    · subst e4
                      have hx : (r.l.set i y')[i]? = some x := hx
                      rw [List.getElem?_set_self hi] at hx
                      simp only [Option.some.injEq] at hx
                      subst hx
                      exact ⟨patch ds o (a.eval y).cells.toList, d1.setCells_patch o _ (by omega), (setP_rep p hs e2 d2 hvc).mono (fun _ h => h) hSw⟩
                    · have hx : (r.l.set i y')[i']? = some x := hx
                      rw [List.getElem?_set_ne e4] at hx
                      obtain ⟨ds', f1, f2⟩ := c2 i' x hx
                      have hl' := f2.length
                      exact ⟨ds', f1.setCells_apart _ _ _ (.inr (by have := apart_mul (n := r.t.nc) e4; omega)), f2.mono (fun _ h => h) hSw⟩
                  · exact hro.st
                · exact .inl ⟨h1, h2⟩
              · intro i1 j1 x1 y1 h1 h2 h3 h4
                have key : ∀ k x, ((st.upd fr).upd [(id, some { r with l := r.l.set i y' })]).row k = some x → (k = id ∨ k ∉ (st.upd fr).refs) → k = id := by
                  intro k x hx h
                  rcases hrow1 k x hx with ⟨rfl, _⟩ | ⟨_, h2⟩
                  · rfl
                  · exact h.resolve_right (fun h => h (ASt.row_refs h2))
                rw [key i1 x1 h1 h3, key j1 y1 h2 h4]
            · exact ⟨[], rfl, rfl, fun k s h => by simp at h⟩
          · simp [Tree.val] at hv
        · simp [Tree.val] at hv1
      · simp [Tree.val] at hv1
    · simp [Tree.val] at hv1
  · simp [Tree.val] at hv1
theorem sound_store (hT : TtOk P E.tt) {t : Nat} {x y : Operand} (hg : Good C w S γ st a.tmps)
    (hv : (opT E ⟨dst, .store t x y, ty, pos, af, gd⟩ [st.ev x, st.ev y] (rowsOf st ids)).val = some (v, u)) : OpRes P ⟨dst, .store t x y, ty, pos, af, gd⟩ a w (After C st u v a.tmps) := by
  by_cases h : ∃ id τ off av, st.ev x = some (.one (.vptr id τ off)) ∧ st.ev y = some av
  · obtain ⟨id, τ, off, av, he, he'⟩ := h
    rw [he, he'] at hv
    exact sound_vstore hT hg he he' hv
  · refine sound_store0 hT hg (ids := ids) ?_
    change (match [st.ev x, st.ev y] with
      | [some (.one (.vptr id u off)), some av] => vstoreK E (rowsOf st ids) t id u off av fun v u => Tree.ret (v, u)
      | _ => one2 [st.ev x, st.ev y] fun a s => storeOpK E (rowsOf st ids) t a s fun v u => Tree.ret (v, u)).val = some (v, u) at hv
    split at hv
    · rename_i id τ off av he
      simp only [List.cons.injEq, and_true] at he
      exact absurd ⟨id, τ, off, av, he⟩ h
    · exact hv
theorem flat_cells {t : Ty} {b : Nat} : ∀ (l : List t.den) (off : Nat), (∀ i x, l[i]? = some x → ∃ ds, Mem w b (off + i * t.nc) ds ∧ RepC w S t x ds) →
    ∃ news, news.length = l.length * t.nc ∧ Mem w b off news ∧ LRep w S t l news ∧ ∀ v ∈ news, v.oneCell' = true := by
  intro l
  induction l with
  | nil => intro off _; exact ⟨[], by simp, fun j v h => by simp at h, fun i x h => by simp at h, fun v h => by cases h⟩
  | cons x l ih =>
    intro off h
    obtain ⟨ds, d1, d2⟩ := h 0 x rfl
    obtain ⟨news, n1, n2, n3, n4⟩ := ih (off + t.nc) (fun i y hy => by
      obtain ⟨es, e1, e2⟩ := h (i + 1) y hy
      exact ⟨es, by rwa [show off + t.nc + i * t.nc = off + (i + 1) * t.nc by rw [Nat.add_mul]; omega], e2⟩)
    have hl := d2.length
    simp only [Nat.zero_mul, Nat.add_zero] at d1
    refine ⟨ds ++ news, ?_, Mem.join d1 (by rw [hl]; exact n2), ?_, ?_⟩
    · rw [List.length_append, n1, hl, List.length_cons, Nat.add_mul]; omega
    · intro i y hy
      cases i with
      | zero =>
        simp only [List.getElem?_cons_zero, Option.some.injEq] at hy
        subst hy
        exact ⟨ds, d2, fun j v hj => by rw [Nat.zero_mul, Nat.zero_add, List.getElem?_append_left (List.getElem?_eq_some_iff.1 hj).1]; exact hj⟩
      | succ n =>
        obtain ⟨es, e1, e2⟩ := n3 n y (by simpa using hy)
        refine ⟨es, e1, fun j v hj => ?_⟩
        rw [show (n + 1) * t.nc + j = ds.length + (n * t.nc + j) by rw [Nat.add_mul]; omega, List.getElem?_append_right (by omega), Nat.add_sub_cancel_left]
        exact e2 j v hj
    · intro v hv
      rcases List.mem_append.1 hv with hv | hv
      · exact d2.one v hv
      · exact n4 v hv
/-- What a slice holds that is read. -/
def SrcC (w : World) (S : Nat → Prop) (t : Ty) (xs : List t.den) (vx : Value) : Prop :=
  ∃ (ax : Option Addr) (cap : Nat) (news : List Value), vx = .slice ax xs.length cap ∧ news.length = xs.length * t.nc ∧ LRep w S t xs news ∧ (∀ v ∈ news, v.oneCell' = true) ∧ xs.length ≤ cap ∧ cap ≤ maxLen ∧
    (xs = [] ∨ ∃ b off, ax = some ⟨b, off, none⟩ ∧ Mem w b off news)
theorem src_cells (hrow : ∀ id r, st.row id = some r → RowOk w S γ id r) {rows : RT} (hsub : ∀ id r, rows id = some r → st.row id = some r) {t : Ty} {s : SV} {xs : List t.den} {is : List Nat} {vx : Value}
    (h : toPure rows (.sl t) s = some (xs, is)) (hv : RepS w S γ st.row s vx) :
    SrcC w S t xs vx := by
  have key : ∀ (a0 : Option Addr) (cap : Nat) (l : List t.den), l.length ≤ cap → cap ≤ maxLen →
      (l = [] ∨ ∃ b off, a0 = some ⟨b, off, none⟩ ∧ ∀ i x, l[i]? = some x → ∃ ds, Mem w b (off + i * t.nc) ds ∧ RepC w S t x ds) →
      SrcC w S t l (.slice a0 l.length cap) := by
    intro a0 cap l h1 h2 h3
    rcases h3 with rfl | ⟨b, off, rfl, h4⟩
    · exact ⟨a0, cap, [], rfl, by simp, fun i x h => (by simp at h), fun v h => (by cases h), h1, h2, .inl rfl⟩
    · obtain ⟨news, n1, n2, n3, n4⟩ := flat_cells l off h4
      exact ⟨_, cap, news, rfl, n1, n3, n4, h1, h2, .inr ⟨b, off, rfl, n2⟩⟩
  have own : ∀ (id : Nat) (r : Row) (lo len : Nat), st.row id = some r → r.t = t → (HEq ((r.l.drop lo).take len) xs) → lo + len ≤ r.l.length → OwnSl w γ id r.t.nc lo len vx → SrcC w S t xs vx := by
    intro id r lo len hr ht hx hlen hown
    subst ht
    have hx := eq_of_heq hx
    obtain ⟨a0, cap, rfl, o2, o3, o4⟩ := hown
    have hl : xs.length = len := by rw [← hx]; simp only [List.length_take, List.length_drop]; omega
    have := key a0 cap xs (by omega) o3 (by
      rcases o4 with o4 | ⟨b, p, p1, p2, p3⟩
      · left; exact List.eq_nil_of_length_eq_zero (by omega)
      · right
        refine ⟨b, _, p2, fun i x hi => ?_⟩
        obtain ⟨cur, e, c1, c2⟩ := (hrow id r hr).cells p1 (.inr ⟨_, p3⟩)
        have hi' : i < len := by have := (List.getElem?_eq_some_iff.1 hi).1; omega
        rw [← hx, List.getElem?_take_of_lt hi', List.getElem?_drop] at hi
        obtain ⟨ds, d1, d2⟩ := c2 (lo + i) x hi
        rw [Nat.add_mul, ← Nat.add_assoc] at d1
        exact ⟨ds, d1, d2⟩)
    rw [hl] at this
    exact this
  cases s with
  | val t' y =>
    simp only [toPure] at h
    split at h
    · rename_i z hz
      simp only [Option.some.injEq, Prod.mk.injEq] at h
      obtain ⟨rfl, rfl⟩ := h
      obtain ⟨e, he⟩ := castTy_some hz
      subst e
      simp only at he
      subst he
      obtain ⟨cs, ⟨a0, cap, rfl, h1, h2, h3⟩, rfl⟩ := hv
      refine key a0 cap y h1 h2 ?_
      cases y with
      | nil => exact .inl rfl
      | cons y0 yr =>
        right
        obtain ⟨b, off, ds, e1, _, _, _⟩ := h3 0 y0 rfl
        refine ⟨b, off, e1, fun i x hx => ?_⟩
        obtain ⟨b', off', ds', f1, _, f3, f4⟩ := h3 i x hx
        rw [e1] at f1
        cases f1
        exact ⟨ds', f3, f4⟩
    · cases h
  | nilsl =>
    simp only [toPure, Option.some.injEq, Prod.mk.injEq] at h
    obtain ⟨rfl, rfl⟩ := h
    obtain ⟨a0, rfl⟩ := hv
    exact key a0 0 [] (Nat.le_refl _) (by simp) (.inl rfl)
  | own id =>
    simp only [toPure] at h
    split at h
    · rename_i r hr
      split at h
      · rename_i z hz
        simp only [Option.some.injEq, Prod.mk.injEq] at h
        obtain ⟨rfl, rfl⟩ := h
        obtain ⟨e, he⟩ := castTy_some hz
        have ht : r.t = t := by injection e
        refine own id r 0 r.l.length (hsub _ _ hr) ht ?_ (by simp) (hv r (hsub _ _ hr))
        subst ht
        simp only at he
        simp [he]
      · cases h
    · cases h
  | osub id lo len =>
    simp only [toPure] at h
    split at h
    · rename_i r hr
      split at h
      · rename_i z hz
        simp only [Option.some.injEq, Prod.mk.injEq] at h
        obtain ⟨rfl, rfl⟩ := h
        obtain ⟨e, he⟩ := castTy_some hz
        have ht : r.t = t := by injection e
        obtain ⟨h1, h2⟩ := hv r (hsub _ _ hr)
        refine own id r lo len (hsub _ _ hr) ht ?_ h1 h2
        subst ht
        simp only at he
        simp [he]
      · cases h
    · cases h
  | rptr t' y => simp [toPure] at h
  | optr id i p => simp [toPure] at h
  | fn f c => simp [toPure] at h
  | und => simp [toPure] at h
  | vptr id t o => simp [toPure] at h
  | rfn f l => simp [toPure] at h
  | bnil e n => simp [toPure] at h
  | any => simp [toPure] at h
  | mref id => simp [toPure] at h
  | mp f n => simp [toPure] at h
theorem src_of {t : Ty} {tx e' : TypeId} (hk : P.underlying tx = some (.slice e')) {xs : List t.den} {ax : Option Addr} {cap : Nat} {news : List Value} (hl : news.length = xs.length * t.nc)
    (h1 : ∀ v ∈ news, v.oneCell' = true) (h : xs = [] ∨ ∃ b off, ax = some ⟨b, off, none⟩ ∧ Mem w b off news) : Src P t.nc tx (.slice ax xs.length cap) xs.length news w := by
  rcases h with rfl | ⟨b, off, rfl, hm⟩
  · have : news = [] := List.eq_nil_of_length_eq_zero (by simpa using hl)
    subst this
    cases ax with
    | none => exact Src.ofNil w hk cap
    | some ad => exact Src.ofSlice w hk ad 0 cap [] (by simp) (fun j u h => by simp at h) (fun u h => by cases h)
  · exact Src.ofSlice w hk _ _ cap news hl (fun j u hj => by rw [Addr.add_mid]; exact hm j u hj) h1
theorem kill_row (st : ASt) (ks : List Nat) (d : Nat) (r : Row) (k : Nat) (x : Row) (h : (st.upd ((d, some r) :: ks.map fun k => (k, none))).row k = some x) :
    (k = d ∧ x = r) ∨ (k ≠ d ∧ k ∉ ks ∧ st.row k = some x) := by
  rw [ASt.row_upd] at h
  by_cases e : d = k
  · subst e
    simp only [look, Nat.beq_refl, cond_true, Option.some.injEq] at h
    exact .inl ⟨rfl, h.symm⟩
  · have hb : Nat.beq d k = false := by
      rw [Bool.eq_false_iff]; intro e2; exact e (Nat.eq_of_beq_eq_true e2)
    simp only [look, hb, cond_false] at h
    have key : ∀ ks : List Nat, (k ∈ ks → look (ks.map fun k => (k, (none : Option Row))) k = some none) ∧ (k ∉ ks → look (ks.map fun k => (k, (none : Option Row))) k = none) := by
      intro ks
      induction ks with
      | nil => exact ⟨fun h => (by cases h), fun _ => rfl⟩
      | cons a ks ih =>
        by_cases e3 : a = k
        · subst e3
          exact ⟨fun _ => by simp [look], fun h => absurd (by simp) h⟩
        · have hb3 : Nat.beq a k = false := by
            rw [Bool.eq_false_iff]; intro e2; exact e3 (Nat.eq_of_beq_eq_true e2)
          simp only [List.map_cons, look, hb3, cond_false, List.mem_cons]
          exact ⟨fun h => ih.1 (h.resolve_left (fun h => e3 h.symm)), fun h => ih.2 (fun h2 => h (.inr h2))⟩
    by_cases hk : k ∈ ks
    · rw [(key ks).1 hk] at h
      cases h
    · rw [(key ks).2 hk] at h
      exact .inr ⟨fun h => e h.symm, hk, h⟩
/-- A row of no elements and no block, under a new id. -/
theorem Good.newNil (hg : Good C w S γ st a.tmps) {d : Nat} (hd : d ∉ st.refs) (t : Ty) (kill : List Nat) :
    Good C w S (fun i => if i = d then none else γ i) (st.upd ((d, some ⟨.free, t, []⟩) :: kill.map fun k => (k, none))) a.tmps := by
  have hback := kill_row st kill d ⟨.free, t, []⟩
  refine ⟨hg.rel.step _ (fun _ h => h) (fun _ _ => rfl) hg.rel.lt (fun _ _ h => h) ?_ ?_ ?_ ?_, ⟨hg.fr.size, hg.fr.os, hg.fr.tape, hg.fr.output, hg.fr.block, hg.fr.blk, hg.fr.s1, hg.fr.s2, ?_, ?_, hg.fr.gw, ?_⟩⟩
  · intro id r hr
    rcases hback id r hr with ⟨rfl, rfl⟩ | ⟨h1, _, h2⟩
    · exact ⟨fun _ => rfl, fun b p h => by simp at h, fun b p h => by simp at h⟩
    · exact (hg.rel.rows id r h2).mono (fun _ h => h) (fun _ _ => rfl) (by simp [h1]) (fun _ _ _ => rfl) (fun _ _ _ h => h)
  · intro id r hn hr
    rcases hback id r hr with ⟨rfl, rfl⟩ | ⟨h1, _, h2⟩
    · exact absurd (ASt.named_refs hn) hd
    · exact ⟨r, h2, rfl, rfl, by simp [h1]⟩
  · intro i j r r' b p q h1 h2 h3 h4
    rcases hback i r h1 with ⟨rfl, rfl⟩ | ⟨e1, _, e2⟩
    · simp at h3
    · rcases hback j r' h2 with ⟨rfl, rfl⟩ | ⟨e3, _, e4⟩
      · simp at h4
      · simp only [e1, if_false] at h3
        simp only [e3, if_false] at h4
        exact hg.rel.inj i j r r' b p q e2 e4 h3 h4
  · intro id r L hr hk
    rcases hback id r hr with ⟨rfl, rfl⟩ | ⟨h1, _, h2⟩
    · cases hk
    · exact ⟨⟨r, h2, hk⟩, by simp [h1], fun _ _ _ => rfl⟩
  · intro id r b p hr hp
    rcases hback id r hr with ⟨rfl, rfl⟩ | ⟨h1, _, h2⟩
    · simp at hp
    · simp only [h1, if_false] at hp
      exact hg.fr.rows id r b p h2 hp
  · intro id r hr hk
    rcases hback id r hr with ⟨rfl, rfl⟩ | ⟨h1, _, h2⟩
    · cases hk
    · have := hg.fr.fix id r h2 hk
      simp only [h1, if_false]
      exact this
  · intro id r L hr hk ht
    rcases hback id r hr with ⟨rfl, rfl⟩ | ⟨h1, _, h2⟩
    · cases hk
    · simp only [h1, if_false]
      exact hg.fr.pv id r L h2 hk ht
theorem growslice_fits' {need cap bytes : Nat} (h : cap < need) (hb : need * bytes ≤ 140737488355328) : Builtin.nextslicecap need cap * bytes ≤ 281474976710656 := growslice_fits h hb
/-- The base of an append: what is known of it. -/
structure BaseOk (w : World) (S : Nat → Prop) (γ : Gam) (st : ASt) (t : Ty) (l : List t.den) (u : Upd) (v : Value) : Prop where
  ex : ∃ (a0 : Option Addr) (cap : Nat), v = .slice a0 l.length cap ∧ l.length ≤ cap ∧ cap ≤ maxLen ∧
    ((cap = 0 ∧ ∃ ks : List Nat, u = ks.map fun k => (k, none)) ∨
     ∃ (id : Nat) (r : Row) (b p q : Nat), u = [(id, none)] ∧ st.row id = some r ∧ r.k = .free ∧ r.t = t ∧ γ id = some (b, p) ∧ a0 = some ⟨b, q, none⟩ ∧ Blk w b (q + cap * t.nc) ∧
       (∀ i x, l[i]? = some x → ∃ ds, Mem w b (q + i * t.nc) ds ∧ RepC w S t x ds))
theorem baseOf_rep (hrow : ∀ id r, st.row id = some r → RowOk w S γ id r) {rows : RT} (hsub : ∀ id r, rows id = some r → st.row id = some r) {t : Ty} {s : SV} {l : List t.den} {u : Upd} {v : Value}
    (h : baseOf rows t s = some (l, u)) (hv : RepS w S γ st.row s v) : BaseOk w S γ st t l u v := by
  have own : ∀ (id : Nat) (r : Row) (lo len : Nat), st.row id = some r → r.k = .free → r.t = t → (HEq ((r.l.drop lo).take len) l) → lo + len ≤ r.l.length → OwnSl w γ id r.t.nc lo len v → u = [(id, none)] → BaseOk w S γ st t l u v := by
    intro id r lo len hr hk ht hx hlen hown hu
    subst ht
    have hx := eq_of_heq hx
    obtain ⟨a0, cap, rfl, o2, o3, o4⟩ := hown
    have hl : l.length = len := by rw [← hx]; simp only [List.length_take, List.length_drop]; omega
    refine ⟨a0, cap, by rw [hl], by omega, o3, ?_⟩
    rcases o4 with o4 | ⟨b, p, p1, p2, p3⟩
    · exact .inl ⟨o4, [id], hu⟩
    · refine .inr ⟨id, r, b, p, _, hu, hr, hk, rfl, p1, p2, by rw [Nat.add_mul] at p3; rwa [Nat.add_assoc], fun i x hi => ?_⟩
      obtain ⟨cur, e, c1, c2⟩ := (hrow id r hr).cells p1 (.inr ⟨_, p3⟩)
      have hi' : i < len := by have := (List.getElem?_eq_some_iff.1 hi).1; omega
      rw [← hx, List.getElem?_take_of_lt hi', List.getElem?_drop] at hi
      obtain ⟨ds, d1, d2⟩ := c2 (lo + i) x hi
      rw [Nat.add_mul, ← Nat.add_assoc] at d1
      exact ⟨ds, d1, d2⟩
  cases s with
  | nilsl =>
    simp only [baseOf, Option.some.injEq, Prod.mk.injEq] at h
    obtain ⟨rfl, rfl⟩ := h
    obtain ⟨a0, rfl⟩ := hv
    exact ⟨a0, 0, rfl, Nat.le_refl _, by simp, .inl ⟨rfl, [], rfl⟩⟩
  | own id =>
    simp only [baseOf] at h
    split at h
    · rename_i r hr
      split at h
      · rename_i z hk hz
        simp only [Option.some.injEq, Prod.mk.injEq] at h
        obtain ⟨rfl, rfl⟩ := h
        obtain ⟨e, he⟩ := castTy_some hz
        have ht : r.t = t := by injection e
        refine own id r 0 r.l.length (hsub _ _ hr) hk ht ?_ (by simp) (hv r (hsub _ _ hr)) rfl
        subst ht
        simp only at he
        simp [he]
      · cases h
    · cases h
  | osub id lo len =>
    simp only [baseOf] at h
    split at h
    · rename_i r hr
      split at h
      · rename_i z hk hz
        simp only [Option.some.injEq, Prod.mk.injEq] at h
        obtain ⟨rfl, rfl⟩ := h
        obtain ⟨e, he⟩ := castTy_some hz
        have ht : r.t = t := by injection e
        obtain ⟨h1, h2⟩ := hv r (hsub _ _ hr)
        refine own id r lo len (hsub _ _ hr) hk ht ?_ h1 h2 rfl
        subst ht
        simp only at he
        simp [he]
      · cases h
    · cases h
  | val t' y => simp [baseOf] at h
  | rptr t' y => simp [baseOf] at h
  | optr id i p => simp [baseOf] at h
  | fn f c => simp [baseOf] at h
  | und => simp [baseOf] at h
  | vptr id t o => simp [baseOf] at h
  | rfn f l => simp [baseOf] at h
  | bnil e n => simp [baseOf] at h
  | any => simp [baseOf] at h
  | mref id => simp [baseOf] at h
  | mp f n => simp [baseOf] at h
theorem LRep.nil (w : World) (S : Nat → Prop) (t : Ty) : LRep w S t [] [] := fun i x h => by simp at h
theorem LRep.append {t : Ty} {l m : List t.den} {cs ds : List Value} (h1 : LRep w S t l cs) (hl : cs.length = l.length * t.nc) (h2 : LRep w S t m ds) : LRep w S t (l ++ m) (cs ++ ds) := by
  intro i x hx
  by_cases hi : i < l.length
  · rw [List.getElem?_append_left hi] at hx
    obtain ⟨es, e1, e2⟩ := h1 i x hx
    refine ⟨es, e1, fun j v hj => ?_⟩
    have := e2 j v hj
    rw [List.getElem?_append_left (List.getElem?_eq_some_iff.1 this).1]
    exact this
  · rw [List.getElem?_append_right (by omega)] at hx
    obtain ⟨es, e1, e2⟩ := h2 _ x hx
    refine ⟨es, e1, fun j v hj => ?_⟩
    have hmul : i * t.nc = l.length * t.nc + (i - l.length) * t.nc := by rw [← Nat.add_mul]; congr 1; omega
    rw [List.getElem?_append_right (by omega), show i * t.nc + j - cs.length = (i - l.length) * t.nc + j by omega]
    exact e2 j v hj
theorem LRep.more {t : Ty} {l : List t.den} {cs ds : List Value} (h : LRep w S t l cs) : LRep w S t l (cs ++ ds) := by
  intro i x hx
  obtain ⟨es, e1, e2⟩ := h i x hx
  refine ⟨es, e1, fun j v hj => ?_⟩
  have := e2 j v hj
  rw [List.getElem?_append_left (List.getElem?_eq_some_iff.1 this).1]
  exact this
theorem run_append (hT : TtOk P E.tt) {sT d : Nat} {tyR : TypeId} {s x : SV} {vs vx : Value} (hg : Good C w S γ st a.tmps) (hd : d ∉ st.refs)
    (hs : RepS w S γ st.row s vs) (hx : RepS w S γ st.row x vx) (hv : (appendK E d sT (rowsOf st ids) s x fun v u => Tree.ret (v, u)).val = some (v, u)) :
    ∃ val w', (Builtin.append_ #[sT, sT] tyR #[vs, vx]).run P w = .ok val w' ∧ After C st u v a.tmps val w' := by
  have hsub : ∀ id r, rowsOf st ids id = some r → st.row id = some r := fun _ _ => rowsOf_sub
  unfold appendK at hv
  split at hv
  · rename_i t eb hl
    split at hv
    · rename_i xs l kl hsrc hbase
      obtain ⟨h0, hv'⟩ := br_val hv
      clear hv
      simp only [Bool.and_eq_true, decide_eq_true_eq] at h0
      obtain ⟨h0, hnc⟩ := h0
      simp only [Tree.val, Option.some.injEq, Prod.mk.injEq] at hv'
      obtain ⟨rfl, rfl⟩ := hv'
      have ht : E.ty sT = some (.sl t) := by simp [Env.ty, hl]
      obtain ⟨⟨e, he1, he2⟩, _⟩ := hT.at ht
      obtain ⟨p1, p2⟩ := hT.el sT t eb e hl he1
      obtain ⟨ie, i1, i2, i3⟩ := he2.info.info
      have hby : ie.bytes = eb := by simpa [Program.bytesOf, i1] using p2
      have hmul : l.length + xs.length ≤ (l.length + xs.length) * eb := Nat.le_mul_of_pos_right _ p1
      have hroom : (room : Nat) = 140737488355328 := rfl
      have hmax : (maxLen : Nat) = 9223372036854775807 := rfl
      obtain ⟨is, hp⟩ : ∃ is, toPure (rowsOf st ids) (.sl t) x = some (xs, is) := by
        unfold srcOf at hsrc
        split at hsrc
        · rename_i l' is' hp
          simp only [Option.some.injEq] at hsrc
          subst hsrc
          exact ⟨_, hp⟩
        · cases hsrc
      obtain ⟨ax, capx, news, rfl, n1, n2, n3, n4, n5, n6⟩ := src_cells hg.rel.rows hsub hp hx
      have hSrc : Src P ie.size sT (.slice ax xs.length capx) xs.length news w := by rw [i2]; exact src_of he1 n1 n3 n6
      obtain ⟨a0, cap, rfl, b1, b2, b3⟩ := (baseOf_rep hg.rel.rows hsub hbase hs).ex
      have hzs : (pack t (zeroC t)).cells.size = t.nc := by rw [← Array.length_toList, zero_cells, (zeroC_rep w S t).length]
      by_cases hroomy : l.length + xs.length ≤ cap
      · rcases b3 with ⟨rfl, ks, rfl⟩ | ⟨id, r, b, p, q, rfl, r1, r2, r3, r4, r5, r6, r7⟩
        · have e1 : l = [] := List.eq_nil_of_length_eq_zero (by omega)
          have e2 : xs = [] := List.eq_nil_of_length_eq_zero (by omega)
          subst e1
          subst e2
          have e3 : news = [] := List.eq_nil_of_length_eq_zero (by simpa using n1)
          subst e3
          refine ⟨_, _, run_append_nothing w sT sT tyR e ie he1 i1 a0 0 0 (Nat.le_refl _) _ hSrc, S, _, hg.newNil hd t ks, fun r hr => ?_⟩
          rcases kill_row st ks d _ d r hr with ⟨_, rfl⟩ | ⟨h, _⟩
          · exact ⟨a0, 0, rfl, Nat.le_refl _, by simp, .inl rfl⟩
          · exact absurd rfl h
        · subst r3
          have hro := hg.rel.rows id r r1
          obtain ⟨cur, e', c1, c2⟩ := hro.cells r4 (.inr ⟨_, r6⟩)
          obtain ⟨cur0, e0, fz0, c10, c20⟩ := r6
          rw [c1] at c10
          cases c10
          have hcapm : (l.length + xs.length) * r.t.nc ≤ cap * r.t.nc := Nat.mul_le_mul_right _ hroomy
          rw [Nat.add_mul] at hcapm
          have hw : (Builtin.append_ #[sT, sT] tyR #[.slice a0 l.length cap, .slice ax xs.length capx]).run P w = .ok (.slice a0 (l.length + xs.length) cap) (w.setCells b (q + l.length * r.t.nc) news) := by
            rw [r5]
            have := run_append_room_src w sT sT tyR e ie he1 i1 b q l.length cap _ xs.length news hSrc hroomy (fun j hj => by
              rw [i2]
              simp only [World.cell?, c1]
              have : q + l.length * r.t.nc + j < cur.size := by omega
              simp [this]) (fun j hj => by simp [World.frozen?, c1])
            rw [i2] at this
            exact this
          have hSb : ¬ S b := fun h => (by have := (hro.st b p r4).2 h; rw [r2] at this; cases this)
          have hSw : ∀ k, S k → (w.setCells b (q + l.length * r.t.nc) news).heap[k]? = w.heap[k]? := fun k hkS => setCells_heap_other w b _ _ (fun e => hSb (e ▸ hkS))
          obtain ⟨cur', c3, c4⟩ := setCells_block w b news (q + l.length * r.t.nc) cur _ _ c1
          have hback := kill_row st [id] d ⟨.free, r.t, l ++ xs⟩
          have hidd : id ≠ d := fun e => hd (e ▸ ASt.row_refs r1)
          refine ⟨_, _, hw, S, fun i => if i = d then some (b, q) else γ i, ?_, ?_⟩
          · refine hg.write r1 (by simp [r2]) (by simp [r2]) r4 _ _ ([(d, some ⟨.free, r.t, l ++ xs⟩), (id, none)]) _ (fun i hi _ => ?_) ?_ ?_
            · have : i ≠ d := fun e => by
                obtain ⟨y, hy⟩ := Option.ne_none_iff_exists'.1 hi
                exact hd (e ▸ ASt.row_refs hy)
              simp [this]
            · intro i y hy
              rcases hback i y hy with ⟨rfl, rfl⟩ | ⟨h1, h2, h3⟩
              · refine .inr ⟨.inr ⟨hd, ?_⟩, by simp [r2], ⟨q, by simp⟩, ⟨fun h => by simp at h, fun b' p' h => ?_, fun b' p' h => ?_⟩, fun e => absurd e.symm hidd, fun _ => r2⟩
                · cases hc : (st.upd [(i, some ⟨.free, r.t, l ++ xs⟩), (id, none)]).row id with
                  | none => rfl
                  | some y =>
                    rcases hback id y hc with ⟨h, _⟩ | ⟨_, h, _⟩
                    · exact absurd h hidd
                    · exact absurd (by simp) h
                · simp only [if_true, Option.some.injEq, Prod.mk.injEq] at h
                  obtain ⟨rfl, rfl⟩ := h
                  refine .inl ⟨cur', _, c3, fun k z hz => ?_⟩
                  by_cases hk : k < l.length
                  · have hz : (l ++ xs)[k]? = some z := hz
                    rw [List.getElem?_append_left hk] at hz
                    obtain ⟨ds, d1, d2⟩ := r7 k z hz
                    have hl2 := d2.length
                    refine ⟨ds, d1.setCells_apart _ _ _ (.inr (.inl ?_)), d2.mono (fun _ h => h) hSw⟩
                    have := Nat.mul_le_mul_right r.t.nc (show k + 1 ≤ l.length by omega)
                    rw [Nat.add_mul] at this; omega
                  · have hz : (l ++ xs)[k]? = some z := hz
                    rw [List.getElem?_append_right (by omega)] at hz
                    obtain ⟨ds, d1, d2⟩ := n2 _ z hz
                    refine ⟨ds, fun j v hj => ?_, d1.mono (fun _ h => h) hSw⟩
                    have hj2 := d2 j v hj
                    have hj3 := (List.getElem?_eq_some_iff.1 hj2).1
                    have := World.cell?_setCells_in b news (q + l.length * r.t.nc) w (fun j hj => by
                      simp only [World.cell?, c1]
                      have : q + l.length * r.t.nc + j < cur.size := by omega
                      simp [this]) ((k - l.length) * r.t.nc + j) hj3
                    have hmul2 : k * r.t.nc = l.length * r.t.nc + (k - l.length) * r.t.nc := by rw [← Nat.add_mul]; congr 1; omega
                    rw [show q + l.length * r.t.nc + ((k - l.length) * r.t.nc + j) = q + k * r.t.nc + j by omega] at this
                    rw [this]
                    rw [List.getElem?_eq_getElem hj3] at hj2
                    exact hj2
                · simp only [if_true, Option.some.injEq, Prod.mk.injEq] at h
                  obtain ⟨rfl, rfl⟩ := h
                  exact ⟨fun h => (by cases h), fun h => absurd h hSb⟩
              · exact .inl ⟨fun e => h2 (by simp [e]), h3⟩
            · intro i j y y' h1 h2 h3 h4
              have key : ∀ i y, (st.upd [(d, some ⟨.free, r.t, l ++ xs⟩), (id, none)]).row i = some y → (i = id ∨ i ∉ st.refs) → i = d := by
                intro i y hy h
                rcases hback i y hy with ⟨h1, _⟩ | ⟨_, h2, h3⟩
                · exact h1
                · rcases h with h | h
                  · exact absurd (by simp [h]) h2
                  · exact absurd (ASt.row_refs h3) h
              rw [key i y h1 h3, key j y' h2 h4]
          · intro r' hr'
            rcases hback d r' hr' with ⟨_, rfl⟩ | ⟨h, _⟩
            · refine ⟨a0, cap, by simp, by simpa using hroomy, b2, .inr ⟨b, q, by simp, by simpa using r5, cur', _, _, c3, ?_⟩⟩
              simp only [Nat.zero_add]; omega
            · exact absurd rfl h
      · obtain ⟨olds, o1, o2, o3⟩ : ∃ olds : List Value, olds.length = l.length * t.nc ∧ LRep w S t l olds ∧ Src P ie.size sT (.slice a0 l.length cap) l.length olds w := by
          rcases b3 with ⟨rfl, ks, rfl⟩ | ⟨id, r, b, p, q, rfl, r1, r2, r3, r4, r5, r6, r7⟩
          · have e1 : l = [] := List.eq_nil_of_length_eq_zero (by omega)
            subst e1
            exact ⟨[], by simp, LRep.nil w S t, by rw [i2]; exact src_of he1 (t := t) (xs := []) (news := []) (by simp) (fun v h => by cases h) (.inl rfl)⟩
          · obtain ⟨olds, o1, o2, o3, o4⟩ := flat_cells l q r7
            exact ⟨olds, o1, o3, by rw [i2]; exact src_of he1 o1 o4 (.inr ⟨b, q, r5, o2⟩)⟩
        have hgr := run_append_grow_src w sT sT tyR e ie _ he1 i1 i3 a0 l.length cap olds o3.cellsD _ xs.length news hSrc (by omega) (by omega) (growslice_fits' (by omega) (by rw [hby]; omega))
        obtain ⟨ks, hks⟩ : ∃ ks : List Nat, kl = ks.map fun k => (k, none) := by
          rcases b3 with ⟨_, ks, rfl⟩ | ⟨id, r, b, p, q, rfl, _⟩
          · exact ⟨ks, rfl⟩
          · exact ⟨[id], rfl⟩
        subst hks
        have hge := grownCap_ge w (l.length + xs.length) cap e
        have hcm := grownCap_le_maxLen w (l.length + xs.length) cap e (by omega)
        have hA := new_own hg hd (t := t) (l := l ++ xs) (arr := (olds ++ news).toArray ++ Builtin.zeroCells (pack t (zeroC t)).cells (grownCap w (l.length + xs.length) cap e - (l.length + xs.length)))
          (cap := grownCap w (l.length + xs.length) cap e) e ks (.inr rfl) (by
            rw [Array.toList_append]
            exact (LRep.append o2 o1 n2).more) (by simpa using hge) hcm (by
            rw [Array.size_append, size_zeroCells, hzs]
            simp only [List.size_toArray, List.length_append, o1, n1]
            rw [← Nat.add_mul, ← Nat.add_mul]
            apply Nat.le_of_eq; congr 1; omega)
        rw [List.length_append] at hA
        exact ⟨_, _, hgr, hA⟩
    · simp [Tree.val] at hv
  · simp [Tree.val] at hv
theorem list1 {args : Array Operand} {x : Option AV} (h : args.toList.map st.ev = [x]) : ∃ o, args = #[o] ∧ st.ev o = x := by
  have hl := congrArg List.length h
  simp only [List.length_map, List.length_cons, List.length_nil] at hl
  match hq : args.toList, hl with
  | [o], _ =>
    rw [hq] at h
    simp only [List.map_cons, List.map_nil, List.cons.injEq, and_true] at h
    exact ⟨o, by rw [← Array.toArray_toList (xs := args), hq], h⟩
theorem list2 {args : Array Operand} {x y : Option AV} (h : args.toList.map st.ev = [x, y]) : ∃ o q, args = #[o, q] ∧ st.ev o = x ∧ st.ev q = y := by
  have hl := congrArg List.length h
  simp only [List.length_map, List.length_cons, List.length_nil] at hl
  match hq : args.toList, hl with
  | [o, q], _ =>
    rw [hq] at h
    simp only [List.map_cons, List.map_nil, List.cons.injEq, and_true] at h
    exact ⟨o, q, by rw [← Array.toArray_toList (xs := args), hq], h⟩
theorem sound_append (hT : TtOk P E.tt) {args : Array Operand} {tys : Array TypeId} (hg : Good C w S γ st a.tmps) (hd : dst.getD 1000000 ∉ st.refs)
    (hv : (opT E ⟨dst, .call ⟨.builtin .append, args, tys⟩, ty, pos, af, gd⟩ (args.toList.map st.ev) (rowsOf st ids)).val = some (v, u)) :
    OpRes P ⟨dst, .call ⟨.builtin .append, args, tys⟩, ty, pos, af, gd⟩ a w (After C st u v a.tmps) := by
  obtain ⟨s, x, he, hv1⟩ := one2_val (k := fun s x => .br (decide (tys.toList = [tys.toList.headD 0, tys.toList.headD 0])) (appendK E (dst.getD 1000000) (tys.toList.headD 0) (rowsOf st ids) s x fun v u => Tree.ret (v, u)) .fail) hv
  clear hv
  obtain ⟨h0, hv⟩ := br_val hv1
  clear hv1
  simp only [decide_eq_true_eq] at h0
  obtain ⟨o, q, rfl, e1, e2⟩ := list2 he
  obtain ⟨val, w', h1, h2⟩ := run_append (P := P) (tyR := ty) hT hg hd (ev_rep hg.rel e1) (ev_rep hg.rel e2) hv
  refine .inl ⟨val, w', ?_, h2⟩
  have ht : tys = #[tys.toList.headD 0, tys.toList.headD 0] := by
    conv => lhs; rw [← Array.toArray_toList (xs := tys), h0]
  generalize tys.toList.headD 0 = t at *
  subst ht
  simp only [execOp, resolve, invoke, builtin, Sem.run_bind, Sem.run_pure, Result.andThen_ok, List.map_toArray, List.map_cons, List.map_nil]
  rw [h1]
  rfl
/-- A slice over elements of the type. -/
def SlTy (rows : RT) (τ : Ty) : SV → Prop
  | .val t' _ => t' = .sl τ
  | .nilsl => True
  | .own id | .osub id _ _ => ∃ r, rows id = some r ∧ r.t = τ
  | _ => False
theorem fits_sl {rows : RT} (hsub : ∀ id r, rows id = some r → st.row id = some r) {t : Nat} {s : SV} {vs : Value} (hT : TtOk P E.tt) (hf : fits E rows t s = true) (hs : RepS w S γ st.row s vs) :
    (∃ x ba, s = .val .str x ∧ vs = .string ba ∧ ba.data.toList = x ∧ x.length ≤ maxLen ∧ P.underlying t = some .string) ∨
    (∃ e τ a0 len cap, P.underlying t = some (.slice e) ∧ TyOk P τ e ∧ vs = .slice a0 len cap ∧ lenOf rows s = some len ∧ len ≤ cap ∧ cap ≤ maxLen ∧ SlTy st.row τ s) := by
  unfold fits at hf
  split at hf
  · rename_i x ht
    obtain ⟨ba, h1, h2, h3⟩ := inv_str hs
    exact .inl ⟨x, ba, rfl, h1, h2, h3, (hT.at ht).1⟩
  · rename_i τ t' l ht
    obtain ⟨cs, ⟨a0, cap, rfl, h1, h2, _⟩, rfl⟩ := hs
    obtain ⟨⟨e, he1, he2⟩, _⟩ := hT.at ht
    have hf : τ = t' := by simpa using hf
    exact .inr ⟨e, τ, a0, l.length, cap, he1, he2, rfl, rfl, h1, h2, by rw [hf]; rfl⟩
  · rename_i τ ht
    obtain ⟨a0, rfl⟩ := hs
    obtain ⟨⟨e, he1, he2⟩, _⟩ := hT.at ht
    exact .inr ⟨e, τ, a0, 0, 0, he1, he2, rfl, rfl, Nat.le_refl _, by simp, trivial⟩
  · rename_i τ id ht
    split at hf
    · rename_i r hr
      obtain ⟨a0, cap, rfl, h1, h2, _⟩ := hs r (hsub _ _ hr)
      obtain ⟨⟨e, he1, he2⟩, _⟩ := hT.at ht
      have hf : τ = r.t := by simpa using hf
      exact .inr ⟨e, τ, a0, r.l.length, cap, he1, he2, rfl, by simp [lenOf, hr], h1, h2, r, hsub _ _ hr, hf.symm⟩
    · cases hf
  · rename_i τ id lo len ht
    split at hf
    · rename_i r hr
      obtain ⟨_, a0, cap, rfl, h1, h2, _⟩ := hs r (hsub _ _ hr)
      obtain ⟨⟨e, he1, he2⟩, _⟩ := hT.at ht
      have hf : τ = r.t := by simpa using hf
      exact .inr ⟨e, τ, a0, len, cap, he1, he2, rfl, by simp [lenOf, hr], h1, h2, r, hsub _ _ hr, hf.symm⟩
    · cases hf
  · cases hf
theorem wf_len {n : Nat} (h : n ≤ maxLen) : (Lit.int .i64 (n : Int)).wf = true := by
  rw [wf_iff]
  have h1 : IntKind.i64.min = -9223372036854775808 := by decide
  have h2 : IntKind.i64.max = 9223372036854775807 := by decide
  have h3 : (maxLen : Nat) = 9223372036854775807 := rfl
  omega
theorem sound_len (hT : TtOk P E.tt) {args : Array Operand} {tys : Array TypeId} (hg : Good C w S γ st a.tmps)
    (hv : (opT E ⟨dst, .call ⟨.builtin .len, args, tys⟩, ty, pos, af, gd⟩ (args.toList.map st.ev) (rowsOf st ids)).val = some (v, u)) :
    OpRes P ⟨dst, .call ⟨.builtin .len, args, tys⟩, ty, pos, af, gd⟩ a w (After C st u v a.tmps) := by
  obtain ⟨s, he, hv1⟩ := one1_val (k := fun s => .br (decide (tys.toList = [tys.toList.headD 0]) && fits E (rowsOf st ids) (tys.toList.headD 0) s) (lenK (rowsOf st ids) s fun v => Tree.ret (v, ([] : Upd))) .fail) hv
  clear hv
  obtain ⟨h0, hv⟩ := br_val hv1
  clear hv1
  simp only [Bool.and_eq_true, decide_eq_true_eq] at h0
  obtain ⟨h0, hf⟩ := h0
  obtain ⟨o, rfl, e1⟩ := list1 he
  have ht : tys = #[tys.toList.headD 0] := by
    conv => lhs; rw [← Array.toArray_toList (xs := tys), h0]
  generalize tys.toList.headD 0 = t at *
  subst ht
  have hsub : ∀ id r, rowsOf st ids id = some r → st.row id = some r := fun _ _ => rowsOf_sub
  unfold lenK at hv
  split at hv
  · rename_i n hn
    simp only [Tree.val, Option.some.injEq, Prod.mk.injEq] at hv
    obtain ⟨rfl, rfl⟩ := hv
    rcases fits_sl hsub hT hf (ev_rep hg.rel e1) with ⟨x, ba, rfl, g1, g2, g3, g4⟩ | ⟨e, τ, a0, len, cap, g1, g2, g3, g4, g5, g6, _⟩
    · simp only [lenOf, Option.some.injEq] at hn
      have hsz : ba.size = n := by rw [← hn, ← g2]; exact (Array.length_toList (xs := ba.data)).symm
      refine res_same hg (v := .int .i64 (n : Int)) ?_ (mk_int (wf_len (by omega)))
      simp [execOp, resolve, invoke, builtin, Builtin.len_, g1, run_underlying g4, hsz, goInt]
    · rw [g4] at hn
      cases hn
      refine res_same hg (v := .int .i64 (n : Int)) ?_ (mk_int (wf_len (by omega)))
      simp [execOp, resolve, invoke, builtin, Builtin.len_, g3, run_underlying g1, goInt]
  · simp [Tree.val] at hv
theorem run_sliceBound {k : IntKind} {n : Int} {y : Nat} {code : BoundsCode} (h0 : 0 ≤ n) (h1 : n ≤ (y : Int)) (w' : World) : (Instr.sliceBound (.int k n) y code).run P w' = .ok n.toNat w' := by
  simp [Instr.sliceBound, asIntOf, h0, h1]
/-- The bounds of a piece. -/
theorem run_bounds {b : Bool} {len cap : Nat} {lo hi : Option (IntKind × Int)} {l h : Int} (hl : l = (lo.map (·.2)).getD 0) (hh : h = (hi.map (·.2)).getD (len : Int)) (h0 : 0 ≤ l) (h1 : l ≤ h) (h2 : h ≤ (len : Int)) (hc : len ≤ cap) (w' : World) :
    (Instr.sliceBounds b len cap (lo.map fun x => .int x.1 x.2) (hi.map fun x => .int x.1 x.2) none).run P w' = .ok (l.toNat, h.toNat, cap) w' := by
  have e2 : h ≤ (cap : Int) := by omega
  have hhl : 0 ≤ h := by omega
  have e3 : l ≤ ((h.toNat : Nat) : Int) := by omega
  unfold Instr.sliceBounds
  cases lo with
  | none =>
    simp only [Option.map_none, Option.getD_none] at hl
    subst hl
    cases hi with
    | none =>
      simp only [Option.map_none, Option.getD_none] at hh
      subst hh
      simp
    | some x =>
      simp only [Option.map_some, Option.getD_some] at hh
      subst hh
      simp [run_sliceBound hhl e2]
  | some y =>
    simp only [Option.map_some, Option.getD_some] at hl
    subst hl
    cases hi with
    | none =>
      simp only [Option.map_none, Option.getD_none] at hh
      subst hh
      simp [run_sliceBound h0 h1]
    | some x =>
      simp only [Option.map_some, Option.getD_some] at hh
      subst hh
      simp [run_sliceBound hhl e2, run_sliceBound h0 e3]
theorem intOfSV_val {s : SV} {n : Int} {val : Value} (h : intOfSV s = some n) (hs : RepS w S γ R s val) : ∃ k, val = .int k n := by
  unfold intOfSV at h
  split at h
  · rename_i k m
    simp only [Option.some.injEq] at h
    obtain ⟨h1, _⟩ := inv_int hs
    exact ⟨k, by rw [h1, h]⟩
  · cases h
theorem run_slice (hT : TtOk P E.tt) {t : Nat} {s : SV} {vs : Value} {lo hi : Option (IntKind × Int)} (hf : fits E (rowsOf st ids) t s = true) (hs : RepS w S γ st.row s vs)
    (hv : (sliceK (rowsOf st ids) s (lo.map (·.2)) (hi.map (·.2)) fun v => Tree.ret (v, ([] : Upd))).val = some (v, u)) :
    [] = u ∧ ∃ val, (Instr.sliceAt t vs (lo.map fun x => .int x.1 x.2) (hi.map fun x => .int x.1 x.2) none).run P w = .ok val w ∧ RepA w S γ st.row v val := by
  have hsub : ∀ id r, rowsOf st ids id = some r → st.row id = some r := fun _ _ => rowsOf_sub
  unfold sliceK at hv
  split at hv
  · rename_i n hn
    have hv1 := br_val hv
    clear hv
    obtain ⟨h0, hv⟩ := hv1
    simp only [Bool.and_eq_true, decide_eq_true_eq] at h0
    obtain ⟨h0, h1, h2⟩ := h0
    generalize hl : ((lo.map (·.2)).getD 0 : Int) = l at *
    generalize hh : ((hi.map (·.2)).getD (n : Int) : Int) = h at *
    have hlh : l.toNat ≤ h.toNat := by omega
    have hhn : h.toNat ≤ n := by omega
    rcases fits_sl hsub hT hf hs with ⟨x, ba, rfl, rfl, g2, g3, g4⟩ | ⟨e, τ, a0, len, cap, g1, g2, rfl, g4, g5, g6, g7⟩
    · simp only [lenOf, Option.some.injEq] at hn
      simp only [Tree.val, Option.some.injEq, Prod.mk.injEq] at hv
      obtain ⟨rfl, rfl⟩ := hv
      have hsz : ba.size = n := by rw [← hn, ← g2]; exact (Array.length_toList (xs := ba.data)).symm
      refine ⟨rfl, .string (ba.extract l.toNat h.toNat), ?_, mk_str _ ?_ (by simp only [List.length_take, List.length_drop]; omega)⟩
      · have hb := run_bounds (P := P) (b := false) (len := ba.size) (cap := ba.size) hl.symm (by rw [hsz]; exact hh.symm) h0 h1 (by omega) (Nat.le_refl _) w
        simp [Instr.sliceAt, Instr.slice, run_underlying g4, hb]
      · rw [← g2]
        rw [ByteArray.data_extract, Array.toList_extract, List.extract_eq_take_drop]
    · rw [g4] at hn
      cases hn
      have hb := run_bounds (P := P) (b := true) (len := n) (cap := cap) hl.symm hh.symm h0 h1 h2 g5 w
      have hrun : (Instr.sliceAt t (.slice a0 n cap) (lo.map fun x => .int x.1 x.2) (hi.map fun x => .int x.1 x.2) none).run P w =
          .ok (.slice (if cap = l.toNat then a0 else a0.map (·.add (l.toNat * τ.nc))) (h.toNat - l.toNat) (cap - l.toNat)) w := by
        simp [Instr.sliceAt, Instr.slice, run_underlying g1, hb, run_sizeOf' g2]
      have addr : ∀ b off, a0 = some ⟨b, off, none⟩ → cap - l.toNat ≠ 0 → (if cap = l.toNat then a0 else a0.map (·.add (l.toNat * τ.nc))) = some ⟨b, off + l.toNat * τ.nc, none⟩ := by
        intro b off e1 e2
        rw [if_neg (by omega), e1]
        simp [Addr.add_mid]
      cases s with
      | val t' x =>
        have g7 : t' = .sl τ := g7
        subst g7
        simp only [Tree.val, Option.some.injEq, Prod.mk.injEq] at hv
        obtain ⟨rfl, rfl⟩ := hv
        simp only [lenOf, Option.some.injEq] at g4
        obtain ⟨cs, ⟨a1, cap1, rfl, k1, k2, k3⟩, k4⟩ := hs
        simp only [pack, Ty.isAgg, Bool.false_eq_true, if_false, List.headD_cons, Value.slice.injEq] at k4
        obtain ⟨rfl, _, rfl⟩ := k4
        refine ⟨rfl, _, hrun, ⟨[_], ⟨(if cap = l.toNat then a0 else a0.map (·.add (l.toNat * τ.nc))), cap - l.toNat, ?_, ?_, by omega, fun i y hy => ?_⟩, rfl⟩⟩
        · simp only [List.length_take, List.length_drop]
          rw [Nat.min_eq_left (by omega)]
        · simp only [List.length_take, List.length_drop]; omega
        · have hi : i < h.toNat - l.toNat := by
            have := (List.getElem?_eq_some_iff.1 hy).1
            simp only [List.length_take, List.length_drop] at this; omega
          rw [List.getElem?_take_of_lt hi, List.getElem?_drop] at hy
          obtain ⟨b, off, ds, f1, f2, f3, f4⟩ := k3 _ y hy
          refine ⟨b, _, ds, addr b off f1 (by omega), f2, ?_, f4⟩
          rw [Nat.add_mul, ← Nat.add_assoc] at f3
          exact f3
      | nilsl =>
        simp only [lenOf, Option.some.injEq] at g4
        obtain ⟨a1, k4⟩ := hs
        simp only [Value.slice.injEq] at k4
        obtain ⟨_, _, rfl⟩ := k4
        simp only [Tree.val, Option.some.injEq, Prod.mk.injEq] at hv
        obtain ⟨rfl, rfl⟩ := hv
        exact ⟨rfl, _, hrun, _, by rw [show h.toNat - l.toNat = 0 by omega, show 0 - l.toNat = 0 by omega]⟩
      | own id =>
        obtain ⟨r, hr, rfl⟩ := g7
        simp only [Tree.val, Option.some.injEq, Prod.mk.injEq] at hv
        obtain ⟨rfl, rfl⟩ := hv
        obtain ⟨a1, cap1, k1, k2, k3, k4⟩ := hs r hr
        simp only [Value.slice.injEq] at k1
        obtain ⟨rfl, k1, rfl⟩ := k1
        refine ⟨rfl, _, hrun, fun r' hr' => ?_⟩
        rw [hr] at hr'
        cases hr'
        refine ⟨by omega, _, cap - l.toNat, rfl, by omega, by omega, ?_⟩
        by_cases hz : cap - l.toNat = 0
        · exact .inl hz
        · rcases k4 with k4 | ⟨b, p, f1, f2, f3⟩
          · omega
          · refine .inr ⟨b, p, f1, ?_, ?_⟩
            · have := addr b _ f2 hz
              rw [this]; simp
            · rw [show l.toNat + (cap - l.toNat) = 0 + cap by omega]; exact f3
      | osub id lo' ln =>
        obtain ⟨r, hr, rfl⟩ := g7
        simp only [Tree.val, Option.some.injEq, Prod.mk.injEq] at hv
        obtain ⟨rfl, rfl⟩ := hv
        obtain ⟨k0, a1, cap1, k1, k2, k3, k4⟩ := hs r hr
        simp only [Value.slice.injEq] at k1
        obtain ⟨rfl, k1, rfl⟩ := k1
        refine ⟨rfl, _, hrun, fun r' hr' => ?_⟩
        rw [hr] at hr'
        cases hr'
        refine ⟨by omega, _, cap - l.toNat, rfl, by omega, by omega, ?_⟩
        by_cases hz : cap - l.toNat = 0
        · exact .inl hz
        · rcases k4 with k4 | ⟨b, p, f1, f2, f3⟩
          · omega
          · refine .inr ⟨b, p, f1, ?_, ?_⟩
            · have := addr b _ f2 hz
              rw [this, Nat.add_mul, Nat.add_assoc]
            · rw [show lo' + l.toNat + (cap - l.toNat) = lo' + cap by omega]; exact f3
      | rptr t' y => simp [lenOf] at g4
      | optr id i p => simp [lenOf] at g4
      | fn f c => simp [lenOf] at g4
      | und => simp [lenOf] at g4
      | vptr id t o => simp [lenOf] at g4
      | rfn f l => simp [lenOf] at g4
      | bnil e n => simp [lenOf] at g4
      | any => simp [lenOf] at g4
      | mref id => simp [lenOf] at g4
      | mp f n => simp [lenOf] at g4
  · simp [Tree.val] at hv
theorem sound_slice (hT : TtOk P E.tt) {t : Nat} {x : Operand} {lo hi mx : Option Operand} (hg : Good C w S γ st a.tmps)
    (hv : (opT E ⟨dst, .slice t x lo hi mx, ty, pos, af, gd⟩ ((x :: (lo.toList ++ (hi.toList ++ mx.toList))).map st.ev) (rowsOf st ids)).val = some (v, u)) :
    OpRes P ⟨dst, .slice t x lo hi mx, ty, pos, af, gd⟩ a w (After C st u v a.tmps) := by
  change (sliceOpT E t (rowsOf st ids) lo.isSome hi.isSome mx.isSome ((x :: (lo.toList ++ (hi.toList ++ mx.toList))).map st.ev) fun v => Tree.ret (v, ([] : Upd))).val = some (v, u) at hv
  unfold sliceOpT at hv
  split at hv
  · rename_i s vs ho
    have hv1 := br_val hv
    clear hv
    obtain ⟨hf, hv⟩ := hv1
    obtain ⟨hlen, hall⟩ := ones_val ho
    have hs : RepS w S γ st.row s (a.eval x) := by
      obtain ⟨x', h1, h2⟩ := hall 0 s rfl
      simp only [List.getElem?_cons_zero, Option.some.injEq] at h1
      subst h1
      exact ev_rep hg.rel h2
    have hn : ∀ (j : Nat) (z : SV) (o : Operand) (n : Int), vs[j]? = some z → (lo.toList ++ (hi.toList ++ mx.toList))[j]? = some o → intOfSV z = some n → ∃ k, a.eval o = .int k n := by
      intro j z o n h1 h2 h3
      obtain ⟨o', h4, h5⟩ := hall (j + 1) z (by simpa using h1)
      simp only [List.getElem?_cons_succ, h2, Option.some.injEq] at h4
      subst h4
      exact intOfSV_val h3 (ev_rep hg.rel h5)
    have fin : ∀ (lo' hi' : Option (IntKind × Int)), mx = none → lo.map a.eval = lo'.map (fun x => .int x.1 x.2) → hi.map a.eval = hi'.map (fun x => .int x.1 x.2) →
        (sliceK (rowsOf st ids) s (lo'.map (·.2)) (hi'.map (·.2)) fun v => Tree.ret (v, ([] : Upd))).val = some (v, u) → OpRes P ⟨dst, .slice t x lo hi mx, ty, pos, af, gd⟩ a w (After C st u v a.tmps) := by
      intro lo' hi' h0 h1 h2 h3
      obtain ⟨rfl, val, h4, h5⟩ := run_slice hT hf hs h3
      refine res_same hg (v := val) ?_ h5
      subst h0
      simp only [execOp, h1, h2, Option.map_none, Sem.run_bind, h4, Result.andThen_ok, Sem.run_pure]
    unfold sliceOpK at hv
    split at hv
    · rename_i e1 e2 e3 e4
      have : lo = none := by simpa using e1
      have : hi = none := by simpa using e2
      have : mx = none := by simpa using e3
      subst lo hi mx
      exact fin none none rfl rfl rfl hv
    · rename_i q e1 e2 e3 e4
      obtain ⟨lo0, rfl⟩ := Option.isSome_iff_exists.1 e1
      have : hi = none := by simpa using e2
      have : mx = none := by simpa using e3
      subst hi mx
      match vs, e4 with
      | [z], e4 =>
        simp only [List.map_cons, List.map_nil, List.cons.injEq, and_true] at e4
        obtain ⟨k, hk⟩ := hn 0 z lo0 q rfl rfl e4
        exact fin (some (k, q)) none rfl (by simp [hk]) rfl hv
    · rename_i q e1 e2 e3 e4
      obtain ⟨hi0, rfl⟩ := Option.isSome_iff_exists.1 e2
      have : lo = none := by simpa using e1
      have : mx = none := by simpa using e3
      subst lo mx
      match vs, e4 with
      | [z], e4 =>
        simp only [List.map_cons, List.map_nil, List.cons.injEq, and_true] at e4
        obtain ⟨k, hk⟩ := hn 0 z hi0 q rfl rfl e4
        exact fin none (some (k, q)) rfl rfl (by simp [hk]) hv
    · rename_i q q' e1 e2 e3 e4
      obtain ⟨lo0, rfl⟩ := Option.isSome_iff_exists.1 e1
      obtain ⟨hi0, rfl⟩ := Option.isSome_iff_exists.1 e2
      have : mx = none := by simpa using e3
      subst mx
      match vs, e4 with
      | [z, z'], e4 =>
        simp only [List.map_cons, List.map_nil, List.cons.injEq, and_true] at e4
        obtain ⟨k, hk⟩ := hn 0 z lo0 q rfl rfl e4.1
        obtain ⟨k', hk'⟩ := hn 1 z' hi0 q' rfl rfl e4.2
        exact fin (some (k, q)) (some (k', q')) rfl (by simp [hk]) (by simp [hk']) hv
    · rename_i q q' e1 e2 e3 e4
      have hv1 := br_val hv
      clear hv
      obtain ⟨h0, hv⟩ := hv1
      simp only [Bool.and_eq_true, decide_eq_true_eq] at h0
      obtain ⟨rfl, rfl, h1, h2⟩ := h0
      simp only [Tree.val, Option.some.injEq, Prod.mk.injEq] at hv
      obtain ⟨rfl, rfl⟩ := hv
      have : lo = none := by simpa using e1
      obtain ⟨hi0, rfl⟩ := Option.isSome_iff_exists.1 e2
      obtain ⟨mx0, rfl⟩ := Option.isSome_iff_exists.1 e3
      subst lo
      match vs, e4 with
      | [z, z'], e4 =>
        simp only [List.map_cons, List.map_nil, List.cons.injEq, and_true] at e4
        obtain ⟨k, hk⟩ := hn 0 z hi0 0 rfl rfl e4.1
        obtain ⟨k', hk'⟩ := hn 1 z' mx0 0 rfl rfl e4.2
        rcases fits_sl (fun _ _ => rowsOf_sub) hT hf hs with ⟨x', ba, rfl, _⟩ | ⟨e, τ, a0, len, cap, g1, g2, g3, g4, g5, g6, g7⟩
        · simp [isSlice] at h1
        · exact res_same hg (v := .slice a0 0 0) (by simp [execOp, g3, hk, hk', Instr.sliceAt, Instr.slice, run_underlying g1, Instr.sliceBounds, Instr.sliceBound, asIntOf, run_sizeOf' g2]) ⟨a0, rfl⟩
    · simp [Tree.val] at hv
  · simp [Tree.val] at hv
theorem wf_either {k : IntKind} {x y : Int} {b : Bool} (hx : (Lit.int k x).wf = true) (hy : (Lit.int k y).wf = true) : (Lit.int k (cond b x y)).wf = true := by cases b <;> assumption
theorem sound_mm (mx : Bool) {args : Array Operand} {tys : Array TypeId} (hg : Good C w S γ st a.tmps) {b : Builtin} (hb : b = cond mx .max .min)
    (hv : (one2 (args.toList.map st.ev) fun p q => mmK mx p q fun v => Tree.ret (v, ([] : Upd))).val = some (v, u)) :
    OpRes P ⟨dst, .call ⟨.builtin b, args, tys⟩, ty, pos, af, gd⟩ a w (After C st u v a.tmps) := by
  obtain ⟨s1, s2, he, hv1⟩ := one2_val hv
  clear hv
  obtain ⟨o, q, rfl, e1, e2⟩ := list2 he
  have hA := ev_rep hg.rel e1
  have hB := ev_rep hg.rel e2
  unfold mmK at hv1
  split at hv1
  · rename_i k x k' y
    obtain ⟨hk, hv1⟩ := br_val hv1
    have hk := of_decide_eq_true hk
    simp only [Tree.val, Option.some.injEq, Prod.mk.injEq] at hv1
    obtain ⟨rfl, rfl⟩ := hv1
    obtain ⟨c1, ⟨h1, h2⟩, h3⟩ := hA
    obtain ⟨c2, ⟨h4, h5⟩, h6⟩ := hB
    have g1 : a.eval o = .int k x := by rw [h3, h1]; rfl
    have g2 : a.eval q = .int k' y := by rw [h6, h4]; rfl
    subst hk
    subst hb
    cases mx
    · refine res_same hg (v := .int k (cond (decide (y < x)) y x)) ?_ (mk_int (k := k) (n := cond (decide (y < x)) y x) (wf_either h5 h2))
      simp [execOp, resolve, invoke, builtin, Builtin.min_, Builtin.min2, g1, g2, Bool.cond_decide]
    · refine res_same hg (v := .int k (cond (decide (y > x)) y x)) ?_ (mk_int (k := k) (n := cond (decide (y > x)) y x) (wf_either h5 h2))
      simp [execOp, resolve, invoke, builtin, Builtin.max_, Builtin.max2, g1, g2, Bool.cond_decide]
  · simp [Tree.val] at hv1
theorem size_zeros (t : Ty) (n : Nat) : (Builtin.zeroCells (pack t (zeroC t)).cells n).toList.length = n * t.nc := by
  have hs : (pack t (zeroC t)).cells.size = t.nc := by rw [← Array.length_toList, zero_cells, (zeroC_rep default (fun _ => False) t).length]
  simp [Builtin.zeroCells, hs]
theorem one_zeros (t : Ty) (n : Nat) : ∀ v ∈ (Builtin.zeroCells (pack t (zeroC t)).cells n).toList, v.oneCell' = true := by
  intro v hv
  have hs : (pack t (zeroC t)).cells.size = t.nc := by rw [← Array.length_toList, zero_cells, (zeroC_rep default (fun _ => False) t).length]
  simp only [Builtin.zeroCells, Array.toList_map, List.mem_map, Array.toList_range, List.mem_range] at hv
  obtain ⟨i, hi, rfl⟩ := hv
  rw [hs] at hi
  have hpos : 0 < t.nc := by
    rcases Nat.eq_zero_or_pos t.nc with h | h
    · rw [h, Nat.mul_zero] at hi; omega
    · exact h
  have hlt : i % t.nc < (pack t (zeroC t)).cells.size := by rw [hs]; exact Nat.mod_lt _ hpos
  rw [hs, getElem!_pos (pack t (zeroC t)).cells (i % t.nc) hlt]
  have h : ∀ v ∈ (pack t (zeroC t)).cells.toList, v.oneCell' = true := by rw [zero_cells]; exact (zeroC_rep default (fun _ => False) t).one
  exact h _ (Array.mem_toList_iff.2 (Array.getElem_mem hlt))
theorem rep_zeros (t : Ty) (n : Nat) : LRep w S t (List.replicate n t.zero) (Builtin.zeroCells (pack t (zeroC t)).cells n).toList := by
  have hs : (pack t (zeroC t)).cells.size = t.nc := by rw [← Array.length_toList, zero_cells, (zeroC_rep default (fun _ => False) t).length]
  have := LRep.zeros (w := w) (S := S) t n (Nat.le_refl n)
  unfold Builtin.zeroCells
  rw [hs] at this ⊢
  exact this
theorem sound_clear (hT : TtOk P E.tt) {args : Array Operand} {tys : Array TypeId} (hg : Good C w S γ st a.tmps)
    (hv : (one1 (args.toList.map st.ev) fun s => .br (decide (tys.toList = [tys.toList.headD 0])) (clearK E (tys.toList.headD 0) (rowsOf st ids) s fun v u => Tree.ret (v, u)) .fail).val = some (v, u)) :
    OpRes P ⟨dst, .call ⟨.builtin .clear, args, tys⟩, ty, pos, af, gd⟩ a w (After C st u v a.tmps) := by
  obtain ⟨s, he, hv1⟩ := one1_val hv
  clear hv
  obtain ⟨h0, hv⟩ := br_val hv1
  clear hv1
  simp only [decide_eq_true_eq] at h0
  obtain ⟨o, rfl, e1⟩ := list1 he
  have ht : tys = #[tys.toList.headD 0] := by
    conv => lhs; rw [← Array.toArray_toList (xs := tys), h0]
  generalize tys.toList.headD 0 = t at *
  subst ht
  have hsub : ∀ id r, rowsOf st ids id = some r → st.row id = some r := fun _ _ => rowsOf_sub
  have hA := ev_rep hg.rel e1
  unfold clearK at hv
  split at hv
  · rename_i τ id lo len hty
    split at hv
    · rename_i r hr
      have hr' := hsub _ _ hr
      split at hv
      · simp [Tree.val] at hv
      · simp [Tree.val] at hv
      · rename_i hk hkv
        have hk : r.k ≠ .frozen := hk
        have hkv : ∀ L, r.k ≠ .var L := hkv
        obtain ⟨h1, hv⟩ := br_val hv
        simp only [Bool.and_eq_true, decide_eq_true_eq] at h1
        obtain ⟨⟨h1, h2⟩, h3⟩ := h1
        simp only [Tree.val, Option.some.injEq, Prod.mk.injEq] at hv
        obtain ⟨rfl, rfl⟩ := hv
        obtain ⟨hle, a0, cap, g1, g2, g3, g4⟩ := hA r hr'
        have hro := hg.rel.rows id r hr'
        rcases g4 with g4 | ⟨b, p, g5, g6, g7⟩
        · omega
        obtain ⟨⟨elem, hu, hel⟩, _⟩ := hT.at hty
        obtain ⟨cur, e, c1, c2⟩ := hro.cells g5 (.inr ⟨_, g7⟩)
        cases r with
        | mk rk rt rl =>
          simp only at h1 hle g6 g7 c2 hk hkv hro
          subst h1
          let vs := (Builtin.zeroCells (pack τ (zeroC τ)).cells len).toList
          have hvl : vs.length = len * τ.nc := size_zeros τ len
          obtain ⟨news, n1, n2, n3, n4⟩ := flat_cells (w := w) (S := S) (b := b) ((rl.drop lo).take len) (p + lo * τ.nc) (fun i x hx => by
            have hi : i < len := by have := (List.getElem?_eq_some_iff.1 hx).1; simp only [List.length_take, List.length_drop] at this; omega
            rw [List.getElem?_take_of_lt hi, List.getElem?_drop] at hx
            obtain ⟨ds, d1, d2⟩ := c2 (lo + i) x hx
            exact ⟨ds, by rwa [show p + lo * τ.nc + i * τ.nc = p + (lo + i) * τ.nc by rw [Nat.add_mul]; omega], d2⟩)
          have n1' : news.length = len * τ.nc := by rw [n1]; congr 1; simp only [List.length_take, List.length_drop]; omega
          have hth : w.there b (p + lo * τ.nc) vs.length := by
            intro j hj
            have := n2 j _ (List.getElem?_eq_getElem (by omega))
            exact ⟨by rw [this]; rfl, by simp [World.frozen?, c1]⟩
          have hrun := run_storeCells_cells (P := P) b (p + lo * τ.nc) vs 0 w (fun j hj => by simpa using (hth j hj).1) (fun j hj => by simpa using (hth j hj).2) (one_zeros τ len)
          have hnew : Mem (w.setCells b (p + lo * τ.nc) vs) b (p + lo * τ.nc) vs := by
            have := n2.setCells_patch 0 vs (by omega)
            rw [Nat.add_zero] at this
            have hp : patch news 0 vs = vs := by
              simp only [patch, List.take_zero, List.nil_append, List.drop_of_length_le (show news.length ≤ 0 + vs.length by omega), List.append_nil]
            rwa [hp] at this
          refine .inl ⟨.tuple #[], w.setCells b (p + lo * τ.nc) vs, ?_, S, γ, ?_, ?_⟩
          · have hne : len ≠ 0 := by omega
            obtain ⟨m, rfl⟩ : ∃ m, len = m + 1 := ⟨len - 1, by omega⟩
            simp only [execOp, resolve, invoke, builtin, Builtin.clear_, g1, g6, Sem.run_bind, Sem.run_pure, Result.andThen_ok, run_underlying hu, List.getElem?_toArray, List.map_toArray, List.map_cons, List.map_nil, List.getElem?_cons_zero, run_zeroValue' hel]
            rw [show vs = (Builtin.zeroCells (pack τ (zeroC τ)).cells (m + 1)).toList from rfl] at hrun
            rw [hrun]
            rfl
          · have hrow1 : ∀ k x, (st.upd [(id, some { k := rk, t := τ, l := rl.take lo ++ (List.replicate len τ.zero ++ rl.drop (lo + len)) })]).row k = some x →
                (k = id ∧ x = { k := rk, t := τ, l := rl.take lo ++ (List.replicate len τ.zero ++ rl.drop (lo + len)) }) ∨ (k ≠ id ∧ st.row k = some x) := by
              intro k x hx
              rw [ASt.row_upd] at hx
              by_cases e : id = k
              · subst e
                simp only [look, Nat.beq_refl, cond_true, Option.some.injEq] at hx
                exact .inl ⟨rfl, hx.symm⟩
              · have hb : Nat.beq id k = false := by
                  rw [Bool.eq_false_iff]; intro e2; exact e (Nat.eq_of_beq_eq_true e2)
                simp only [look, hb, cond_false] at hx
                exact .inr ⟨fun e2 => e e2.symm, hx⟩
            refine hg.write hr' hk hkv g5 _ _ _ γ (fun _ _ _ => rfl) ?_ ?_
            · intro k x hx
              rcases hrow1 k x hx with ⟨rfl, rfl⟩ | ⟨h1, h2⟩
              · refine .inr ⟨.inl rfl, rfl, ⟨p, g5⟩, ⟨?_, ?_, ?_⟩, fun _ => ⟨rfl, by simp; omega, rfl⟩, fun h => absurd rfl h⟩
                · intro h; rw [h] at g5; cases g5
                · intro b' q' h
                  rw [g5] at h
                  cases h
                  obtain ⟨cur', c3, c4⟩ := setCells_block w b vs (p + lo * τ.nc) cur e (0, 0) c1
                  refine .inl ⟨cur', e, c3, fun i x hx => ?_⟩
                  have hSb : ¬ S b := fun h => hk ((hro.st b p g5).2 h)
                  have hSw : ∀ k, S k → (w.setCells b (p + lo * τ.nc) vs).heap[k]? = w.heap[k]? := fun k hkS => setCells_heap_other w b _ _ (fun e => hSb (e ▸ hkS))
                  have old : ∀ j y, rl[j]? = some y → (j < lo ∨ lo + len ≤ j) → ∃ ds, Mem (w.setCells b (p + lo * τ.nc) vs) b (p + j * τ.nc) ds ∧ RepC (w.setCells b (p + lo * τ.nc) vs) S τ y ds := by
                    intro j y hy hj
                    obtain ⟨ds, d1, d2⟩ := c2 j y hy
                    have hl := d2.length
                    refine ⟨ds, d1.setCells_apart _ _ _ (.inr ?_), d2.mono (fun _ h => h) hSw⟩
                    rcases hj with hj | hj
                    · left; have := Nat.mul_le_mul_right τ.nc (show j + 1 ≤ lo by omega); rw [Nat.add_mul] at this; omega
                    · right; have := Nat.mul_le_mul_right τ.nc hj; rw [Nat.add_mul] at this; omega
                  have hx : (rl.take lo ++ (List.replicate len τ.zero ++ rl.drop (lo + len)))[i]? = some x := hx
                  have htl : (rl.take lo).length = lo := by simp; omega
                  by_cases i1 : i < lo
                  · rw [List.getElem?_append_left (by omega), List.getElem?_take_of_lt i1] at hx
                    exact old i x hx (.inl i1)
                  · rw [List.getElem?_append_right (by omega), htl] at hx
                    by_cases i2 : i - lo < len
                    · rw [List.getElem?_append_left (by simpa using i2)] at hx
                      obtain ⟨ds, d1, d2⟩ := rep_zeros (w := w.setCells b (p + lo * τ.nc) vs) (S := S) τ len (i - lo) x hx
                      refine ⟨ds, fun j v hj => ?_, d1⟩
                      have := hnew _ _ (d2 j v hj)
                      rwa [show p + lo * τ.nc + ((i - lo) * τ.nc + j) = p + i * τ.nc + j by
                        have : i * τ.nc = lo * τ.nc + (i - lo) * τ.nc := by rw [← Nat.add_mul]; congr 1; omega
                        omega] at this
                    · rw [List.getElem?_append_right (by simp; omega), List.length_replicate, List.getElem?_drop] at hx
                      rw [show lo + len + (i - lo - len) = i by omega] at hx
                      exact old i x hx (.inr (by omega))
                · exact hro.st
              · exact .inl ⟨h1, h2⟩
            · intro i1 j1 x1 y1 q1 q2 q3 q4
              have key : ∀ k x, (st.upd [(id, some { k := rk, t := τ, l := rl.take lo ++ (List.replicate len τ.zero ++ rl.drop (lo + len)) })]).row k = some x → (k = id ∨ k ∉ st.refs) → k = id := by
                intro k x hx h
                rcases hrow1 k x hx with ⟨rfl, _⟩ | ⟨_, h2⟩
                · rfl
                · exact h.resolve_right (fun h => h (ASt.row_refs h2))
              rw [key i1 x1 q1 q3, key j1 y1 q2 q4]
          · exact ⟨[], rfl, rfl, fun k s h => by simp at h⟩
    · simp [Tree.val] at hv
  · simp [Tree.val] at hv
/-- A run of elements written into a row. -/
theorem row_run (hg : Good C w S γ st a.tmps) {id : Nat} {r : Row} (hr : st.row id = some r) (hk : r.k ≠ .frozen) (hkv : ∀ L, r.k ≠ .var L) {b p : Nat} (hp : γ id = some (b, p)) (hcl : ∃ n, Blk w b n) {lo : Nat} {m : List r.t.den} (hle : lo + m.length ≤ r.l.length)
    {vs : List Value} (hvl : vs.length = m.length * r.t.nc) (hm : LRep w S r.t m vs) :
    Good C (w.setCells b (p + lo * r.t.nc) vs) S γ (st.upd [(id, some { r with l := r.l.take lo ++ (m ++ r.l.drop (lo + m.length)) })]) a.tmps := by
  have hro := hg.rel.rows id r hr
  obtain ⟨cur, e, c1, c2⟩ := hro.cells hp (.inr hcl)
  have hSb : ¬ S b := fun h => hk ((hro.st b p hp).2 h)
  have hSw : ∀ k, S k → (w.setCells b (p + lo * r.t.nc) vs).heap[k]? = w.heap[k]? := fun k hkS => setCells_heap_other w b _ _ (fun e => hSb (e ▸ hkS))
  obtain ⟨news, n1, n2, n3, n4⟩ := flat_cells (w := w) (S := S) (b := b) ((r.l.drop lo).take m.length) (p + lo * r.t.nc) (fun i x hx => by
    have hi : i < m.length := by have := (List.getElem?_eq_some_iff.1 hx).1; simp only [List.length_take, List.length_drop] at this; omega
    rw [List.getElem?_take_of_lt hi, List.getElem?_drop] at hx
    obtain ⟨ds, d1, d2⟩ := c2 (lo + i) x hx
    exact ⟨ds, by rwa [show p + lo * r.t.nc + i * r.t.nc = p + (lo + i) * r.t.nc by rw [Nat.add_mul]; omega], d2⟩)
  have n1' : news.length = m.length * r.t.nc := by rw [n1]; congr 1; simp only [List.length_take, List.length_drop]; omega
  have hnew : Mem (w.setCells b (p + lo * r.t.nc) vs) b (p + lo * r.t.nc) vs := by
    have := n2.setCells_patch 0 vs (by omega)
    rw [Nat.add_zero] at this
    have hp : patch news 0 vs = vs := by
      simp only [patch, List.take_zero, List.nil_append, List.drop_of_length_le (show news.length ≤ 0 + vs.length by omega), List.append_nil]
    rwa [hp] at this
  have hrow1 : ∀ k x, (st.upd [(id, some { r with l := r.l.take lo ++ (m ++ r.l.drop (lo + m.length)) })]).row k = some x →
      (k = id ∧ x = { r with l := r.l.take lo ++ (m ++ r.l.drop (lo + m.length)) }) ∨ (k ≠ id ∧ st.row k = some x) := by
    intro k x hx
    rw [row_one] at hx
    split at hx
    · rename_i e'
      exact .inl ⟨e'.symm, (Option.some.inj hx).symm⟩
    · rename_i e'
      exact .inr ⟨fun h => e' h.symm, hx⟩
  refine hg.write hr hk hkv hp _ _ _ γ (fun _ _ _ => rfl) ?_ ?_
  · intro k x hx
    rcases hrow1 k x hx with ⟨rfl, rfl⟩ | ⟨h1, h2⟩
    · refine .inr ⟨.inl rfl, rfl, ⟨p, hp⟩, ⟨?_, ?_, ?_⟩, fun _ => ⟨rfl, by simp; omega, rfl⟩, fun h => absurd rfl h⟩
      · intro h; rw [h] at hp; cases hp
      · intro b' q' h
        rw [hp] at h
        cases h
        obtain ⟨cur', c3, c4⟩ := setCells_block w b vs (p + lo * r.t.nc) cur e (0, 0) c1
        refine .inl ⟨cur', e, c3, fun i x hx => ?_⟩
        have old : ∀ j y, r.l[j]? = some y → (j < lo ∨ lo + m.length ≤ j) → ∃ ds, Mem (w.setCells b (p + lo * r.t.nc) vs) b (p + j * r.t.nc) ds ∧ RepC (w.setCells b (p + lo * r.t.nc) vs) S r.t y ds := by
          intro j y hy hj
          obtain ⟨ds, d1, d2⟩ := c2 j y hy
          have hl := d2.length
          refine ⟨ds, d1.setCells_apart _ _ _ (.inr ?_), d2.mono (fun _ h => h) hSw⟩
          rcases hj with hj | hj
          · left; have := Nat.mul_le_mul_right r.t.nc (show j + 1 ≤ lo by omega); rw [Nat.add_mul] at this; omega
          · right; have := Nat.mul_le_mul_right r.t.nc hj; rw [Nat.add_mul] at this; omega
        have hx : (r.l.take lo ++ (m ++ r.l.drop (lo + m.length)))[i]? = some x := hx
        have htl : (r.l.take lo).length = lo := by simp; omega
        by_cases i1 : i < lo
        · rw [List.getElem?_append_left (by omega), List.getElem?_take_of_lt i1] at hx
          exact old i x hx (.inl i1)
        · rw [List.getElem?_append_right (by omega), htl] at hx
          by_cases i2 : i - lo < m.length
          · rw [List.getElem?_append_left i2] at hx
            obtain ⟨ds, d1, d2⟩ := hm (i - lo) x hx
            refine ⟨ds, fun j v hj => ?_, d1.mono (fun _ h => h) hSw⟩
            have := hnew _ _ (d2 j v hj)
            rwa [show p + lo * r.t.nc + ((i - lo) * r.t.nc + j) = p + i * r.t.nc + j by
              have : i * r.t.nc = lo * r.t.nc + (i - lo) * r.t.nc := by rw [← Nat.add_mul]; congr 1; omega
              omega] at this
          · rw [List.getElem?_append_right (by omega), List.getElem?_drop] at hx
            rw [show lo + m.length + (i - lo - m.length) = i by omega] at hx
            exact old i x hx (.inr (by omega))
      · exact hro.st
    · exact .inl ⟨h1, h2⟩
  · intro i1 j1 x1 y1 q1 q2 q3 q4
    have key : ∀ k x, (st.upd [(id, some { r with l := r.l.take lo ++ (m ++ r.l.drop (lo + m.length)) })]).row k = some x → (k = id ∨ k ∉ st.refs) → k = id := by
      intro k x hx h
      rcases hrow1 k x hx with ⟨rfl, _⟩ | ⟨_, h2⟩
      · rfl
      · exact h.resolve_right (fun h => h (ASt.row_refs h2))
    rw [key i1 x1 q1 q3, key j1 y1 q2 q4]
theorem LRep.take {t : Ty} {l : List t.den} {cs : List Value} (h : LRep w S t l cs) (n : Nat) (hl : cs.length = l.length * t.nc) : LRep w S t (l.take n) (cs.take ((min n l.length) * t.nc)) := by
  intro i x hx
  have hi := (List.getElem?_eq_some_iff.1 hx).1
  simp only [List.length_take] at hi
  rw [List.getElem?_take_of_lt (by omega)] at hx
  obtain ⟨ds, d1, d2⟩ := h i x hx
  refine ⟨ds, d1, fun j v hj => ?_⟩
  have hj' := (List.getElem?_eq_some_iff.1 hj).1
  rw [d1.length] at hj'
  have := Nat.mul_le_mul_right t.nc (show i + 1 ≤ min n l.length by omega)
  rw [Nat.add_mul] at this
  rw [List.getElem?_take_of_lt (by omega)]
  exact d2 j v hj
theorem sound_copy (hT : TtOk P E.tt) {args : Array Operand} {tys : Array TypeId} (hg : Good C w S γ st a.tmps)
    (hv : (one2 (args.toList.map st.ev) fun s x => .br (decide (tys.toList = [tys.toList.headD 0, tys.toList.headD 0])) (copyK E (tys.toList.headD 0) (rowsOf st ids) s x fun v u => Tree.ret (v, u)) .fail).val = some (v, u)) :
    OpRes P ⟨dst, .call ⟨.builtin .copy, args, tys⟩, ty, pos, af, gd⟩ a w (After C st u v a.tmps) := by
  obtain ⟨s, x, he, hv1⟩ := one2_val hv
  clear hv
  obtain ⟨h0, hv⟩ := br_val hv1
  clear hv1
  simp only [decide_eq_true_eq] at h0
  obtain ⟨o, q, rfl, e1, e2⟩ := list2 he
  have ht : tys = #[tys.toList.headD 0, tys.toList.headD 0] := by
    conv => lhs; rw [← Array.toArray_toList (xs := tys), h0]
  generalize tys.toList.headD 0 = t at *
  subst ht
  have hsub : ∀ id r, rowsOf st ids id = some r → st.row id = some r := fun _ _ => rowsOf_sub
  have hA := ev_rep hg.rel e1
  have hB := ev_rep hg.rel e2
  have key : ∀ (id lo len : Nat) (r : Row), st.row id = some r → lo + len ≤ r.l.length → OwnSl w γ id r.t.nc lo len (a.eval o) →
      (copyGo E t (rowsOf st ids) x id lo len fun v u => Tree.ret (v, u)).val = some (v, u) → OpRes P ⟨dst, .call ⟨.builtin .copy, #[o, q], #[t, t]⟩, ty, pos, af, gd⟩ a w (After C st u v a.tmps) := by
    intro id lo len r hr' hle hown hv
    unfold copyGo at hv
    split at hv
    · rename_i τ r0 hty hr
      have hr2 := hsub _ _ hr
      rw [hr'] at hr2
      cases hr2
      split at hv
      · simp [Tree.val] at hv
      · simp [Tree.val] at hv
      · rename_i hk hkv
        have hk : r.k ≠ .frozen := hk
        have hkv : ∀ L, r.k ≠ .var L := hkv
        split at hv
        · rename_i xs hsrc
          obtain ⟨h1, hv'⟩ := br_val hv
          clear hv
          simp only [Bool.and_eq_true, decide_eq_true_eq] at h1
          obtain ⟨h1, h2⟩ := h1
          subst h1
          simp only [Tree.val, Option.some.injEq, Prod.mk.injEq] at hv'
          obtain ⟨rfl, rfl⟩ := hv'
          obtain ⟨is, hp⟩ : ∃ is, toPure (rowsOf st ids) (.sl r.t) x = some (xs, is) := by
            unfold srcOf at hsrc
            split at hsrc
            · rename_i l' is' hp
              simp only [Option.some.injEq] at hsrc
              subst hsrc
              exact ⟨_, hp⟩
            · cases hsrc
          obtain ⟨ax, capx, news, g1, n1, n2, n3, n4, n5, n6⟩ := src_cells hg.rel.rows hsub hp hB
          obtain ⟨⟨elem, hu, hel⟩, _⟩ := hT.at hty
          obtain ⟨a0, cap, o1, o2, o3, o4⟩ := hown
          have hmin : Nat.min xs.length len = min len xs.length := Nat.min_comm _ _
          have hlt : (xs.take len).length = min len xs.length := List.length_take
          have hwfn : min len xs.length ≤ maxLen := Nat.le_trans (Nat.min_le_right _ _) (Nat.le_trans n4 n5)
          have hfirst : (Builtin.firstCells r.t.nc (Nat.min xs.length len) (.slice ax xs.length capx)).run P w = .ok (news.take (min len xs.length * r.t.nc)).toArray w := by
            rw [hmin]
            rcases n6 with rfl | ⟨b, off, rfl, hm⟩
            · have hn0 : news = [] := List.eq_nil_of_length_eq_zero (by simpa using n1)
              subst hn0
              cases ax with
              | none => simp [Builtin.firstCells]
              | some ad => simp [Builtin.firstCells, loadCells, loadCellsFrom]
            · have hlen : (news.take (min len xs.length * r.t.nc)).length = min len xs.length * r.t.nc := by
                have := Nat.mul_le_mul_right r.t.nc (Nat.min_le_right len xs.length)
                simp only [List.length_take]; omega
              have := run_loadCells_list (P := P) w ⟨b, off, none⟩ (news.take (min len xs.length * r.t.nc)) (fun j v hj => by
                rw [Addr.add_mid]
                have hj' := (List.getElem?_eq_some_iff.1 hj).1
                rw [List.getElem?_take_of_lt (by omega)] at hj
                exact hm j v hj)
              rw [hlen] at this
              simpa [Builtin.firstCells] using this
          have hgo : goInt (Nat.min xs.length len) = .int .i64 ((min len xs.length : Nat) : Int) := by rw [hmin]; rfl
          have hmk : ∀ (w' : World) (R : RT), RepA w' S γ R (.one (.val (.int .i64) ((min len xs.length : Nat) : Int))) (.int .i64 ((min len xs.length : Nat) : Int)) := fun w' R => mk_int (by
            rw [wf_iff]
            have h1 : IntKind.i64.min = -9223372036854775808 := by decide
            have h2 : IntKind.i64.max = 9223372036854775807 := by decide
            rw [h1, h2]
            have : (maxLen : Nat) = 9223372036854775807 := rfl
            omega)
          rcases o4 with o4 | ⟨b, p, g5, g6, g7⟩
          · -- no room at all
            have hl0 : len = 0 := by omega
            subst hl0
            have hupd : ∀ i, (st.upd [(id, some { r with l := r.l.take lo ++ (xs.take 0 ++ r.l.drop (lo + min 0 xs.length)) })]).row i = st.row i := by
              intro i
              rw [row_one]
              split
              · rename_i e
                subst e
                rw [hr']
                simp
              · rfl
            refine .inl ⟨.int .i64 ((min 0 xs.length : Nat) : Int), w, ?_, S, γ, hg.same (fun _ => rfl) hupd, ?_⟩
            · simp only [execOp, resolve, invoke, builtin, Builtin.copy_, o1, g1, Sem.run_bind, Sem.run_pure, Result.andThen_ok, run_underlying hu, List.getElem?_toArray, List.map_toArray, List.map_cons, List.map_nil, List.getElem?_cons_zero, List.getElem?_cons_succ, Builtin.lenOf, run_sizeOf' hel, hfirst]
              rw [← hgo]
              cases a0 with
              | none => simp
              | some ad => simp [storeCells]
            · exact hmk w _
          · have hro := hg.rel.rows id r hr'
            obtain ⟨cur, e, c1, c2⟩ := hro.cells g5 (.inr ⟨_, g7⟩)
            subst g6
            let vs := news.take (min len xs.length * r.t.nc)
            have hvl : vs.length = (xs.take len).length * r.t.nc := by
              have := Nat.mul_le_mul_right r.t.nc (Nat.min_le_right len xs.length)
              rw [hlt]
              simp only [vs, List.length_take]; omega
            have hLR : LRep w S r.t (xs.take len) vs := n2.take len n1
            have hone : ∀ v ∈ vs, v.oneCell' = true := fun v hv => n3 v (List.mem_of_mem_take hv)
            obtain ⟨cur0, e0, fz0, c10, c20⟩ := g7
            rw [c1] at c10
            cases c10
            have hcapm : min len xs.length * r.t.nc ≤ cap * r.t.nc := Nat.mul_le_mul_right _ (by omega)
            rw [Nat.add_mul] at c20
            have hrun := run_storeCells_cells (P := P) b (p + lo * r.t.nc) vs 0 w (fun j hj => by
              simp only [World.cell?, c1]
              have : p + lo * r.t.nc + (0 + j) < cur.size := by rw [hvl, hlt] at hj; omega
              simp only [Nat.zero_add] at this ⊢
              simp [this]) (fun j hj => by simp [World.frozen?, c1]) hone
            simp only [Nat.add_zero] at hrun
            have hG := row_run hg hr' hk hkv g5 ⟨0, cur, _, _, c1, Nat.zero_le _⟩ (lo := lo) (m := xs.take len) (by rw [hlt]; omega) hvl hLR
            rw [hlt] at hG
            refine .inl ⟨.int .i64 ((min len xs.length : Nat) : Int), w.setCells b (p + lo * r.t.nc) vs, ?_, S, γ, hG, hmk _ _⟩
            simp only [execOp, resolve, invoke, builtin, Builtin.copy_, o1, g1, Sem.run_bind, Sem.run_pure, Result.andThen_ok, run_underlying hu, List.getElem?_toArray, List.map_toArray, List.map_cons, List.map_nil, List.getElem?_cons_zero, List.getElem?_cons_succ, Builtin.lenOf, run_sizeOf' hel, hfirst]
            rw [← hgo]
            simp only [vs] at hrun ⊢
            simp [hrun]
        · simp [Tree.val] at hv
    · simp [Tree.val] at hv
  unfold copyK at hv
  split at hv
  · rename_i id
    split at hv
    · rename_i r hr
      have hr' := hsub _ _ hr
      exact key id 0 r.l.length r hr' (by omega) (hA r hr') hv
    · simp [Tree.val] at hv
  · rename_i id lo len
    cases hr : rowsOf st ids id with
    | none =>
      unfold copyGo at hv
      rw [hr] at hv
      split at hv
      · rename_i h; cases h
      · simp [Tree.val] at hv
    | some r =>
      have hr' := hsub _ _ hr
      obtain ⟨h1, h2⟩ := hA r hr'
      exact key id lo len r hr' h1 h2 hv
  · simp [Tree.val] at hv
end
end Go.Lift
namespace Go.Lift
open Go
variable {P : Program} {E : Env}
/-- The state in which a function is entered. -/
def entryC (w : World) (S : Nat → Prop) (γ : Gam) (st : ASt) : Entry :=
  { w := w, S := S, W := fun b => ∃ id r p, st.row id = some r ∧ γ id = some (b, p), G := fun b => ∃ id r p, st.row id = some r ∧ γ id = some (b, p) ∧ r.k = .free, γ := γ, len := fun id => match st.row id with | some r => r.l.length | none => 0 }
/-- A row that may be written. -/
def RK.live (k : RK) : Prop := k ≠ .frozen ∧ ∀ L, k ≠ .var L
def exitRows : (i : Nat) → (ps : List PM) → (outTy ps).den → List (Nat × Option Row)
  | _, [], _ => []
  | i, .own t :: ps, y => (10000 + i, some ⟨.fixed, t, y.1⟩) :: exitRows (i + 1) ps y.2
  | i, .ptr t _ :: ps, y => (10000 + i, some ⟨.fixed, t, [y.1]⟩) :: exitRows (i + 1) ps y.2
  | i, .pure _ :: ps, y => exitRows (i + 1) ps y
  | i, .fn _ :: ps, y => exitRows (i + 1) ps y
  | i, .give _ :: ps, y => exitRows (i + 1) ps y
  | i, .rd _ :: ps, y => exitRows (i + 1) ps y
  | i, .rfn _ _ :: ps, y => exitRows (i + 1) ps y
  | i, .nil :: ps, y => exitRows (i + 1) ps y
def exitSt (rs : List RM) (ps : List PM) (y : (resTy rs ps).den) : ASt :=
  ⟨[(0, packAV (res1 100000 0 rs ps y).1)], (res1 100000 0 rs ps y).2.1 ++ exitRows 0 ps (res1 100000 0 rs ps y).2.2⟩
/-- The function does what its signature says. -/
def CallOK (P : Program) (f : Nat) (sig : Sig) : Prop :=
  ∀ (w : World) (S : Nat → Prop) (γ : Gam) (vals : Array Value) (x : (argTy sig.ps).den) (y : (resTy sig.rs sig.ps).den), sig.run x = some y →
    Rel w S γ (entryFrom 0 sig.ps x) vals → vals.size = sig.ps.length →
    Calls P f vals w fun e w' => ∃ v S' γ', e = .returned v ∧ Good (entryC w S γ (entryFrom 0 sig.ps x)) w' S' γ' (exitSt sig.rs sig.ps y) #[v]
structure CtxOk (P : Program) (ctx : List (Nat × Sig)) : Prop where
  ok : ∀ f sig, look ctx f = some sig → CallOK P f sig
  fn : ∀ f sig, look ctx f = some sig → ∃ fn, P.funcs[f]? = some fn ∧ fn.body.isNone = false ∧ (fn.name == "runtime.NumGoroutine") = false
section
variable {C : Entry} {w : World} {S : Nat → Prop} {γ : Gam} {st : ASt} {a : Act}
variable {dst : Option Nat} {ty : Nat} {pos : String} {af : Array Edge} {gd : Option (Nat × Bool)} {v : AV} {u : Upd} {ids : List Nat}
theorem OwnSl.re {γ' : Gam} {id id' nc lo len : Nat} {v : Value} (h : OwnSl w γ id nc lo len v) (hg : γ' id' = γ id) : OwnSl w γ' id' nc lo len v := by
  obtain ⟨a, cap, h1, h2, h3, h4⟩ := h
  refine ⟨a, cap, h1, h2, h3, h4.imp (fun e => e) ?_⟩
  rintro ⟨b, p, e1, e2, e3⟩
  exact ⟨b, p, hg.trans e1, e2, e3⟩
/-- The value by which a cell is handed over. -/
def cellVal : Option Nat → Nat → Nat → Value
  | none, b, q => .pointer (some ⟨b, q, none⟩)
  | some g, b, q => .func (.func g) #[] #[.pointer (some ⟨b, q, none⟩)]
/-- What is known of the arguments of a call. -/
def ArgsOk (w : World) (S : Nat → Prop) (γ : Gam) (st : ASt) (reads : List Nat) : (ps : List PM) → (argTy ps).den → List Value → List Nat → Prop
  | [], _, [], [] => True
  | .pure t :: ps, x, v :: vals, outs => RepV w (SU S γ reads) t x.1 v ∧ ArgsOk w S γ st reads ps x.2 vals outs
  | .own t :: ps, x, v :: vals, id :: outs =>
    (∃ r, st.row id = some r ∧ r.k.live ∧ castTy (.sl r.t) (.sl t) r.l = some x.1 ∧ OwnSl w γ id t.nc 0 (List.length x.1) v) ∧ ArgsOk w S γ st reads ps x.2 vals outs
  | .ptr t f :: ps, x, v :: vals, id :: outs =>
    (∃ r, st.row id = some r ∧ r.k.live ∧ castTy (.sl r.t) (.sl t) r.l = some [x.1] ∧ ∃ b q, γ id = some (b, q) ∧ v = cellVal f b q) ∧ ArgsOk w S γ st reads ps x.2 vals outs
  | .rd t :: ps, x, v :: vals, outs => (∃ b off ds, v = .pointer (some ⟨b, off, none⟩) ∧ SU S γ reads b ∧ Mem w b off ds ∧ RepC w (SU S γ reads) t x.1 ds) ∧ ArgsOk w S γ st reads ps x.2 vals outs
  | .rfn f ts :: ps, x, v :: vals, outs => RepS w (SU S γ reads) γ st.row (.rfn f (dvs ts x.1)) v ∧ ArgsOk w S γ st reads ps x.2 vals outs
  | .nil :: ps, x, v :: vals, outs => (∃ a, v = .slice a 0 0) ∧ ArgsOk w S γ st reads ps x.2 vals outs
  | .fn f :: ps, x, v :: vals, outs => v = .func (.func f) #[] #[] ∧ ArgsOk w S γ st reads ps x.2 vals outs
  | .give t :: ps, x, v :: vals, id :: outs =>
    (∃ r, st.row id = some r ∧ r.k = .free ∧ castTy (.sl r.t) (.sl t) r.l = some x.1 ∧ OwnSl w γ id t.nc 0 (List.length x.1) v) ∧ ArgsOk w S γ st reads ps x.2 vals outs
  | _, _, _, _ => False
theorem SU_mono {i1 i2 : List Nat} (h : ∀ id ∈ i1, id ∈ i2) : ∀ b, SU S γ i1 b → SU S γ i2 b := by
  rintro b (h1 | ⟨id, h1, h2⟩)
  · exact .inl h1
  · exact .inr ⟨id, h id h1, h2⟩
/-- A cell in the hand of the function that it was handed to. -/
theorem cell_rep {w' : World} {S' : Nat → Prop} {γ' : Gam} {R : RT} {f : Option Nat} {id b q : Nat} {v : Value} {k : RK} {t : Ty} {x : t.den} (hR : R id = some ⟨k, t, [x]⟩) (hg : γ' id = some (b, q)) (hv : v = cellVal f b q) : RepA w' S' γ' R (.one (cellSV f id)) v := by
  cases f with
  | none =>
    intro r hr
    rw [hR] at hr
    simp only [Option.some.injEq] at hr
    subst hr
    exact ⟨Nat.zero_lt_one, b, q, t, 0, hg, rfl, by simp [hv, cellVal]⟩
  | some g =>
    refine ⟨[.pointer (some ⟨b, q, none⟩)], hv, rfl, fun k' id' hk => ?_⟩
    match k', hk with
    | 0, hk =>
      simp only [List.getElem?_cons_zero, Option.some.injEq] at hk
      subst hk
      refine ⟨_, rfl, fun r hr => ?_⟩
      rw [hR] at hr
      simp only [Option.some.injEq] at hr
      subst hr
      exact ⟨b, q, hg, rfl⟩
    | k' + 1, hk => simp at hk
theorem cellSV_ids (f : Option Nat) (id : Nat) : AV.ids (some (.one (cellSV f id))) = [id] := by cases f <;> rfl
theorem cellOf_ids {f : Option Nat} {s : SV} {id : Nat} (h : cellOf f s = some id) : s.ids = [id] := by
  unfold cellOf at h
  split at h
  · simp only [Option.some.injEq] at h; subst h; rfl
  · rename_i g f' id'
    cases hb : Nat.beq g f' with
    | false => rw [hb] at h; cases h
    | true => rw [hb] at h; simp only [cond_true, Option.some.injEq] at h; subst h; rfl
  · cases h
theorem cellOf_rep {f : Option Nat} {s : SV} {id : Nat} {v : Value} {r : Row} (h : cellOf f s = some id) (hs : RepS w S γ st.row s v) (hr : st.row id = some r) : ∃ b q, γ id = some (b, q) ∧ v = cellVal f b q := by
  unfold cellOf at h
  split at h
  · simp only [Option.some.injEq] at h
    subst h
    obtain ⟨_, b, q, u, o, e1, e2, e3⟩ := hs r hr
    simp only [Ty.at, Option.some.injEq, Prod.mk.injEq] at e2
    obtain ⟨_, rfl⟩ := e2
    exact ⟨b, q, e1, by simpa [cellVal] using e3⟩
  · rename_i g f' id'
    cases hb : Nat.beq g f' with
    | false => rw [hb] at h; cases h
    | true =>
      rw [hb] at h
      simp only [cond_true, Option.some.injEq] at h
      subst h
      have := Nat.eq_of_beq_eq_true hb
      subst this
      obtain ⟨vs, e1, e2, e3⟩ := hs
      obtain ⟨u, e4, e5⟩ := e3 0 id' rfl
      obtain ⟨b, q, e6, e7⟩ := e5 r hr
      match vs, e2, e4 with
      | [u'], _, e4 =>
        simp only [List.getElem?_cons_zero, Option.some.injEq] at e4
        exact ⟨b, q, e6, by rw [e1, cellVal, e4, e7]⟩
  · cases h
theorem rowC_rep (hrow : ∀ id r, st.row id = some r → RowOk w S γ id r) (hvar : ∀ id r L, st.row id = some r → r.k = .var L → VarOk w S γ st.row id L) {rows : RT} (hsub : ∀ id r, rows id = some r → st.row id = some r)
    {t : Ty} {id : Nat} {x : t.den} {is : List Nat} (h : rowC rows t id = some (x, is)) : ∃ r, st.row id = some r ∧ id ∈ is ∧ ∀ b q, γ id = some (b, q) → SU S γ is b ∧ ∃ ds, Mem w b q ds ∧ RepC w (SU S γ is) t x ds := by
  unfold rowC at h
  split at h
  · rename_i r hr
    have hr' := hsub _ _ hr
    split at h
    · rename_i L hk
      cases hd : decide (r.t = t) with
      | false => rw [hd] at h; cases h
      | true =>
        rw [hd] at h
        simp only [cond_true] at h
        split at h
        · rename_i y i1 hg
          simp only [Option.some.injEq, Prod.mk.injEq] at h
          obtain ⟨rfl, rfl⟩ := h
          refine ⟨r, hr', by simp, fun b q hp => ⟨.inr ⟨id, by simp, q, hp⟩, ?_⟩⟩
          obtain ⟨b', q', g1, g2⟩ := hvar id r L hr' hk
          rw [hp] at g1
          cases g1
          obtain ⟨cs, m1, r1⟩ := gather_rep hrow hsub g2 t 0 y i1 hg
          exact ⟨cs, by simpa using m1, r1.mono (SU_mono (fun j hj => List.mem_cons_of_mem _ hj)) (fun _ _ => rfl)⟩
        · cases h
    · split at h
      · rename_i y hc
        simp only [Option.some.injEq, Prod.mk.injEq] at h
        obtain ⟨rfl, rfl⟩ := h
        refine ⟨r, hr', by simp, fun b q hp => ⟨.inr ⟨id, by simp, q, hp⟩, ?_⟩⟩
        have hro := hrow id r hr'
        obtain ⟨e5, e6⟩ := castTy_some hc
        have e7 : r.t = t := by injection e5
        cases r with
        | mk rk rt rl =>
          simp only at e7
          subst e7
          simp only at e6
          subst e6
          obtain ⟨cur, e, c1, c2⟩ := hro.cells hp (.inl (by simp))
          obtain ⟨ds, d1, d2⟩ := c2 0 y rfl
          exact ⟨ds, by simpa using d1, d2.mono SU_sub (fun _ _ => rfl)⟩
      · cases h
  · cases h
theorem cellC_rep (hrow : ∀ id r, st.row id = some r → RowOk w S γ id r) (hvar : ∀ id r L, st.row id = some r → r.k = .var L → VarOk w S γ st.row id L) {rows : RT} (hsub : ∀ id r, rows id = some r → st.row id = some r)
    {t : Ty} {s : SV} {x : t.den} {is : List Nat} {v : Value} (h : cellC rows t s = some (x, is)) (hs : RepS w S γ st.row s v) :
    ∃ b off ds, v = .pointer (some ⟨b, off, none⟩) ∧ SU S γ is b ∧ Mem w b off ds ∧ RepC w (SU S γ is) t x ds := by
  unfold cellC at h
  split at h
  · rename_i t' y
    split at h
    · rename_i z hz
      simp only [Option.some.injEq, Prod.mk.injEq] at h
      obtain ⟨rfl, rfl⟩ := h
      obtain ⟨e, he⟩ := castTy_some hz
      subst e
      simp only at he
      subst he
      obtain ⟨b, off, ds, e1, e2, e3, e4⟩ := hs
      exact ⟨b, off, ds, e1, .inl e2, e3, e4.mono SU_sub (fun _ _ => rfl)⟩
    · cases h
  · rename_i id
    obtain ⟨r, hr, _, h2⟩ := rowC_rep hrow hvar hsub h
    obtain ⟨_, b, q, u, o, e1, e2, e3⟩ := hs r hr
    simp only [Ty.at, Option.some.injEq, Prod.mk.injEq] at e2
    obtain ⟨_, rfl⟩ := e2
    obtain ⟨h3, ds, h4, h5⟩ := h2 b q e1
    exact ⟨b, q, ds, by simpa using e3, h3, h4, h5⟩
  · rename_i id t'
    cases hd : decide (t' = t) with
    | false => rw [hd] at h; cases h
    | true =>
      rw [hd] at h
      simp only [cond_true] at h
      obtain ⟨r, hr, _, h2⟩ := rowC_rep hrow hvar hsub h
      obtain ⟨b, q, e1, e3⟩ := hs r hr
      obtain ⟨h3, ds, h4, h5⟩ := h2 b q e1
      exact ⟨b, q, ds, by simpa using e3, h3, h4, h5⟩
  · cases h
theorem capsC_rep (hrow : ∀ id r, st.row id = some r → RowOk w S γ id r) (hvar : ∀ id r L, st.row id = some r → r.k = .var L → VarOk w S γ st.row id L) {rows : RT} (hsub : ∀ id r, rows id = some r → st.row id = some r) :
    ∀ (ts : List Ty) (caps : List Nat) (x : (tupTy ts).den) (is : List Nat) (vs : List Value), capsC rows ts caps = some (x, is) → vs.length = caps.length →
      (∀ (k id : Nat), caps[k]? = some id → ∃ u : Value, vs[k]? = some u ∧ ∀ r : Row, st.row id = some r → ∃ b q, γ id = some (b, q) ∧ u = Value.pointer (some ⟨b, q, none⟩)) →
      vs.length = (dvs ts x).length ∧ ∀ (k : Nat) (d : DV), (dvs ts x)[k]? = some d → ∃ b off ds, vs[k]? = some (Value.pointer (some ⟨b, off, none⟩)) ∧ SU S γ is b ∧ Mem w b off ds ∧ RepC w (SU S γ is) d.t d.x ds := by
  intro ts
  induction ts with
  | nil =>
    intro caps x is vs h hl hv
    cases caps with
    | nil => exact ⟨hl, fun k d hd => by simp [dvs] at hd⟩
    | cons a l => simp [capsC] at h
  | cons t ts ih =>
    intro caps x is vs h hl hv
    cases caps with
    | nil => simp [capsC] at h
    | cons id caps =>
      simp only [capsC] at h
      split at h
      · rename_i y i1 h1
        split at h
        · rename_i z i2 h2
          simp only [Option.some.injEq, Prod.mk.injEq] at h
          obtain ⟨rfl, rfl⟩ := h
          match vs, hl with
          | v :: vs, hl =>
            obtain ⟨g1, g2⟩ := ih caps z i2 vs h2 (by simpa using hl) (fun k id' hid => by
              obtain ⟨u, e1, e2⟩ := hv (k + 1) id' (by simpa using hid)
              exact ⟨u, by simpa using e1, e2⟩)
            refine ⟨by simp [dvs, g1], fun k d hd => ?_⟩
            cases k with
            | zero =>
              simp only [dvs, List.getElem?_cons_zero, Option.some.injEq] at hd
              subst hd
              obtain ⟨r, hr, _, h3⟩ := rowC_rep hrow hvar hsub h1
              obtain ⟨u, e1, e2⟩ := hv 0 id rfl
              obtain ⟨b, q, e3, e4⟩ := e2 r hr
              obtain ⟨k1, ds, k2, k3⟩ := h3 b q e3
              subst e4
              exact ⟨b, q, ds, e1, SU_append S γ i1 i2 b k1, k2, k3.mono (SU_append S γ i1 i2) (fun _ _ => rfl)⟩
            | succ k =>
              obtain ⟨b, off, ds, e1, e2, e3, e4⟩ := g2 k d (by simpa [dvs] using hd)
              exact ⟨b, off, ds, by simpa using e1, SU_append' S γ i1 i2 b e2, e3, e4.mono (SU_append' S γ i1 i2) (fun _ _ => rfl)⟩
        · cases h
      · cases h
theorem castDs_dvs : ∀ (ts : List Ty) (l : List DV) (x : (tupTy ts).den), castDs ts l = some x → dvs ts x = l := by
  intro ts
  induction ts with
  | nil =>
    intro l x h
    cases l with
    | nil => rfl
    | cons a l => simp [castDs] at h
  | cons t ts ih =>
    intro l x h
    cases l with
    | nil => simp [castDs] at h
    | cons d l =>
      simp only [castDs] at h
      split at h
      · rename_i y hy
        split at h
        · rename_i z hz
          have h := Option.some.inj h
          subst h
          obtain ⟨e, he⟩ := castTy_some hy
          cases d with
          | mk dt dx =>
            simp only at e
            subst e
            simp only at he
            subst he
            simp only [dvs, ih l z hz]
        · cases h
      · cases h
theorem rfn_mono {S1 S2 : Nat → Prop} (h : ∀ b, S1 b → S2 b) {γ1 γ2 : Gam} {R1 R2 : RT} {f : Nat} {l : List DV} {v : Value} (hs : RepS w S1 γ1 R1 (.rfn f l) v) : RepS w S2 γ2 R2 (.rfn f l) v := by
  obtain ⟨vs, h1, h2, h3⟩ := hs
  refine ⟨vs, h1, h2, fun k d hd => ?_⟩
  obtain ⟨b, off, ds, g1, g2, g3, g4⟩ := h3 k d hd
  exact ⟨b, off, ds, g1, h b g2, g3, g4.mono h (fun _ _ => rfl)⟩
/-- What a value stands for while more rows are read. -/
theorem repS_su {more : List Nat} {s : SV} {v : Value} (h : RepS w (SU S γ more) γ st.row s v) : RepS w S γ st.row s v ∨ (∃ t x, s = .val t x) ∨ (∃ t x, s = .rptr t x) ∨ ∃ f l, s = .rfn f l := by
  cases s with
  | val t x => exact .inr (.inl ⟨t, x, rfl⟩)
  | rptr t x => exact .inr (.inr (.inl ⟨t, x, rfl⟩))
  | rfn f l => exact .inr (.inr (.inr ⟨f, l, rfl⟩))
  | nilsl => exact .inl h
  | own id => exact .inl h
  | osub id lo len => exact .inl h
  | optr id i p => exact .inl h
  | fn f caps => exact .inl h
  | und => exact .inl h
  | vptr id t o => exact .inl h
  | bnil e n => exact .inl h
  | any => exact .inl h
  | mref id => exact .inl h
  | mp f n => exact .inl h
theorem toPure_su (hrow : ∀ id r, st.row id = some r → RowOk w S γ id r) {rows : RT} (hsub : ∀ id r, rows id = some r → st.row id = some r) {more reads : List Nat}
    {t : Ty} {s : SV} {x : t.den} {ids : List Nat} {v : Value} (h : toPure rows t s = some (x, ids)) (hv : RepS w (SU S γ more) γ st.row s v) (h1 : ∀ id ∈ ids, id ∈ reads) (h2 : ∀ id ∈ more, id ∈ reads) : RepV w (SU S γ reads) t x v := by
  rcases repS_su hv with hv | ⟨t', y, rfl⟩ | ⟨t', y, rfl⟩ | ⟨f, l, rfl⟩
  · exact RepV.mono (SU_mono h1) (fun _ _ => rfl) (toPure_rep hrow hsub h hv)
  · simp only [toPure] at h
    split at h
    · rename_i z hz
      simp only [Option.some.injEq, Prod.mk.injEq] at h
      obtain ⟨rfl, rfl⟩ := h
      obtain ⟨e, he⟩ := castTy_some hz
      subst e
      simp only at he
      subst he
      exact RepV.mono (SU_mono h2) (fun _ _ => rfl) hv
    · cases h
  · simp [toPure] at h
  · simp [toPure] at h
theorem cellC_su (hrow : ∀ id r, st.row id = some r → RowOk w S γ id r) (hvar : ∀ id r L, st.row id = some r → r.k = .var L → VarOk w S γ st.row id L) {rows : RT} (hsub : ∀ id r, rows id = some r → st.row id = some r) {more reads : List Nat}
    {t : Ty} {s : SV} {x : t.den} {is : List Nat} {v : Value} (h : cellC rows t s = some (x, is)) (hs : RepS w (SU S γ more) γ st.row s v) (h1 : ∀ id ∈ is, id ∈ reads) (h2 : ∀ id ∈ more, id ∈ reads) :
    ∃ b off ds, v = .pointer (some ⟨b, off, none⟩) ∧ SU S γ reads b ∧ Mem w b off ds ∧ RepC w (SU S γ reads) t x ds := by
  rcases repS_su hs with hs | ⟨t', y, rfl⟩ | ⟨t', y, rfl⟩ | ⟨f, l, rfl⟩
  · obtain ⟨b, off, ds, e1, e2, e3, e4⟩ := cellC_rep hrow hvar hsub h hs
    exact ⟨b, off, ds, e1, SU_mono h1 b e2, e3, e4.mono (SU_mono h1) (fun _ _ => rfl)⟩
  · simp [cellC] at h
  · simp only [cellC] at h
    split at h
    · rename_i z hz
      simp only [Option.some.injEq, Prod.mk.injEq] at h
      obtain ⟨rfl, rfl⟩ := h
      obtain ⟨e, he⟩ := castTy_some hz
      subst e
      simp only at he
      subst he
      obtain ⟨b, off, ds, e1, e2, e3, e4⟩ := hs
      exact ⟨b, off, ds, e1, SU_mono h2 b e2, e3, e4.mono (SU_mono h2) (fun _ _ => rfl)⟩
    · cases h
  · simp [cellC] at h
theorem bindL_ok (hrow : ∀ id r, st.row id = some r → RowOk w S γ id r) (hvar : ∀ id r L, st.row id = some r → r.k = .var L → VarOk w S γ st.row id L) {rows : RT} (hsub : ∀ id r, rows id = some r → st.row id = some r) {reads more : List Nat} (hmore : ∀ id ∈ more, id ∈ reads) :
    ∀ (ps : List PM) (args : List SV) (vals : List Value) (b : Bound (argTy ps)), bindL rows ps args = some b → args.length = vals.length →
      (∀ (j : Nat) s v, args[j]? = some s → vals[j]? = some v → RepS w (SU S γ more) γ st.row s v) → (∀ id ∈ b.reads, id ∈ reads) → ArgsOk w S γ st reads ps b.x vals b.outs := by
  intro ps
  induction ps with
  | nil =>
    intro args vals b h hl hv hr
    match args, vals, hl with
    | [], [], _ =>
      simp only [bindL, Option.some.injEq] at h
      subst h
      trivial
    | _ :: _, _ :: _, _ => simp [bindL] at h
  | cons p ps ih =>
    intro args vals b h hl hv hr
    match args, vals, hl with
    | [], [], _ => simp [bindL] at h
    | s :: args, v :: vals, hl =>
      simp only [bindL] at h
      split at h
      · rename_i b1 hb1
        split at h
        · rename_i bs hbs
          simp only [Option.some.injEq] at h
          subst h
          have hs := hv 0 s v rfl rfl
          have hrest := ih args vals bs hbs (by simpa using hl) (fun j s' v' h1 h2 => hv (j + 1) s' v' (by simpa using h1) (by simpa using h2)) (fun id hid => hr id (List.mem_append_right _ hid))
          have hr1 : ∀ id ∈ b1.reads, id ∈ reads := fun id hid => hr id (List.mem_append_left _ hid)
          cases p with
          | pure t =>
            simp only [bind1] at hb1
            split at hb1
            · rename_i x is hp
              simp only [Option.some.injEq] at hb1
              subst hb1
              exact ⟨toPure_su hrow hsub hp hs hr1 hmore, hrest⟩
            · cases hb1
          | own t =>
            cases s with
            | own id =>
              simp only [bind1] at hb1
              split at hb1
              · rename_i r hrr
                split at hb1
                · cases hb1
                · cases hb1
                · rename_i l hk hc hcv
                  simp only [Option.some.injEq] at hb1
                  subst hb1
                  refine ⟨⟨r, hsub _ _ hrr, ⟨hc, hcv⟩, hk, ?_⟩, hrest⟩
                  have := hs r (hsub _ _ hrr)
                  obtain ⟨e, he⟩ := castTy_some hk
                  have ht : r.t = t := by injection e
                  subst ht
                  simp only at he
                  rw [← he]
                  exact this
                · cases hb1
              · cases hb1
            | _ => simp [bind1] at hb1
          | ptr t f =>
            simp only [bind1] at hb1
            split at hb1
            · rename_i id hid
              split at hb1
              · rename_i r hrr
                split at hb1
                · cases hb1
                · cases hb1
                · rename_i x hk hc hcv
                  simp only [Option.some.injEq] at hb1
                  subst hb1
                  exact ⟨⟨r, hsub _ _ hrr, ⟨hc, hcv⟩, hk, cellOf_rep hid hs (hsub _ _ hrr)⟩, hrest⟩
                · cases hb1
              · cases hb1
            · cases hb1
          | rd t =>
            simp only [bind1] at hb1
            split at hb1
            · rename_i x is hp
              simp only [Option.some.injEq] at hb1
              subst hb1
              exact ⟨cellC_su hrow hvar hsub hp hs hr1 hmore, hrest⟩
            · cases hb1
          | rfn f ts =>
            cases s with
            | fn g caps =>
              simp only [bind1] at hb1
              cases hcc : Nat.beq f g with
              | false => rw [hcc] at hb1; cases hb1
              | true =>
                rw [hcc] at hb1
                simp only [cond_true] at hb1
                have h1 := Nat.eq_of_beq_eq_true hcc
                subst h1
                split at hb1
                · rename_i x is hp
                  simp only [Option.some.injEq] at hb1
                  subst hb1
                  obtain ⟨vs, e1, e2, e3⟩ := hs
                  obtain ⟨g1, g2⟩ := capsC_rep hrow hvar hsub ts caps x is vs hp e2 e3
                  exact ⟨rfn_mono (S1 := SU S γ is) (γ1 := γ) (R1 := st.row) (SU_mono hr1) ⟨vs, e1, g1, g2⟩, hrest⟩
                · cases hb1
            | rfn g l =>
              simp only [bind1] at hb1
              cases hcc : Nat.beq f g with
              | false => rw [hcc] at hb1; cases hb1
              | true =>
                rw [hcc] at hb1
                simp only [cond_true] at hb1
                have h1 := Nat.eq_of_beq_eq_true hcc
                subst h1
                split at hb1
                · rename_i x hp
                  simp only [Option.some.injEq] at hb1
                  subst hb1
                  have := castDs_dvs ts l x hp
                  subst this
                  exact ⟨rfn_mono (S1 := SU S γ more) (γ1 := γ) (R1 := st.row) (SU_mono hmore) hs, hrest⟩
                · cases hb1
            | _ => simp [bind1] at hb1
          | nil =>
            cases s with
            | nilsl =>
              simp only [bind1, Option.some.injEq] at hb1
              subst hb1
              exact ⟨hs, hrest⟩
            | _ => simp [bind1] at hb1
          | fn f =>
            cases s with
            | fn g caps =>
              simp only [bind1] at hb1
              cases hcc : (Nat.beq f g && caps.isEmpty) with
              | false => rw [hcc] at hb1; cases hb1
              | true =>
                rw [hcc] at hb1
                simp only [cond_true, Option.some.injEq] at hb1
                subst hb1
                simp only [Bool.and_eq_true, List.isEmpty_iff] at hcc
                obtain ⟨h1, h2⟩ := hcc
                have h1 := Nat.eq_of_beq_eq_true h1
                subst h1
                subst h2
                obtain ⟨vs, e1, e2, _⟩ := hs
                have : vs = [] := List.eq_nil_of_length_eq_zero (by simpa using e2)
                subst this
                exact ⟨e1, hrest⟩
            | _ => simp [bind1] at hb1
          | give t =>
            cases s with
            | own id =>
              simp only [bind1] at hb1
              split at hb1
              · rename_i r hrr
                split at hb1
                · rename_i l hk hc
                  simp only [Option.some.injEq] at hb1
                  subst hb1
                  refine ⟨⟨r, hsub _ _ hrr, hk, hc, ?_⟩, hrest⟩
                  have := hs r (hsub _ _ hrr)
                  obtain ⟨e, he⟩ := castTy_some hc
                  have ht : r.t = t := by injection e
                  subst ht
                  simp only at he
                  rw [← he]
                  exact this
                · cases hb1
              · cases hb1
            | _ => simp [bind1] at hb1
        · cases h
      · cases h
/-- Which of the caller's rows a parameter of the callee's own is. -/
def idAt : (i : Nat) → List PM → List Nat → Nat → Option Nat
  | i, .own _ :: ps, id :: os, k => if k = 10000 + i then some id else idAt (i + 1) ps os k
  | i, .ptr _ _ :: ps, id :: os, k => if k = 10000 + i then some id else idAt (i + 1) ps os k
  | i, .pure _ :: ps, os, k => idAt (i + 1) ps os k
  | i, .fn _ :: ps, os, k => idAt (i + 1) ps os k
  | i, .rd _ :: ps, os, k => idAt (i + 1) ps os k
  | i, .rfn _ _ :: ps, os, k => idAt (i + 1) ps os k
  | i, .nil :: ps, os, k => idAt (i + 1) ps os k
  | i, .give _ :: ps, id :: os, k => if k = 10000 + i then some id else idAt (i + 1) ps os k
  | _, _, _, _ => none
theorem idAt_mem : ∀ (ps : List PM) (i : Nat) (os : List Nat) (k id : Nat), idAt i ps os k = some id → id ∈ os ∧ 10000 + i ≤ k := by
  intro ps
  induction ps with
  | nil => intro i os k id h; simp [idAt] at h
  | cons p ps ih =>
    intro i os k id h
    cases p with
    | pure t => have := ih (i + 1) os k id h; exact ⟨this.1, by omega⟩
    | fn f => have := ih (i + 1) os k id h; exact ⟨this.1, by omega⟩
    | rd t => have := ih (i + 1) os k id h; exact ⟨this.1, by omega⟩
    | rfn f ts => have := ih (i + 1) os k id h; exact ⟨this.1, by omega⟩
    | nil => have := ih (i + 1) os k id h; exact ⟨this.1, by omega⟩
    | own t =>
      cases os with
      | nil => simp [idAt] at h
      | cons o os =>
        simp only [idAt] at h
        split at h
        · simp only [Option.some.injEq] at h; subst h; exact ⟨by simp, by omega⟩
        · have := ih (i + 1) os k id h; exact ⟨by simp [this.1], by omega⟩
    | ptr t f =>
      cases os with
      | nil => simp [idAt] at h
      | cons o os =>
        simp only [idAt] at h
        split at h
        · simp only [Option.some.injEq] at h; subst h; exact ⟨by simp, by omega⟩
        · have := ih (i + 1) os k id h; exact ⟨by simp [this.1], by omega⟩
    | give t =>
      cases os with
      | nil => simp [idAt] at h
      | cons o os =>
        simp only [idAt] at h
        split at h
        · simp only [Option.some.injEq] at h; subst h; exact ⟨by simp, by omega⟩
        · have := ih (i + 1) os k id h; exact ⟨by simp [this.1], by omega⟩
theorem idAt_inj : ∀ (ps : List PM) (i : Nat) (os : List Nat) (k k' id : Nat), os.Nodup → idAt i ps os k = some id → idAt i ps os k' = some id → k = k' := by
  intro ps
  induction ps with
  | nil => intro i os k k' id _ h; simp [idAt] at h
  | cons p ps ih =>
    intro i os k k' id hn h h'
    cases p with
    | pure t => exact ih (i + 1) os k k' id hn h h'
    | fn f => exact ih (i + 1) os k k' id hn h h'
    | rd t => exact ih (i + 1) os k k' id hn h h'
    | rfn f ts => exact ih (i + 1) os k k' id hn h h'
    | nil => exact ih (i + 1) os k k' id hn h h'
    | own t =>
      cases os with
      | nil => simp [idAt] at h
      | cons o os =>
        obtain ⟨n1, n2⟩ := List.nodup_cons.1 hn
        simp only [idAt] at h h'
        split at h <;> split at h'
        · omega
        · simp only [Option.some.injEq] at h; subst h; exact absurd (idAt_mem ps _ _ _ _ h').1 n1
        · simp only [Option.some.injEq] at h'; subst h'; exact absurd (idAt_mem ps _ _ _ _ h).1 n1
        · exact ih (i + 1) os k k' id n2 h h'
    | ptr t f =>
      cases os with
      | nil => simp [idAt] at h
      | cons o os =>
        obtain ⟨n1, n2⟩ := List.nodup_cons.1 hn
        simp only [idAt] at h h'
        split at h <;> split at h'
        · omega
        · simp only [Option.some.injEq] at h; subst h; exact absurd (idAt_mem ps _ _ _ _ h').1 n1
        · simp only [Option.some.injEq] at h'; subst h'; exact absurd (idAt_mem ps _ _ _ _ h).1 n1
        · exact ih (i + 1) os k k' id n2 h h'
    | give t =>
      cases os with
      | nil => simp [idAt] at h
      | cons o os =>
        obtain ⟨n1, n2⟩ := List.nodup_cons.1 hn
        simp only [idAt] at h h'
        split at h <;> split at h'
        · omega
        · simp only [Option.some.injEq] at h; subst h; exact absurd (idAt_mem ps _ _ _ _ h').1 n1
        · simp only [Option.some.injEq] at h'; subst h'; exact absurd (idAt_mem ps _ _ _ _ h).1 n1
        · exact ih (i + 1) os k k' id n2 h h'
/-- Where the parameters of a callee's own lie. -/
def gamE (γ : Gam) (i : Nat) (ps : List PM) (os : List Nat) : Gam := fun k => (idAt i ps os k).bind γ
theorem look_cons {α : Type} (k : Nat) (x : α) (l : List (Nat × α)) (i : Nat) : look ((k, x) :: l) i = if k = i then some x else look l i := by
  simp only [look]
  by_cases h : k = i
  · simp [h]
  · have : Nat.beq k i = false := by
      rw [Bool.eq_false_iff]; intro e; exact h (Nat.eq_of_beq_eq_true e)
    simp [h, this]
/-- The state at a call's entry: its slots, its rows. -/
theorem entry_ok {reads : List Nat} : ∀ (ps : List PM) (i : Nat) (x : (argTy ps).den) (vals : List Value) (outs : List Nat), ArgsOk w S γ st reads ps x vals outs →
    vals.length = ps.length ∧
    (∀ j av, (entryFrom i ps x).slot j = some av → i ≤ j ∧ ∃ v, vals[j - i]? = some v ∧ RepA w (SU S γ reads) (gamE γ i ps outs) (entryFrom i ps x).row av v) ∧
    (∀ k r, (entryFrom i ps x).row k = some r → 10000 + i ≤ k ∧ r.k.live ∧ ∃ id r0, idAt i ps outs k = some id ∧ st.row id = some r0 ∧ r0.k.live ∧ (castTy (.sl r0.t) (.sl r.t) r0.l = some r.l ∧ (r.k = .free → r0.k = .free))) := by
  intro ps
  induction ps with
  | nil =>
    intro i x vals outs h
    match vals, outs, h with
    | [], [], _ => exact ⟨rfl, fun j av h => by simp [entryFrom, ASt.slot, look] at h, fun k r h => by simp [entryFrom, ASt.row, look] at h⟩
  | cons p ps ih =>
    intro i x vals outs h
    match vals with
    | [] => cases p <;> simp [ArgsOk] at h
    | v :: vals =>
      cases p with
      | pure t =>
        obtain ⟨h1, h2⟩ := h
        obtain ⟨g0, g1, g2⟩ := ih (i + 1) x.2 vals outs h2
        refine ⟨by simp [g0], fun j av hj => ?_, fun k r hk => ?_⟩
        · simp only [entryFrom, ASt.slot, look_cons] at hj
          by_cases e : i = j
          · subst e
            simp only [if_true, Option.some.injEq] at hj
            subst hj
            exact ⟨Nat.le_refl _, v, by simp, h1⟩
          · simp only [e, if_false] at hj
            obtain ⟨e1, v', e2, e3⟩ := g1 j av hj
            refine ⟨by omega, v', ?_, e3⟩
            rw [show j - i = (j - (i + 1)) + 1 by omega]
            exact e2
        · obtain ⟨e1, e2⟩ := g2 k r hk
          exact ⟨by omega, e2⟩
      | fn f =>
        obtain ⟨h1, h2⟩ := h
        obtain ⟨g0, g1, g2⟩ := ih (i + 1) x.2 vals outs h2
        refine ⟨by simp [g0], fun j av hj => ?_, fun k r hk => ?_⟩
        · simp only [entryFrom, ASt.slot, look_cons] at hj
          by_cases e : i = j
          · subst e
            simp only [if_true, Option.some.injEq] at hj
            subst hj
            exact ⟨Nat.le_refl _, v, by simp, [], h1, rfl, fun k id h => by simp at h⟩
          · simp only [e, if_false] at hj
            obtain ⟨e1, v', e2, e3⟩ := g1 j av hj
            refine ⟨by omega, v', ?_, e3⟩
            rw [show j - i = (j - (i + 1)) + 1 by omega]
            exact e2
        · obtain ⟨e1, e2⟩ := g2 k r hk
          exact ⟨by omega, e2⟩
      | rd t =>
        obtain ⟨h1, h2⟩ := h
        obtain ⟨g0, g1, g2⟩ := ih (i + 1) x.2 vals outs h2
        refine ⟨by simp [g0], fun j av hj => ?_, fun k r hk => ?_⟩
        · simp only [entryFrom, ASt.slot, look_cons] at hj
          by_cases e : i = j
          · subst e
            simp only [if_true, Option.some.injEq] at hj
            subst hj
            exact ⟨Nat.le_refl _, v, by simp, h1⟩
          · simp only [e, if_false] at hj
            obtain ⟨e1, v', e2, e3⟩ := g1 j av hj
            refine ⟨by omega, v', ?_, e3⟩
            rw [show j - i = (j - (i + 1)) + 1 by omega]
            exact e2
        · obtain ⟨e1, e2⟩ := g2 k r hk
          exact ⟨by omega, e2⟩
      | rfn f ts =>
        obtain ⟨h1, h2⟩ := h
        obtain ⟨g0, g1, g2⟩ := ih (i + 1) x.2 vals outs h2
        refine ⟨by simp [g0], fun j av hj => ?_, fun k r hk => ?_⟩
        · simp only [entryFrom, ASt.slot, look_cons] at hj
          by_cases e : i = j
          · subst e
            simp only [if_true, Option.some.injEq] at hj
            subst hj
            exact ⟨Nat.le_refl _, v, by simp, rfn_mono (γ1 := γ) (R1 := st.row) (γ2 := gamE γ i (.rfn f ts :: ps) outs) (R2 := (entryFrom i (.rfn f ts :: ps) x).row) (fun _ h => h) h1⟩
          · simp only [e, if_false] at hj
            obtain ⟨e1, v', e2, e3⟩ := g1 j av hj
            refine ⟨by omega, v', ?_, e3⟩
            rw [show j - i = (j - (i + 1)) + 1 by omega]
            exact e2
        · obtain ⟨e1, e2⟩ := g2 k r hk
          exact ⟨by omega, e2⟩
      | nil =>
        obtain ⟨h1, h2⟩ := h
        obtain ⟨g0, g1, g2⟩ := ih (i + 1) x.2 vals outs h2
        refine ⟨by simp [g0], fun j av hj => ?_, fun k r hk => ?_⟩
        · simp only [entryFrom, ASt.slot, look_cons] at hj
          by_cases e : i = j
          · subst e
            simp only [if_true, Option.some.injEq] at hj
            subst hj
            exact ⟨Nat.le_refl _, v, by simp, h1⟩
          · simp only [e, if_false] at hj
            obtain ⟨e1, v', e2, e3⟩ := g1 j av hj
            refine ⟨by omega, v', ?_, e3⟩
            rw [show j - i = (j - (i + 1)) + 1 by omega]
            exact e2
        · obtain ⟨e1, e2⟩ := g2 k r hk
          exact ⟨by omega, e2⟩
      | own t =>
        match outs with
        | [] => simp [ArgsOk] at h
        | id :: outs =>
          obtain ⟨⟨r0, a1, a2, a3, a4⟩, h2⟩ := h
          obtain ⟨g0, g1, g2⟩ := ih (i + 1) x.2 vals outs h2
          have hrow : ∀ k, (entryFrom i (.own t :: ps) x).row k = if 10000 + i = k then some ⟨.fixed, t, x.1⟩ else (entryFrom (i + 1) ps x.2).row k := fun k => by
            simp only [entryFrom, ASt.row, look_cons]
            split <;> rfl
          refine ⟨by simp [g0], fun j av hj => ?_, fun k r hk => ?_⟩
          · simp only [entryFrom, ASt.slot, look_cons] at hj
            by_cases e : i = j
            · subst e
              simp only [if_true, Option.some.injEq] at hj
              subst hj
              refine ⟨Nat.le_refl _, v, by simp, fun r hr => ?_⟩
              rw [hrow] at hr
              simp only [if_true, Option.some.injEq] at hr
              subst hr
              exact a4.re (by simp [gamE, idAt])
            · simp only [e, if_false] at hj
              obtain ⟨e1, v', e2, e3⟩ := g1 j av hj
              refine ⟨by omega, v', ?_, ?_⟩
              · rw [show j - i = (j - (i + 1)) + 1 by omega]
                exact e2
              · refine e3.mono (fun _ h => h) (fun _ _ => rfl) (fun _ _ h => h) (fun k hk r' hr' => ?_)
                rw [hrow] at hr'
                by_cases e4 : 10000 + i = k
                · have hj' : ((entryFrom (i + 1) ps x.2).slot j) = some av := hj
                  exfalso
                  have key : ∀ (ps : List PM) (i : Nat) (x : (argTy ps).den) j av k, (entryFrom i ps x).slot j = some av → k ∈ AV.ids (some av) → 10000 + i ≤ k := by
                    intro ps
                    induction ps with
                    | nil => intro i x j av k h; simp [entryFrom, ASt.slot, look] at h
                    | cons p ps ih =>
                      intro i x j av k h hk
                      cases p <;> simp only [entryFrom, ASt.slot, look_cons] at h <;> split at h
                      all_goals first
                        | (have := ih (i + 1) x.2 j av k h hk; omega)
                        | (simp only [Option.some.injEq] at h; subst h; rw [cellSV_ids, List.mem_singleton] at hk; omega)
                        | (simp only [Option.some.injEq] at h; subst h; simp [AV.ids, SV.ids] at hk; omega)
                        | (simp only [Option.some.injEq] at h; subst h; simp [AV.ids, SV.ids] at hk)
                  have := key ps (i + 1) x.2 j av k hj' hk
                  omega
                · simp only [e4, if_false] at hr'
                  exact ⟨r', hr', rfl, rfl, by simp [gamE, idAt, show ¬ k = 10000 + i from fun e => e4 e.symm]⟩
          · rw [hrow] at hk
            by_cases e : 10000 + i = k
            · simp only [e, if_true, Option.some.injEq] at hk
              subst hk
              exact ⟨by omega, ⟨by simp, by simp⟩, id, r0, by simp [idAt, e.symm], a1, a2, a3, fun h => by cases h⟩
            · simp only [e, if_false] at hk
              obtain ⟨e1, e2, id', r1, e3, e4, e5, e7⟩ := g2 k r hk
              exact ⟨by omega, e2, id', r1, by simp [idAt, show ¬ k = 10000 + i from fun h => e h.symm, e3], e4, e5, e7⟩
      | ptr t f =>
        match outs with
        | [] => simp [ArgsOk] at h
        | id :: outs =>
          obtain ⟨⟨r0, a1, a2, a3, b, q, a4, a5⟩, h2⟩ := h
          obtain ⟨g0, g1, g2⟩ := ih (i + 1) x.2 vals outs h2
          have hrow : ∀ k, (entryFrom i (.ptr t f :: ps) x).row k = if 10000 + i = k then some ⟨.fixed, t, [x.1]⟩ else (entryFrom (i + 1) ps x.2).row k := fun k => by
            simp only [entryFrom, ASt.row, look_cons]
            split <;> rfl
          refine ⟨by simp [g0], fun j av hj => ?_, fun k r hk => ?_⟩
          · simp only [entryFrom, ASt.slot, look_cons] at hj
            by_cases e : i = j
            · subst e
              simp only [if_true, Option.some.injEq] at hj
              subst hj
              refine ⟨Nat.le_refl _, v, by simp, cell_rep (hrow _ ▸ if_pos rfl) (b := b) (q := q) (by simp [gamE, idAt, a4]) a5⟩
            · simp only [e, if_false] at hj
              obtain ⟨e1, v', e2, e3⟩ := g1 j av hj
              refine ⟨by omega, v', ?_, ?_⟩
              · rw [show j - i = (j - (i + 1)) + 1 by omega]
                exact e2
              · refine e3.mono (fun _ h => h) (fun _ _ => rfl) (fun _ _ h => h) (fun k hk r' hr' => ?_)
                rw [hrow] at hr'
                by_cases e4 : 10000 + i = k
                · have hj' : ((entryFrom (i + 1) ps x.2).slot j) = some av := hj
                  exfalso
                  have key : ∀ (ps : List PM) (i : Nat) (x : (argTy ps).den) j av k, (entryFrom i ps x).slot j = some av → k ∈ AV.ids (some av) → 10000 + i ≤ k := by
                    intro ps
                    induction ps with
                    | nil => intro i x j av k h; simp [entryFrom, ASt.slot, look] at h
                    | cons p ps ih =>
                      intro i x j av k h hk
                      cases p <;> simp only [entryFrom, ASt.slot, look_cons] at h <;> split at h
                      all_goals first
                        | (have := ih (i + 1) x.2 j av k h hk; omega)
                        | (simp only [Option.some.injEq] at h; subst h; rw [cellSV_ids, List.mem_singleton] at hk; omega)
                        | (simp only [Option.some.injEq] at h; subst h; simp [AV.ids, SV.ids] at hk; omega)
                        | (simp only [Option.some.injEq] at h; subst h; simp [AV.ids, SV.ids] at hk)
                  have := key ps (i + 1) x.2 j av k hj' hk
                  omega
                · simp only [e4, if_false] at hr'
                  exact ⟨r', hr', rfl, rfl, by simp [gamE, idAt, show ¬ k = 10000 + i from fun e => e4 e.symm]⟩
          · rw [hrow] at hk
            by_cases e : 10000 + i = k
            · simp only [e, if_true, Option.some.injEq] at hk
              subst hk
              exact ⟨by omega, ⟨by simp, by simp⟩, id, r0, by simp [idAt, e.symm], a1, a2, a3, fun h => by cases h⟩
            · simp only [e, if_false] at hk
              obtain ⟨e1, e2, id', r1, e3, e4, e5, e7⟩ := g2 k r hk
              exact ⟨by omega, e2, id', r1, by simp [idAt, show ¬ k = 10000 + i from fun h => e h.symm, e3], e4, e5, e7⟩
      | give t =>
        match outs with
        | [] => simp [ArgsOk] at h
        | id :: outs =>
          obtain ⟨⟨r0, a1, a2, a3, a4⟩, h2⟩ := h
          obtain ⟨g0, g1, g2⟩ := ih (i + 1) x.2 vals outs h2
          have hrow : ∀ k, (entryFrom i (.give t :: ps) x).row k = if 10000 + i = k then some ⟨.free, t, x.1⟩ else (entryFrom (i + 1) ps x.2).row k := fun k => by
            simp only [entryFrom, ASt.row, look_cons]
            split <;> rfl
          refine ⟨by simp [g0], fun j av hj => ?_, fun k r hk => ?_⟩
          · simp only [entryFrom, ASt.slot, look_cons] at hj
            by_cases e : i = j
            · subst e
              simp only [if_true, Option.some.injEq] at hj
              subst hj
              refine ⟨Nat.le_refl _, v, by simp, fun r hr => ?_⟩
              rw [hrow] at hr
              simp only [if_true, Option.some.injEq] at hr
              subst hr
              exact a4.re (by simp [gamE, idAt])
            · simp only [e, if_false] at hj
              obtain ⟨e1, v', e2, e3⟩ := g1 j av hj
              refine ⟨by omega, v', ?_, ?_⟩
              · rw [show j - i = (j - (i + 1)) + 1 by omega]
                exact e2
              · refine e3.mono (fun _ h => h) (fun _ _ => rfl) (fun _ _ h => h) (fun k hk r' hr' => ?_)
                rw [hrow] at hr'
                by_cases e4 : 10000 + i = k
                · have hj' : ((entryFrom (i + 1) ps x.2).slot j) = some av := hj
                  exfalso
                  have key : ∀ (ps : List PM) (i : Nat) (x : (argTy ps).den) j av k, (entryFrom i ps x).slot j = some av → k ∈ AV.ids (some av) → 10000 + i ≤ k := by
                    intro ps
                    induction ps with
                    | nil => intro i x j av k h; simp [entryFrom, ASt.slot, look] at h
                    | cons p ps ih =>
                      intro i x j av k h hk
                      cases p <;> simp only [entryFrom, ASt.slot, look_cons] at h <;> split at h
                      all_goals first
                        | (have := ih (i + 1) x.2 j av k h hk; omega)
                        | (simp only [Option.some.injEq] at h; subst h; rw [cellSV_ids, List.mem_singleton] at hk; omega)
                        | (simp only [Option.some.injEq] at h; subst h; simp [AV.ids, SV.ids] at hk; omega)
                        | (simp only [Option.some.injEq] at h; subst h; simp [AV.ids, SV.ids] at hk)
                  have := key ps (i + 1) x.2 j av k hj' hk
                  omega
                · simp only [e4, if_false] at hr'
                  exact ⟨r', hr', rfl, rfl, by simp [gamE, idAt, show ¬ k = 10000 + i from fun e => e4 e.symm]⟩
          · rw [hrow] at hk
            by_cases e : 10000 + i = k
            · simp only [e, if_true, Option.some.injEq] at hk
              subst hk
              exact ⟨by omega, ⟨by simp, by simp⟩, id, r0, by simp [idAt, e.symm], a1, ⟨by simp [a2], by simp [a2]⟩, a3, fun _ => a2⟩
            · simp only [e, if_false] at hk
              obtain ⟨e1, e2, id', r1, e3, e4, e5, e7⟩ := g2 k r hk
              exact ⟨by omega, e2, id', r1, by simp [idAt, show ¬ k = 10000 + i from fun h => e h.symm, e3], e4, e5, e7⟩
theorem distinctB_nodup : ∀ {l : List Nat}, distinctB l = true → l.Nodup := by
  intro l
  induction l with
  | nil => intro _; exact List.nodup_nil
  | cons a l ih =>
    intro h
    simp only [distinctB, Bool.and_eq_true, Bool.not_eq_true'] at h
    refine List.nodup_cons.2 ⟨fun hm => ?_, ih h.2⟩
    have := h.1
    simp [hm] at this
theorem res_keys : ∀ (rs : List RM) (d i : Nat) (ps : List PM) (y : (resTy rs ps).den) (k : Nat) (x : Option Row), look (res1 d i rs ps y).2.1 k = some x →
    ∃ j t c, k = d + 4096 * j ∧ i ≤ j ∧ j < i + rs.length ∧ x = some ⟨.free, t, c⟩ ∧ RM.own t ∈ rs := by
  intro rs
  induction rs with
  | nil => intro d i ps y k x h; simp [res1, look] at h
  | cons r rs ih =>
    intro d i ps y k x h
    cases r with
    | pure t =>
      simp only [res1] at h
      obtain ⟨j, t', c, h1, h2, h3, h4, h5⟩ := ih d (i + 1) ps y.2 k x h
      exact ⟨j, t', c, h1, by omega, by simp; omega, h4, by simp [h5]⟩
    | rfn f ts =>
      simp only [res1] at h
      obtain ⟨j, t', c, h1, h2, h3, h4, h5⟩ := ih d (i + 1) ps y.2 k x h
      exact ⟨j, t', c, h1, by omega, by simp; omega, h4, by simp [h5]⟩
    | own t =>
      simp only [res1, look_cons] at h
      split at h
      · simp only [Option.some.injEq] at h
        exact ⟨i, t, y.1, by omega, Nat.le_refl _, by simp, h.symm, by simp⟩
      · obtain ⟨j, t', c, h1, h2, h3, h4, h5⟩ := ih d (i + 1) ps y.2 k x h
        exact ⟨j, t', c, h1, by omega, by simp; omega, h4, by simp [h5]⟩
theorem res_par : ∀ (rs : List RM) (d d' i : Nat) (ps : List PM) (y : (resTy rs ps).den) (j : Nat), look (res1 d i rs ps y).2.1 (d + 4096 * j) = look (res1 d' i rs ps y).2.1 (d' + 4096 * j) := by
  intro rs
  induction rs with
  | nil => intro d d' i ps y j; rfl
  | cons r rs ih =>
    intro d d' i ps y j
    cases r with
    | pure t => exact ih d d' (i + 1) ps y.2 j
    | rfn f ts => exact ih d d' (i + 1) ps y.2 j
    | own t =>
      simp only [res1, look_cons]
      by_cases e : i = j
      · simp [e]
      · rw [if_neg (by omega), if_neg (by omega)]
        exact ih d d' (i + 1) ps y.2 j
theorem res_z : ∀ (rs : List RM) (d d' i : Nat) (ps : List PM) (y : (resTy rs ps).den), (res1 d i rs ps y).2.2 = (res1 d' i rs ps y).2.2 := by
  intro rs
  induction rs with
  | nil => intro d d' i ps y; rfl
  | cons r rs ih =>
    intro d d' i ps y
    cases r with
    | pure t => exact ih d d' (i + 1) ps y.2
    | own t => exact ih d d' (i + 1) ps y.2
    | rfn f ts => exact ih d d' (i + 1) ps y.2
theorem res_vals : ∀ (rs : List RM) (d d' i : Nat) (ps : List PM) (y : (resTy rs ps).den), (res1 d i rs ps y).1.length = (res1 d' i rs ps y).1.length ∧
    ∀ (j : Nat) (s : SV), (res1 d i rs ps y).1[j]? = some s → (∃ t x, s = .val t x ∧ RM.pure t ∈ rs ∧ (res1 d' i rs ps y).1[j]? = some s) ∨
      (∃ q t c, s = .own (d + 4096 * q) ∧ i ≤ q ∧ q < i + rs.length ∧ RM.own t ∈ rs ∧ look (res1 d i rs ps y).2.1 (d + 4096 * q) = some (some ⟨.free, t, c⟩) ∧ (res1 d' i rs ps y).1[j]? = some (.own (d' + 4096 * q))) ∨
      (∃ f ts l, s = .rfn f l ∧ RM.rfn f ts ∈ rs ∧ (res1 d' i rs ps y).1[j]? = some s) := by
  intro rs
  induction rs with
  | nil => intro d d' i ps y; exact ⟨rfl, fun j s h => by simp [res1] at h⟩
  | cons r rs ih =>
    intro d d' i ps y
    cases r with
    | pure t =>
      obtain ⟨h1, h2⟩ := ih d d' (i + 1) ps y.2
      refine ⟨by simp [res1, h1], fun j s hs => ?_⟩
      cases j with
      | zero =>
        simp only [res1, List.getElem?_cons_zero, Option.some.injEq] at hs
        subst hs
        exact .inl ⟨t, y.1, rfl, by simp, rfl⟩
      | succ j =>
        rcases h2 j s hs with ⟨t', x, e1, e2, e3⟩ | ⟨q, t', c, e1, e2, e3, e4, e5, e6⟩ | ⟨f', ts', l, e1, e2, e3⟩
        · exact .inl ⟨t', x, e1, by simp [e2], e3⟩
        · exact .inr (.inl ⟨q, t', c, e1, by omega, by simp; omega, by simp [e4], e5, e6⟩)
        · exact .inr (.inr ⟨f', ts', l, e1, by simp [e2], e3⟩)
    | rfn f ts =>
      obtain ⟨h1, h2⟩ := ih d d' (i + 1) ps y.2
      refine ⟨by simp [res1, h1], fun j s hs => ?_⟩
      cases j with
      | zero =>
        simp only [res1, List.getElem?_cons_zero, Option.some.injEq] at hs
        subst hs
        exact .inr (.inr ⟨f, ts, _, rfl, by simp, rfl⟩)
      | succ j =>
        rcases h2 j s hs with ⟨t', x, e1, e2, e3⟩ | ⟨q, t', c, e1, e2, e3, e4, e5, e6⟩ | ⟨f', ts', l, e1, e2, e3⟩
        · exact .inl ⟨t', x, e1, by simp [e2], e3⟩
        · exact .inr (.inl ⟨q, t', c, e1, by omega, by simp; omega, by simp [e4], e5, e6⟩)
        · exact .inr (.inr ⟨f', ts', l, e1, by simp [e2], e3⟩)
    | own t =>
      obtain ⟨h1, h2⟩ := ih d d' (i + 1) ps y.2
      refine ⟨by simp [res1, h1], fun j s hs => ?_⟩
      cases j with
      | zero =>
        simp only [res1, List.getElem?_cons_zero, Option.some.injEq] at hs
        subst hs
        exact .inr (.inl ⟨i, t, y.1, rfl, Nat.le_refl _, by simp, by simp, by simp [res1, look_cons], rfl⟩)
      | succ j =>
        rcases h2 j s hs with ⟨t', x, e1, e2, e3⟩ | ⟨q, t', c, e1, e2, e3, e4, e5, e6⟩ | ⟨f', ts', l, e1, e2, e3⟩
        · exact .inl ⟨t', x, e1, by simp [e2], e3⟩
        · exact .inr (.inl ⟨q, t', c, e1, by omega, by simp; omega, by simp [e4], by
            simp only [res1, look_cons]
            rw [if_neg (by omega)]
            exact e5, e6⟩)
        · exact .inr (.inr ⟨f', ts', l, e1, by simp [e2], e3⟩)
/-- What comes back into the caller's rows. -/
theorem outs_ok {rows : RT} (hsub : ∀ id r, rows id = some r → st.row id = some r) {reads : List Nat} : ∀ (ps : List PM) (i : Nat) (x : (argTy ps).den) (vals : List Value) (outs : List Nat) (z : (outTy ps).den) (o : Upd),
    ArgsOk w S γ st reads ps x vals outs → outs1 rows ps z outs = some o → outs.Nodup →
    (∀ id x', look o id = some x' → x' = none ∨ ∃ r k t l0 m, id ∈ outs ∧ st.row id = some r ∧ r.k.live ∧ idAt i ps outs k = some id ∧ k < 10000 + i + ps.length ∧ look (exitRows i ps z) k = some (some ⟨.fixed, t, l0⟩) ∧
      castTy (.sl t) (.sl r.t) l0 = some m ∧ x' = some { r with l := m } ∧ (PM.own t ∈ ps ∨ ∃ f, PM.ptr t f ∈ ps)) ∧ (∀ id ∈ outs, look o id ≠ none) ∧
      (∀ k id r, idAt i ps outs k = some id → (entryFrom i ps x).row k = some r → r.k = .free → look o id = some none) ∧ (∀ id, look o id ≠ none → id ∈ outs) := by
  intro ps
  induction ps with
  | nil =>
    intro i x vals outs z o h ho hnd
    match vals, outs, h with
    | [], [], _ =>
      simp only [outs1, Option.some.injEq] at ho
      subst ho
      exact ⟨fun id x' h => by simp [look] at h, fun id h => (by cases h), fun k id r h => by simp [idAt] at h, fun id h => absurd rfl h⟩
  | cons p ps ih =>
    intro i x vals outs z o h ho hnd
    match vals with
    | [] => cases p <;> simp [ArgsOk] at h
    | v :: vals =>
      cases p with
      | pure t =>
        obtain ⟨_, h2⟩ := h
        obtain ⟨g1, g2, g3, g4⟩ := ih (i + 1) x.2 vals outs z o h2 ho hnd
        refine ⟨fun id x' hx => ?_, g2, g3, g4⟩
        rcases g1 id x' hx with hx0 | ⟨r, k, t', l0, m, e1, e2, e3, e4, e5, e6, e7, e8, e9⟩
        · exact .inl hx0
        · exact .inr ⟨r, k, t', l0, m, e1, e2, e3, e4, by simp; omega, e6, e7, e8, by simpa using e9⟩
      | fn f =>
        obtain ⟨_, h2⟩ := h
        obtain ⟨g1, g2, g3, g4⟩ := ih (i + 1) x.2 vals outs z o h2 ho hnd
        refine ⟨fun id x' hx => ?_, g2, g3, g4⟩
        rcases g1 id x' hx with hx0 | ⟨r, k, t', l0, m, e1, e2, e3, e4, e5, e6, e7, e8, e9⟩
        · exact .inl hx0
        · exact .inr ⟨r, k, t', l0, m, e1, e2, e3, e4, by simp; omega, e6, e7, e8, by simpa using e9⟩
      | rd t =>
        obtain ⟨_, h2⟩ := h
        obtain ⟨g1, g2, g3, g4⟩ := ih (i + 1) x.2 vals outs z o h2 ho hnd
        refine ⟨fun id x' hx => ?_, g2, g3, g4⟩
        rcases g1 id x' hx with hx0 | ⟨r, k, t', l0, m, e1, e2, e3, e4, e5, e6, e7, e8, e9⟩
        · exact .inl hx0
        · exact .inr ⟨r, k, t', l0, m, e1, e2, e3, e4, by simp; omega, e6, e7, e8, by simpa using e9⟩
      | rfn f ts =>
        obtain ⟨_, h2⟩ := h
        obtain ⟨g1, g2, g3, g4⟩ := ih (i + 1) x.2 vals outs z o h2 ho hnd
        refine ⟨fun id x' hx => ?_, g2, g3, g4⟩
        rcases g1 id x' hx with hx0 | ⟨r, k, t', l0, m, e1, e2, e3, e4, e5, e6, e7, e8, e9⟩
        · exact .inl hx0
        · exact .inr ⟨r, k, t', l0, m, e1, e2, e3, e4, by simp; omega, e6, e7, e8, by simpa using e9⟩
      | nil =>
        obtain ⟨_, h2⟩ := h
        obtain ⟨g1, g2, g3, g4⟩ := ih (i + 1) x.2 vals outs z o h2 ho hnd
        refine ⟨fun id x' hx => ?_, g2, g3, g4⟩
        rcases g1 id x' hx with hx0 | ⟨r, k, t', l0, m, e1, e2, e3, e4, e5, e6, e7, e8, e9⟩
        · exact .inl hx0
        · exact .inr ⟨r, k, t', l0, m, e1, e2, e3, e4, by simp; omega, e6, e7, e8, by simpa using e9⟩
      | own t =>
        match outs with
        | [] => simp [ArgsOk] at h
        | id0 :: outs =>
          obtain ⟨⟨r0, a1, a2, a3, _⟩, h2⟩ := h
          simp only [outs1] at ho
          split at ho
          · rename_i r hr
            have hr0 := hsub _ _ hr
            rw [a1] at hr0
            cases hr0
            split at ho
            · rename_i m hm
              split at ho
              · rename_i u hu
                simp only [Option.some.injEq] at ho
                subst ho
                obtain ⟨n1, n2⟩ := List.nodup_cons.1 hnd
                obtain ⟨g1, g2, g3, g4⟩ := ih (i + 1) x.2 vals outs z.2 u h2 hu n2
                refine ⟨fun id x' hx => ?_, fun id hid => ?_, fun k id r' hk hr' hf => ?_, fun id hid => ?_⟩
                · rw [look_cons] at hx
                  split at hx
                  · rename_i e
                    subst e
                    simp only [Option.some.injEq] at hx
                    subst hx
                    exact .inr ⟨r0, 10000 + i, t, z.1, m, by simp, a1, a2, by simp [idAt], by simp, by simp [exitRows, look_cons], hm, rfl, by simp⟩
                  · rename_i e
                    rcases g1 id x' hx with hx0 | ⟨r, k, t', l0, m', e1, e2, e3, e4, e5, e6, e7, e8, e9⟩
                    · exact .inl hx0
                    · have hk := (idAt_mem ps _ _ _ _ e4).2
                      refine .inr ⟨r, k, t', l0, m', by simp [e1], e2, e3, ?_, by simp; omega, ?_, e7, e8, ?_⟩
                      · simp only [idAt]; rw [if_neg (by omega)]; exact e4
                      · simp only [exitRows, look_cons]; rw [if_neg (by omega)]; exact e6
                      · rcases e9 with e9 | ⟨f', e9⟩
                        · exact .inl (List.mem_cons_of_mem _ e9)
                        · exact .inr ⟨f', List.mem_cons_of_mem _ e9⟩
                · rw [look_cons]
                  split
                  · simp
                  · rename_i e
                    exact g2 id ((List.mem_cons.1 hid).resolve_left (fun h => e h.symm))
                · simp only [idAt] at hk
                  have hrow : (entryFrom i (.own t :: ps) x).row k = if 10000 + i = k then some ⟨.fixed, t, x.1⟩ else (entryFrom (i + 1) ps x.2).row k := by
                    simp only [entryFrom, ASt.row, look_cons]
                    split <;> rfl
                  rw [hrow] at hr'
                  split at hk
                  · rename_i e
                    rw [if_pos e.symm] at hr'
                    cases hr'
                    cases hf
                  · rename_i e
                    rw [if_neg (fun h => e h.symm)] at hr'
                    rw [look_cons, if_neg (fun h => n1 (by rw [h]; exact (idAt_mem ps _ _ _ _ hk).1))]
                    exact g3 k id r' hk hr' hf
                · rw [look_cons] at hid
                  split at hid
                  · rename_i e; simp [e]
                  · exact List.mem_cons_of_mem _ (g4 id hid)
              · cases ho
            · cases ho
          · cases ho
      | ptr t f =>
        match outs with
        | [] => simp [ArgsOk] at h
        | id0 :: outs =>
          obtain ⟨⟨r0, a1, a2, a3, _⟩, h2⟩ := h
          simp only [outs1] at ho
          split at ho
          · rename_i r hr
            have hr0 := hsub _ _ hr
            rw [a1] at hr0
            cases hr0
            split at ho
            · rename_i m hm
              split at ho
              · rename_i u hu
                simp only [Option.some.injEq] at ho
                subst ho
                obtain ⟨n1, n2⟩ := List.nodup_cons.1 hnd
                obtain ⟨g1, g2, g3, g4⟩ := ih (i + 1) x.2 vals outs z.2 u h2 hu n2
                refine ⟨fun id x' hx => ?_, fun id hid => ?_, fun k id r' hk hr' hf => ?_, fun id hid => ?_⟩
                · rw [look_cons] at hx
                  split at hx
                  · rename_i e
                    subst e
                    simp only [Option.some.injEq] at hx
                    subst hx
                    exact .inr ⟨r0, 10000 + i, t, [z.1], m, by simp, a1, a2, by simp [idAt], by simp, by simp [exitRows, look_cons], hm, rfl, by simp⟩
                  · rename_i e
                    rcases g1 id x' hx with hx0 | ⟨r, k, t', l0, m', e1, e2, e3, e4, e5, e6, e7, e8, e9⟩
                    · exact .inl hx0
                    · have hk := (idAt_mem ps _ _ _ _ e4).2
                      refine .inr ⟨r, k, t', l0, m', by simp [e1], e2, e3, ?_, by simp; omega, ?_, e7, e8, ?_⟩
                      · simp only [idAt]; rw [if_neg (by omega)]; exact e4
                      · simp only [exitRows, look_cons]; rw [if_neg (by omega)]; exact e6
                      · rcases e9 with e9 | ⟨f', e9⟩
                        · exact .inl (List.mem_cons_of_mem _ e9)
                        · exact .inr ⟨f', List.mem_cons_of_mem _ e9⟩
                · rw [look_cons]
                  split
                  · simp
                  · rename_i e
                    exact g2 id ((List.mem_cons.1 hid).resolve_left (fun h => e h.symm))
                · simp only [idAt] at hk
                  have hrow : (entryFrom i (.ptr t f :: ps) x).row k = if 10000 + i = k then some ⟨.fixed, t, [x.1]⟩ else (entryFrom (i + 1) ps x.2).row k := by
                    simp only [entryFrom, ASt.row, look_cons]
                    split <;> rfl
                  rw [hrow] at hr'
                  split at hk
                  · rename_i e
                    rw [if_pos e.symm] at hr'
                    cases hr'
                    cases hf
                  · rename_i e
                    rw [if_neg (fun h => e h.symm)] at hr'
                    rw [look_cons, if_neg (fun h => n1 (by rw [h]; exact (idAt_mem ps _ _ _ _ hk).1))]
                    exact g3 k id r' hk hr' hf
                · rw [look_cons] at hid
                  split at hid
                  · rename_i e; simp [e]
                  · exact List.mem_cons_of_mem _ (g4 id hid)
              · cases ho
            · cases ho
          · cases ho
      | give t =>
        match outs with
        | [] => simp [ArgsOk] at h
        | id0 :: outs =>
          obtain ⟨⟨r0, a1, a2, a3, _⟩, h2⟩ := h
          simp only [outs1] at ho
          split at ho
          · rename_i u hu
            simp only [Option.some.injEq] at ho
            subst ho
            obtain ⟨n1, n2⟩ := List.nodup_cons.1 hnd
            obtain ⟨g1, g2, g3, g4⟩ := ih (i + 1) x.2 vals outs z u h2 hu n2
            refine ⟨fun id x' hx => ?_, fun id hid => ?_, fun k id r' hk hr' hf => ?_, fun id hid => ?_⟩
            · rw [look_cons] at hx
              split at hx
              · simp only [Option.some.injEq] at hx
                exact .inl hx.symm
              · rename_i e
                rcases g1 id x' hx with hx0 | ⟨r, k, t', l0, m', e1, e2, e3, e4, e5, e6, e7, e8, e9⟩
                · exact .inl hx0
                · have hk := (idAt_mem ps _ _ _ _ e4).2
                  refine .inr ⟨r, k, t', l0, m', by simp [e1], e2, e3, ?_, by simp; omega, e6, e7, e8, by simpa using e9⟩
                  simp only [idAt]; rw [if_neg (by omega)]; exact e4
            · rw [look_cons]
              split
              · simp
              · rename_i e
                exact g2 id ((List.mem_cons.1 hid).resolve_left (fun h => e h.symm))
            · simp only [idAt] at hk
              have hrow : (entryFrom i (.give t :: ps) x).row k = if 10000 + i = k then some ⟨.free, t, x.1⟩ else (entryFrom (i + 1) ps x.2).row k := by
                simp only [entryFrom, ASt.row, look_cons]
                split <;> rfl
              rw [hrow] at hr'
              split at hk
              · simp only [Option.some.injEq] at hk
                rw [look_cons, if_pos hk]
              · rename_i e
                rw [if_neg (fun h => e h.symm)] at hr'
                rw [look_cons, if_neg (fun h => n1 (by rw [h]; exact (idAt_mem ps _ _ _ _ hk).1))]
                exact g3 k id r' hk hr' hf
            · rw [look_cons] at hid
              split at hid
              · rename_i e; simp [e]
              · exact List.mem_cons_of_mem _ (g4 id hid)
          · cases ho
theorem pack_par {w' : World} {S' S'' : Nat → Prop} {γ' γ'' : Gam} {R R' : RT} {l l' : List SV} {v : Value} (hl : l.length = l'.length)
    (h : ∀ (j : Nat) s u, l[j]? = some s → RepS w' S' γ' R s u → ∃ s', l'[j]? = some s' ∧ RepS w' S'' γ'' R' s' u) (hv : RepA w' S' γ' R (packAV l) v) : RepA w' S'' γ'' R' (packAV l') v := by
  have tup : ∀ l l' : List SV, l.length = l'.length → (∀ (j : Nat) s u, l[j]? = some s → RepS w' S' γ' R s u → ∃ s', l'[j]? = some s' ∧ RepS w' S'' γ'' R' s' u) → RepA w' S' γ' R (.tup l) v → RepA w' S'' γ'' R' (.tup l') v := by
    intro l l' hl h ⟨vs, e1, e2, e3⟩
    refine ⟨vs, e1, by omega, fun k s hs => ?_⟩
    have hk : k < l.length := by have := (List.getElem?_eq_some_iff.1 hs).1; omega
    obtain ⟨u, hu, hr⟩ := e3 k l[k] (List.getElem?_eq_getElem hk)
    obtain ⟨s', h1, h2⟩ := h k l[k] u (List.getElem?_eq_getElem hk) hr
    rw [hs] at h1
    cases h1
    exact ⟨u, hu, h2⟩
  match l, l', hl with
  | [], [], _ => exact tup [] [] rfl h hv
  | [s], [s'], _ =>
    obtain ⟨s2, h1, h2⟩ := h 0 s v rfl hv
    simp only [List.getElem?_cons_zero, Option.some.injEq] at h1
    subst h1
    exact h2
  | s1 :: s2 :: l, s1' :: s2' :: l', hl => exact tup _ _ hl h hv
theorem upd3_row (st : ASt) (u o fr : Upd) (id : Nat) : (st.upd (u ++ o ++ fr)).row id =
    match look u id with | some x => x | none => match look o id with | some x => x | none => match look fr id with | some x => x | none => st.row id := by
  rw [ASt.row_upd, look_append, look_append]
  cases look u id <;> cases look o id <;> cases look fr id <;> rfl
/-- Elements of a type without slices: where nested memory lies does not matter. -/
theorem RepC.any {w : World} {S' S'' : Nat → Prop} (h : ∀ b, S' b → S'' b) {t : Ty} {x : t.den} {cs : List Value} (hr : RepC w S' t x cs) : RepC w S'' t x cs := hr.mono h (fun _ _ => rfl)
set_option maxHeartbeats 1000000 in
theorem call_after (hg : Good C w S γ st a.tmps) {rows : RT} (hsub : ∀ id r, rows id = some r → st.row id = some r) {sig : Sig} {x : (argTy sig.ps).den} {vals : List Value} {reads outs : List Nat} {d : Nat}
    (hA : ArgsOk w S γ st reads sig.ps x vals outs) (hnd : outs.Nodup) (hread : ∀ id ∈ reads, ∃ r, st.row id = some r) {fr : Upd} (hfr : cond sig.alias (freeze rows reads) (some []) = some fr)
    (hr8 : sig.rs.length ≤ 8) (hp1000 : sig.ps.length ≤ 1000) (hfresh : ∀ j, j < 8 → d + 4096 * j ∉ st.refs)
    {w' : World} {S' : Nat → Prop} {γ' : Gam} {v0 : Value} {y : (resTy sig.rs sig.ps).den}
    (hG : Good (entryC w (SU S γ reads) (gamE γ 0 sig.ps outs) (entryFrom 0 sig.ps x)) w' S' γ' (exitSt sig.rs sig.ps y) #[v0])
    {o : Upd} (ho : outs1 rows sig.ps (res1 d 0 sig.rs sig.ps y).2.2 outs = some o) :
    After C st ((res1 d 0 sig.rs sig.ps y).2.1 ++ o ++ fr) (packAV (res1 d 0 sig.rs sig.ps y).1) a.tmps v0 w' := by
  obtain ⟨_, _, ent⟩ := entry_ok sig.ps 0 x vals outs hA
  obtain ⟨out1, out2, out3, out4⟩ := outs_ok hsub sig.ps 0 x vals outs _ o hA ho hnd
  -- the blocks that are given away
  have hGv : ∀ b, (entryC w (SU S γ reads) (gamE γ 0 sig.ps outs) (entryFrom 0 sig.ps x)).G b → ∃ id r p, st.row id = some r ∧ r.k = .free ∧ γ id = some (b, p) ∧ look o id = some none := by
    rintro b ⟨k, r, p, h1, h2, h3⟩
    obtain ⟨_, _, id, r0, e1, e2, e3, e4, e5⟩ := ent k r h1
    simp only [gamE, e1, Option.bind_some] at h2
    exact ⟨id, r0, p, e2, e5 h3, h2, out3 k id r e1 h1 h3⟩
  -- the blocks of the callee's own parameters are the caller's rows 'outs'
  have hW : ∀ b, (entryC w (SU S γ reads) (gamE γ 0 sig.ps outs) (entryFrom 0 sig.ps x)).W b → ∃ id r p, id ∈ outs ∧ st.row id = some r ∧ r.k.live ∧ γ id = some (b, p) := by
    rintro b ⟨k, r, p, h1, h2⟩
    obtain ⟨_, _, id, r0, e1, e2, e3, _⟩ := ent k r h1
    simp only [gamE, e1, Option.bind_some] at h2
    exact ⟨id, r0, p, (idAt_mem _ _ _ _ _ e1).1, e2, e3, h2⟩
  have hWS : ∀ b, S b → ¬ (entryC w (SU S γ reads) (gamE γ 0 sig.ps outs) (entryFrom 0 sig.ps x)).W b := fun b hb hw => by
    obtain ⟨id, r, p, _, e2, e3, e4⟩ := hW b hw
    exact e3.1 (((hg.rel.rows id r e2).st b p e4).2 hb)
  have hSw : ∀ b, S b → w'.heap[b]? = w.heap[b]? := fun b hb => hG.fr.block b (hg.rel.lt b hb) (hWS b hb)
  have hblt : ∀ id r b p, st.row id = some r → γ id = some (b, p) → b < w.heap.size := fun id r b p h1 h2 => by
    exact (hg.rel.rows id r h1).lt h2
  have hrowb : ∀ id r b p, st.row id = some r → γ id = some (b, p) → id ∉ outs → w'.heap[b]? = w.heap[b]? := fun id r b p h1 h2 h3 =>
    hG.fr.block b (hblt id r b p h1 h2) (fun hw => by
      obtain ⟨id', r', p', e1, e2, e3, e4⟩ := hW b hw
      exact h3 (hg.rel.inj id id' r r' b p p' h1 e2 h2 e4 ▸ e1))
  -- the blocks that nobody writes, behind the call
  obtain ⟨S2, s2a, s2b, s2c, s2d, s2e⟩ : ∃ S2 : Nat → Prop, (∀ b, S b → S2 b) ∧ (∀ b, S2 b → S' b) ∧ (∀ b, S2 b → b < w.heap.size → S b ∨ (sig.alias = true ∧ ∃ id ∈ reads, ∃ p, γ id = some (b, p)) ∨ ∃ id r p, st.row id = some r ∧ r.k = .free ∧ γ id = some (b, p) ∧ look o id = some none) ∧
      (∀ b, S2 b → b < w.heap.size ∨ S' b) ∧ ((sig.alias = true ∧ S2 = S') ∨ sig.alias = false) := by
    cases hal : sig.alias with
    | true =>
      refine ⟨S', fun b hb => hG.fr.s1 b (.inl hb), fun b h => h, fun b hb hlt => ?_, fun b hb => .inr hb, .inl ⟨rfl, rfl⟩⟩
      rcases hG.fr.s2 b hb with h | h
      · rcases h with h | ⟨id, h1, p, h2⟩
        · exact .inl h
        · exact .inr (.inl ⟨rfl, id, h1, p, h2⟩)
      · rcases h with h | h
        · exact absurd hlt (Nat.not_lt.2 h)
        · exact .inr (.inr (hGv b h))
    | false =>
      refine ⟨fun b => S b ∨ (w.heap.size ≤ b ∧ S' b), fun b hb => .inl hb, fun b hb => ?_, fun b hb hlt => ?_, fun b hb => ?_, .inr rfl⟩
      · rcases hb with hb | hb
        · exact hG.fr.s1 b (.inl hb)
        · exact hb.2
      · rcases hb with hb | hb
        · exact .inl hb
        · omega
      · rcases hb with hb | hb
        · exact .inl (hg.rel.lt b hb)
        · exact .inr hb.2
  have toS2 : ∀ (t : Ty), (sig.alias = false → t.flat = true) → ∀ (z : t.den) cs, RepC w' S' t z cs → RepC w' S2 t z cs := fun t ht z cs h => by
    rcases s2e with ⟨_, rfl⟩ | h1
    · exact h
    · exact h.flat (ht h1)
  have flat_rs : sig.alias = false → (∀ t, RM.own t ∈ sig.rs → t.flat = true) ∧ (∀ t, RM.pure t ∈ sig.rs → t.flat = true) ∧ (∀ t, (PM.own t ∈ sig.ps ∨ ∃ f, PM.ptr t f ∈ sig.ps) → t.flat = true) := by
    intro h
    simp only [Sig.alias, Bool.or_eq_false_iff, List.any_eq_false] at h
    refine ⟨fun t ht => ?_, fun t ht => ?_, fun t ht => ?_⟩
    · have := h.1 _ ht; simpa [RM.alias] using this
    · have := h.1 _ ht; simpa [RM.alias] using this
    · rcases ht with ht | ⟨f, ht⟩
      · have := h.2 _ ht; simpa [PM.alias] using this
      · have := h.2 _ ht; simpa [PM.alias] using this
  -- rows of the exit state
  have exU : ∀ q t c, look (res1 d 0 sig.rs sig.ps y).2.1 (d + 4096 * q) = some (some ⟨.free, t, c⟩) → (exitSt sig.rs sig.ps y).row (100000 + 4096 * q) = some ⟨.free, t, c⟩ := by
    intro q t c h
    rw [res_par sig.rs d 100000] at h
    simp only [exitSt, ASt.row, look_append, h]
    rfl
  have exO : ∀ k t l0, k < 10000 + 0 + sig.ps.length → look (exitRows 0 sig.ps (res1 d 0 sig.rs sig.ps y).2.2) k = some (some ⟨.fixed, t, l0⟩) → (exitSt sig.rs sig.ps y).row k = some ⟨.fixed, t, l0⟩ := by
    intro k t l0 hk h
    rw [res_z sig.rs d 100000] at h
    simp only [exitSt, ASt.row, look_append, h]
    cases hl : look (res1 100000 0 sig.rs sig.ps y).2.1 k with
    | none => rfl
    | some z =>
      obtain ⟨j, _, _, h1, _⟩ := res_keys _ _ _ _ _ _ _ hl
      omega
  have ukey : ∀ id z, look (res1 d 0 sig.rs sig.ps y).2.1 id = some z → ∃ q t c, id = d + 4096 * q ∧ q < 8 ∧ z = some ⟨.free, t, c⟩ ∧ RM.own t ∈ sig.rs ∧ look (res1 d 0 sig.rs sig.ps y).2.1 (d + 4096 * q) = some (some ⟨.free, t, c⟩) := by
    intro id z h
    obtain ⟨q, t, c, h1, _, h3, h4, h5⟩ := res_keys _ _ _ _ _ _ _ h
    subst h1
    subst h4
    exact ⟨q, t, c, rfl, by omega, rfl, h5, h⟩
  have frk : ∀ id z, look fr id = some z → ∃ r, st.row id = some r ∧ r.k = .free ∧ id ∈ reads ∧ z = some { r with k := .frozen } ∧ sig.alias = true := by
    intro id z h
    cases hal : sig.alias with
    | true =>
      rw [hal] at hfr
      obtain ⟨r, h1, h2, h3, h4⟩ := (freeze_look hfr).1 id z h
      exact ⟨r, hsub _ _ h1, h2, h3, h4, rfl⟩
    | false =>
      rw [hal] at hfr
      simp only [cond_false, Option.some.injEq] at hfr
      subst hfr
      simp [look] at h
  let γ2 : Gam := fun id => match look (res1 d 0 sig.rs sig.ps y).2.1 id with | some _ => γ' (id - d + 100000) | none => γ id
  have γ2_new : ∀ q t c, look (res1 d 0 sig.rs sig.ps y).2.1 (d + 4096 * q) = some (some ⟨.free, t, c⟩) → γ2 (d + 4096 * q) = γ' (100000 + 4096 * q) := by
    intro q t c h
    simp only [γ2, h]
    congr 1
    omega
  have γ2_old : ∀ id, id ∈ st.refs → γ2 id = γ id := by
    intro id hid
    simp only [γ2]
    cases hl : look (res1 d 0 sig.rs sig.ps y).2.1 id with
    | none => rfl
    | some z =>
      obtain ⟨q, t, c, h1, h2, _⟩ := ukey id z hl
      exact absurd (h1 ▸ hid) (hfresh q h2)
  have u_old : ∀ id, id ∈ st.refs → look (res1 d 0 sig.rs sig.ps y).2.1 id = none := by
    intro id hid
    cases hl : look (res1 d 0 sig.rs sig.ps y).2.1 id with
    | none => rfl
    | some z =>
      obtain ⟨q, t, c, h1, h2, _⟩ := ukey id z hl
      exact absurd (h1 ▸ hid) (hfresh q h2)
  -- every row behind the call is of one of four kinds
  have kinds : ∀ id r', (st.upd ((res1 d 0 sig.rs sig.ps y).2.1 ++ o ++ fr)).row id = some r' →
      (∃ q t c, id = d + 4096 * q ∧ r' = ⟨.free, t, c⟩ ∧ RM.own t ∈ sig.rs ∧ look (res1 d 0 sig.rs sig.ps y).2.1 (d + 4096 * q) = some (some ⟨.free, t, c⟩) ∧ q < 8) ∨
      (∃ r k t l0 m, id ∈ outs ∧ st.row id = some r ∧ r.k.live ∧ idAt 0 sig.ps outs k = some id ∧ (exitSt sig.rs sig.ps y).row k = some ⟨.fixed, t, l0⟩ ∧ castTy (.sl t) (.sl r.t) l0 = some m ∧ r' = { r with l := m } ∧ (PM.own t ∈ sig.ps ∨ ∃ f, PM.ptr t f ∈ sig.ps)) ∨
      (∃ r, st.row id = some r ∧ r.k = .free ∧ id ∈ reads ∧ id ∉ outs ∧ r' = { r with k := .frozen } ∧ sig.alias = true) ∨
      (st.row id = some r' ∧ id ∉ outs ∧ (sig.alias = true → id ∈ reads → r'.k = .frozen)) := by
    intro id r' h
    rw [upd3_row] at h
    split at h
    · rename_i z hz
      obtain ⟨q, t, c, h1, h2, h3, h4, h5⟩ := ukey id z hz
      rw [h3] at h
      cases h
      exact .inl ⟨q, t, c, h1, rfl, h4, h5, h2⟩
    · split at h
      · rename_i z hz
        rcases out1 id z hz with hz0 | ⟨r, k, t, l0, m, e1, e2, e3, e4, e5, e6, e7, e8, e9⟩
        · rw [hz0] at h
          cases h
        rw [e8] at h
        cases h
        exact .inr (.inl ⟨r, k, t, l0, m, e1, e2, e3, e4, exO k t l0 e5 e6, e7, rfl, e9⟩)
      · rename_i hon
        have hno : id ∉ outs := fun hid => out2 id hid hon
        split at h
        · rename_i z hz
          obtain ⟨r, e1, e2, e3, e4, e5⟩ := frk id z hz
          rw [e4] at h
          cases h
          exact .inr (.inr (.inl ⟨r, e1, e2, e3, hno, rfl, e5⟩))
        · rename_i hfn
          refine .inr (.inr (.inr ⟨h, hno, fun hal hid => ?_⟩))
          rw [hal] at hfr
          obtain ⟨r, a1, a2, a3⟩ := (freeze_look hfr).2 id hid
          have a1' := hsub _ _ a1
          rw [h] at a1'
          cases a1'
          rcases a2 with hk | hk
          · rw [a3 hk] at hfn; cases hfn
          · exact hk
  have gone : ∀ id, id ∈ st.refs → look o id = some none → (st.upd ((res1 d 0 sig.rs sig.ps y).2.1 ++ o ++ fr)).row id = none := by
    intro id h1 h2
    rw [upd3_row, u_old id h1, h2]
  -- where the rows of the callee's own parameters lie, behind the call
  have exg : ∀ k id t l0, idAt 0 sig.ps outs k = some id → (exitSt sig.rs sig.ps y).row k = some ⟨.fixed, t, l0⟩ → γ' k = γ id ∧ (∀ r, st.row id = some r → l0.length = r.l.length) := by
    intro k id t l0 h1 h2
    obtain ⟨f1, f2⟩ := hG.fr.fix k _ h2 rfl
    refine ⟨by rw [f2]; simp [entryC, gamE, h1], fun r hr => ?_⟩
    have f1 : l0.length = _ := f1
    rw [f1]
    simp only [entryC]
    have key : ∀ (ps : List PM) (i : Nat) (x : (argTy ps).den) (vals : List Value) (outs : List Nat) (k id : Nat), ArgsOk w S γ st reads ps x vals outs → idAt i ps outs k = some id → ∃ r1, (entryFrom i ps x).row k = some r1 := by
      intro ps
      induction ps with
      | nil => intro i x vals outs k id _ h; simp [idAt] at h
      | cons p ps ih =>
        intro i x vals outs k id hA h
        match vals with
        | [] => cases p <;> simp [ArgsOk] at hA
        | v :: vals =>
          cases p with
          | pure t => obtain ⟨r1, h3⟩ := ih (i + 1) x.2 vals outs k id hA.2 h; exact ⟨r1, h3⟩
          | fn f => obtain ⟨r1, h3⟩ := ih (i + 1) x.2 vals outs k id hA.2 h; exact ⟨r1, h3⟩
          | rd t => obtain ⟨r1, h3⟩ := ih (i + 1) x.2 vals outs k id hA.2 h; exact ⟨r1, h3⟩
          | rfn f ts => obtain ⟨r1, h3⟩ := ih (i + 1) x.2 vals outs k id hA.2 h; exact ⟨r1, h3⟩
          | nil => obtain ⟨r1, h3⟩ := ih (i + 1) x.2 vals outs k id hA.2 h; exact ⟨r1, h3⟩
          | own t =>
            match outs with
            | [] => simp [ArgsOk] at hA
            | id0 :: outs =>
              simp only [idAt] at h
              split at h
              · rename_i e; exact ⟨⟨.fixed, t, x.1⟩, by simp [entryFrom, ASt.row, look_cons, e]⟩
              · rename_i e
                obtain ⟨r1, h3⟩ := ih (i + 1) x.2 vals outs k id hA.2 h
                refine ⟨r1, ?_⟩
                simp only [entryFrom, ASt.row, look_cons]
                rw [if_neg (by omega)]
                exact h3
          | ptr t f =>
            match outs with
            | [] => simp [ArgsOk] at hA
            | id0 :: outs =>
              simp only [idAt] at h
              split at h
              · rename_i e; exact ⟨⟨.fixed, t, [x.1]⟩, by simp [entryFrom, ASt.row, look_cons, e]⟩
              · rename_i e
                obtain ⟨r1, h3⟩ := ih (i + 1) x.2 vals outs k id hA.2 h
                refine ⟨r1, ?_⟩
                simp only [entryFrom, ASt.row, look_cons]
                rw [if_neg (by omega)]
                exact h3
          | give t =>
            match outs with
            | [] => simp [ArgsOk] at hA
            | id0 :: outs =>
              simp only [idAt] at h
              split at h
              · rename_i e; exact ⟨⟨.free, t, x.1⟩, by simp [entryFrom, ASt.row, look_cons, e]⟩
              · rename_i e
                obtain ⟨r1, h3⟩ := ih (i + 1) x.2 vals outs k id hA.2 h
                refine ⟨r1, ?_⟩
                simp only [entryFrom, ASt.row, look_cons]
                rw [if_neg (by omega)]
                exact h3
    obtain ⟨r1, hr1⟩ := key sig.ps 0 x vals outs k id hA h1
    obtain ⟨_, _, id', r0, e1, e2, _, e4, _⟩ := ent k r1 hr1
    rw [h1] at e1
    cases e1
    rw [hr] at e2
    cases e2
    rw [hr1]
    obtain ⟨e5, e6⟩ := castTy_some e4
    have e7 : r.t = r1.t := by injection e5
    cases r with
    | mk rk rt rl =>
      cases r1 with
      | mk rk1 rt1 rl1 =>
        simp only at e7 e6 ⊢
        subst e7
        simp only at e6
        rw [e6]
  refine ⟨S2, γ2, ⟨hg.rel.step _ s2a hSw (fun b hb => hG.rel.lt b (s2b b hb)) (fun b n h => hG.fr.blk b n h) ?_ ?_ ?_ ?_, ?_⟩, ?_⟩
  · -- the rows
    intro id r' hr'
    rcases kinds id r' hr' with ⟨q, t, c, rfl, rfl, h3, h4, _⟩ | ⟨r, k, t, l0, m, h1, h2, h3, h4, h5, h6, rfl, h8⟩ | ⟨r, h1, h2, h3, h4, rfl, h6⟩ | ⟨h1, h2, h3⟩
    · have hro := hG.rel.rows _ _ (exU q t c h4)
      have hγ := γ2_new q t c h4
      refine ⟨fun h => hro.nil (hγ ▸ h), fun b p h => ?_, fun b p h => ?_⟩
      · rw [hγ] at h
        rcases hro.mem b p h with ⟨cur, e, c1, c2⟩ | hm
        · exact .inl ⟨cur, e, c1, fun i z hz => let ⟨ds, d1, d2⟩ := c2 i z hz; ⟨ds, d1, toS2 t (fun h => (flat_rs h).1 t h3) z ds d2⟩⟩
        · exact .inr hm
      · rw [hγ] at h
        exact ⟨fun h => (by cases h), fun hb => absurd ((hro.st b p h).2 (s2b b hb)) (fun h => by cases h)⟩
    · have hro := hG.rel.rows _ _ h5
      obtain ⟨g1, g2⟩ := exg k id t l0 h4 h5
      have hγ := γ2_old id (ASt.row_refs h2)
      obtain ⟨e5, e6⟩ := castTy_some h6
      have e7 : t = r.t := by injection e5
      refine ⟨fun h => ?_, fun b p h => ?_, fun b p h => ?_⟩
      · rw [hγ] at h
        have := (hg.rel.rows id r h2).nil h
        have hl := g2 r h2
        rw [this] at hl
        have hl0 : l0 = [] := List.eq_nil_of_length_eq_zero (by simpa using hl)
        subst hl0
        cases r with
        | mk rk rt rl =>
          simp only at e7
          subst e7
          simp only at e6
          exact e6.symm
      · rw [hγ, ← g1] at h
        cases r with
        | mk rk rt rl =>
          simp only at e7
          subst e7
          simp only at e6
          subst e6
          rcases hro.mem b p h with ⟨cur, e, c1, c2⟩ | hm
          · exact .inl ⟨cur, e, c1, fun i z hz => let ⟨ds, d1, d2⟩ := c2 i z hz; ⟨ds, d1, toS2 _ (fun h => (flat_rs h).2.2 _ h8) z ds d2⟩⟩
          · exact .inr hm
      · rw [hγ, ← g1] at h
        exact ⟨fun h' => absurd h' h3.1, fun hb => absurd ((hro.st b p h).2 (s2b b hb)) (fun h => by cases h)⟩
    · have hro := hg.rel.rows id r h1
      have hγ := γ2_old id (ASt.row_refs h1)
      refine ⟨fun h => hro.nil (hγ ▸ h), fun b p h => ?_, fun b p h => ?_⟩
      · rw [hγ] at h
        have hb := hrowb id r b p h1 h h4
        rcases hro.mem b p h with ⟨cur, e, c1, c2⟩ | ⟨hm, es, c, hm2⟩
        · exact .inl ⟨cur, e, hb.trans c1, fun i z hz => let ⟨ds, d1, d2⟩ := c2 i z hz; ⟨ds, d1.congr hb, d2.mono s2a hSw⟩⟩
        · exact .inr ⟨hm, es, c, hb.trans hm2⟩
      · rw [hγ] at h
        refine ⟨fun _ => ?_, fun _ => rfl⟩
        rcases s2e with ⟨_, rfl⟩ | h7
        · exact hG.fr.s1 b (.inr ⟨id, h3, p, h⟩)
        · rw [h6] at h7; cases h7
    · have hro := hg.rel.rows id r' h1
      have hγ := γ2_old id (ASt.row_refs h1)
      refine hro.mono s2a hSw hγ (fun b p h => hrowb id r' b p h1 h h2) (fun b p h hb => ?_)
      rcases s2c b hb (hblt id r' b p h1 h) with h4 | ⟨h4, id', h5, p', h6⟩ | ⟨id', r2, p', h5, h6, h7, h8⟩
      · exact h4
      · obtain ⟨r2, hr2⟩ := hread id' h5
        have := hg.rel.inj id id' r' r2 b p p' h1 hr2 h h6
        subst this
        exact (hro.st b p h).1 (h3 h4 h5)
      · have := hg.rel.inj id id' r' r2 b p p' h1 h5 h h7
        subst this
        exact absurd (out4 id (by rw [h8]; simp)) h2
  · -- what the slots name
    intro id r' hnm hr'
    have hid := ASt.named_refs hnm
    refine (fun (h : ∃ r, st.row id = some r ∧ r'.t = r.t ∧ r'.l.length = r.l.length) => let ⟨r, e1, e2, e3⟩ := h; ⟨r, e1, e2, e3, γ2_old id hid⟩) ?_
    rcases kinds id r' hr' with ⟨q, t, c, rfl, rfl, h3, h4, h5⟩ | ⟨r, k, t, l0, m, h1, h2, h3, h4, h5, h6, rfl, h8⟩ | ⟨r, h1, h2, h3, h4, rfl, h6⟩ | ⟨h1, h2, h3⟩
    · exact absurd hid (hfresh q h5)
    · refine ⟨r, h2, rfl, ?_⟩
      obtain ⟨_, g2⟩ := exg k id t l0 h4 h5
      have hl := g2 r h2
      obtain ⟨e5, e6⟩ := castTy_some h6
      have e7 : t = r.t := by injection e5
      cases r with
      | mk rk rt rl =>
        simp only at e7
        subst e7
        simp only at e6
        subst e6
        exact hl
    · exact ⟨r, h1, rfl, rfl⟩
    · exact ⟨r', h1, rfl, rfl⟩
  · -- no two rows in one block
    have place : ∀ id r' b p, (st.upd ((res1 d 0 sig.rs sig.ps y).2.1 ++ o ++ fr)).row id = some r' → γ2 id = some (b, p) →
        (∃ q t c, id = d + 4096 * q ∧ look (res1 d 0 sig.rs sig.ps y).2.1 (d + 4096 * q) = some (some ⟨.free, t, c⟩) ∧ γ' (100000 + 4096 * q) = some (b, p) ∧ (w.heap.size ≤ b ∨ ∃ id r p, st.row id = some r ∧ r.k = .free ∧ γ id = some (b, p) ∧ look o id = some none)) ∨ (∃ r, st.row id = some r ∧ γ id = some (b, p) ∧ b < w.heap.size) := by
      intro id r' b p h1 h2
      rcases kinds id r' h1 with ⟨q, t, c, rfl, rfl, h3, h4, h5⟩ | ⟨r, k, t, l0, m, g1, g2, g3, g4, g5, g6, rfl, g8⟩ | ⟨r, g1, g2, g3, g4, rfl, g6⟩ | ⟨g1, g2, g3⟩
      · rw [γ2_new q t c h4] at h2
        exact .inl ⟨q, t, c, rfl, h4, h2, ((hG.fr.rows _ _ b p (exU q t c h4) h2).2 (by simp)).imp (fun h => h) (hGv b)⟩
      · rw [γ2_old id (ASt.row_refs g2)] at h2
        exact .inr ⟨r, g2, h2, hblt id r b p g2 h2⟩
      · rw [γ2_old id (ASt.row_refs g1)] at h2
        exact .inr ⟨r, g1, h2, hblt id r b p g1 h2⟩
      · rw [γ2_old id (ASt.row_refs g1)] at h2
        exact .inr ⟨r', g1, h2, hblt id r' b p g1 h2⟩
    intro i j r r' b p q h1 h2 h3 h4
    rcases place i r b p h1 h3 with ⟨q1, t1, c1, rfl, e1, e2, e3⟩ | ⟨r1, e1, e2, e3⟩ <;> rcases place j r' b q h2 h4 with ⟨q2, t2, c2, rfl, f1, f2, f3⟩ | ⟨r2, f1, f2, f3⟩
    · have := hG.rel.inj _ _ _ _ b p q (exU q1 t1 c1 e1) (exU q2 t2 c2 f1) e2 f2
      omega
    · rcases e3 with e3 | ⟨id', r3, p', g1, g2, g3, g4⟩
      · omega
      · have := hg.rel.inj j id' r2 r3 b q p' f1 g1 f2 g3
        subst this
        rw [gone j (ASt.row_refs f1) g4] at h2
        cases h2
    · rcases f3 with f3 | ⟨id', r3, p', g1, g2, g3, g4⟩
      · omega
      · have := hg.rel.inj i id' r1 r3 b p p' e1 g1 e2 g3
        subst this
        rw [gone i (ASt.row_refs e1) g4] at h1
        cases h1
    · exact hg.rel.inj i j r1 r2 b p q e1 f1 e2 f2
  · -- variables that are kept cell by cell
    intro id r' L hr' hk
    rcases kinds id r' hr' with ⟨q, t, c, rfl, rfl, h3, h4, _⟩ | ⟨r, k, t, l0, m, h1, h2, h3, h4, h5, h6, rfl, h8⟩ | ⟨r, h1, h2, h3, h4, rfl, h6⟩ | ⟨h1, h2, h3⟩
    · cases hk
    · exact absurd hk (h3.2 L)
    · cases hk
    · exact ⟨⟨r', h1, hk⟩, γ2_old id (ASt.row_refs h1), fun b p h => hrowb id r' b p h1 h h2⟩
  · -- the frame
    refine ⟨Nat.le_trans hg.fr.size hG.fr.size, hG.fr.os.trans hg.fr.os, hG.fr.tape.trans hg.fr.tape, hG.fr.output.trans hg.fr.output, fun b hb hWb => ?_, fun b n h => hG.fr.blk b n (hg.fr.blk b n h), fun b hb => s2a b (hg.fr.s1 b hb), fun b hb => ?_, ?_, ?_, hg.fr.gw, ?_⟩
    · refine (hG.fr.block b (Nat.lt_of_lt_of_le hb hg.fr.size) (fun hw => ?_)).trans (hg.fr.block b hb hWb)
      obtain ⟨id, r, p, e1, e2, e3, e4⟩ := hW b hw
      have := hg.fr.rows id r b p e2 e4
      by_cases hf : r.k = .fixed
      · exact hWb (this.1 hf)
      · rcases this.2 hf with h | h
        · omega
        · exact hWb (hg.fr.gw b h)
    · by_cases hlt : b < w.heap.size
      · rcases s2c b hb hlt with h | ⟨h4, id, h5, p, h6⟩ | ⟨id, r, p, h5, h6, h7, h8⟩
        · exact hg.fr.s2 b h
        · obtain ⟨r, hr⟩ := hread id h5
          rw [h4] at hfr
          obtain ⟨r2, a1, a2, _⟩ := (freeze_look hfr).2 id h5
          exact .inr ((hg.fr.rows id r2 b p (hsub _ _ a1) h6).2 (by rcases a2 with h | h <;> rw [h] <;> simp))
        · exact .inr ((hg.fr.rows id r b p h5 h7).2 (by simp [h6]))
      · have := hg.fr.size; exact .inr (.inl (by omega))
    · intro id r' b p hr' hp
      rcases kinds id r' hr' with ⟨q, t, c, rfl, rfl, h3, h4, h5⟩ | ⟨r, k, t, l0, m, h1, h2, h3, h4, h5, h6, rfl, h8⟩ | ⟨r, h1, h2, h3, h4, rfl, h6⟩ | ⟨h1, h2, h3⟩
      · rw [γ2_new q t c h4] at hp
        have := (hG.fr.rows _ _ b p (exU q t c h4) hp).2 (by simp)
        have h2 := hg.fr.size
        refine ⟨fun h => (by cases h), fun _ => ?_⟩
        rcases this with this | this
        · exact .inl (Nat.le_trans h2 this)
        · obtain ⟨id, r, p', g1, g2, g3, g4⟩ := hGv b this
          exact (hg.fr.rows id r b p' g1 g3).2 (by simp [g2])
      · rw [γ2_old id (ASt.row_refs h2)] at hp
        exact hg.fr.rows id r b p h2 hp
      · rw [γ2_old id (ASt.row_refs h1)] at hp
        exact ⟨fun h => (by cases h), fun _ => (hg.fr.rows id r b p h1 hp).2 (by simp [h2])⟩
      · rw [γ2_old id (ASt.row_refs h1)] at hp
        exact hg.fr.rows id r' b p h1 hp
    · intro id r' hr' hk
      rcases kinds id r' hr' with ⟨q, t, c, rfl, rfl, h3, h4, h5⟩ | ⟨r, k, t, l0, m, h1, h2, h3, h4, h5, h6, rfl, h8⟩ | ⟨r, h1, h2, h3, h4, rfl, h6⟩ | ⟨h1, h2, h3⟩
      · cases hk
      · rw [γ2_old id (ASt.row_refs h2)]
        have := hg.fr.fix id r h2 hk
        refine ⟨?_, this.2⟩
        rw [← this.1]
        obtain ⟨_, g2⟩ := exg k id t l0 h4 h5
        have hl := g2 r h2
        obtain ⟨e5, e6⟩ := castTy_some h6
        have e7 : t = r.t := by injection e5
        cases r with
        | mk rk rt rl =>
          simp only at e7
          subst e7
          simp only at e6
          subst e6
          exact hl
      · cases hk
      · rw [γ2_old id (ASt.row_refs h1)]
        exact hg.fr.fix id r' h1 hk
    · intro id r' L hr' hk ht
      rcases kinds id r' hr' with ⟨q, t, c, rfl, rfl, h3, h4, _⟩ | ⟨r, k, t, l0, m, h1, h2, h3, h4, h5, h6, rfl, h8⟩ | ⟨r, h1, h2, h3, h4, rfl, h6⟩ | ⟨h1, h2, h3⟩
      · cases hk
      · exact absurd hk (h3.2 L)
      · cases hk
      · rw [γ2_old id (ASt.row_refs h1)]
        exact hg.fr.pv id r' L h1 hk ht
  · -- the result
    obtain ⟨v1, hv1, hrep⟩ := hG.rel.slots 0 (packAV (res1 100000 0 sig.rs sig.ps y).1) (by simp [exitSt, ASt.slot, look])
    simp only [List.getElem?_toArray, List.getElem?_cons_zero, Option.some.injEq] at hv1
    subst hv1
    obtain ⟨hlen, _⟩ := res_vals sig.rs 100000 d 0 sig.ps y
    refine pack_par hlen (fun j s uu hs hr => ?_) hrep
    rcases (res_vals sig.rs 100000 d 0 sig.ps y).2 j s hs with ⟨t, z, rfl, h2, h3⟩ | ⟨q, t, c, rfl, h2, h2', h3, h4, h5⟩ | ⟨f, ts, l, rfl, h2, h3⟩
    · obtain ⟨cs, c1, c2⟩ := hr
      exact ⟨_, h3, cs, toS2 t (fun h => (flat_rs h).2.1 t h2) z cs c1, c2⟩
    · refine ⟨_, h5, fun r hr' => ?_⟩
      rw [res_par sig.rs 100000 d] at h4
      have hrow : (st.upd ((res1 d 0 sig.rs sig.ps y).2.1 ++ o ++ fr)).row (d + 4096 * q) = some ⟨.free, t, c⟩ := by
        rw [upd3_row, h4]
      rw [hrow] at hr'
      cases hr'
      have := hr ⟨.free, t, c⟩ (exU q t c h4)
      exact this.re (γ2_new q t c h4)
    · refine ⟨_, h3, ?_⟩
      have hal : sig.alias = true := by
        simp only [Sig.alias, Bool.or_eq_true, List.any_eq_true]
        exact .inl ⟨_, h2, rfl⟩
      rcases s2e with ⟨_, rfl⟩ | h1
      · exact rfn_mono (fun _ h => h) hr
      · rw [hal] at h1; cases h1
/-- Where the variable lies, and the slice that it leads to. -/
def svG (γ : Gam) (id j : Nat) : Gam := fun k => if k = 10000 then γ id else if k = 20000 then γ j else none
/-- The state in which such a function is entered. -/
def svC (w : World) (S : Nat → Prop) (γ : Gam) : Entry :=
  { w := w, S := S, W := fun b => (∃ p, γ 10000 = some (b, p)) ∨ ∃ p, γ 20000 = some (b, p), G := fun b => (∃ p, γ 10000 = some (b, p)) ∨ ∃ p, γ 20000 = some (b, p), γ := γ, len := fun _ => 0, vp := γ 10000 }
/-- The function does what is said of it. -/
def SvOK (P : Program) (g : Nat) (s : SSig) : Prop :=
  ∀ (w : World) (S : Nat → Prop) (γ : Gam) (vals : Array Value) (l m : List s.t.den) (y : s.u.den), s.run l y = some m → Rel w S γ (svEntry s.t s.u s.f l y) vals → vals.size = 2 →
    Calls P g vals w fun e w' => ∃ v S' γ', e = .returned v ∧ Good (svC w S γ) w' S' γ' (svExit s.t s.f m) #[v]
structure SvsOk (P : Program) (sv : List (Nat × SSig)) : Prop where
  ok : ∀ f s, look sv f = some s → SvOK P f s
  fn : ∀ f s, look sv f = some s → ∃ fn, P.funcs[f]? = some fn ∧ fn.body.isNone = false ∧ (fn.name == "runtime.NumGoroutine") = false
theorem svsOk_nil : SvsOk P [] := ⟨(fun f s h => by cases h), (fun f s h => by cases h)⟩
theorem svsOk_cons {sv : List (Nat × SSig)} {f : Nat} {s : SSig} {fn : Func} (h : SvsOk P sv) (hc : SvOK P f s) (hf : P.funcs[f]? = some fn) (hb : fn.body.isNone = false) (hn : (fn.name == "runtime.NumGoroutine") = false) : SvsOk P ((f, s) :: sv) := by
  refine ⟨fun g s' hl => ?_, fun g s' hl => ?_⟩
  · rw [look_cons] at hl
    split at hl
    · rename_i e; subst e; cases hl; exact hc
    · exact h.ok g s' hl
  · rw [look_cons] at hl
    split at hl
    · rename_i e; subst e; cases hl; exact ⟨fn, hf, hb, hn⟩
    · exact h.fn g s' hl
structure EnvOk (P : Program) (E : Env) : Prop where
  ctx : CtxOk P E.ctx
  sv : SvsOk P E.sv
theorem svRows_row {slots : List (Nat × AV)} {t : Ty} {f : Nat} {l : List t.den} {i : Nat} {r : Row} (h : (⟨slots, svRows t f l⟩ : ASt).row i = some r) :
    (i = 10000 ∧ r = ⟨.var [(0, .own 20000), (1, .fn f [])], svT, []⟩) ∨ (i = 20000 ∧ r = ⟨.free, t, l⟩) := by
  unfold ASt.row svRows at h
  simp only [look_cons] at h
  split at h
  · rename_i e; cases h; exact .inl ⟨e.symm, rfl⟩
  · split at h
    · rename_i e; cases h; exact .inr ⟨e.symm, rfl⟩
    · cases h
theorem castTy_row {r : Row} {t : Ty} {l : List t.den} (h : castTy (.sl r.t) (.sl t) r.l = some l) : ∃ k, r = ⟨k, t, l⟩ := by
  obtain ⟨e, he⟩ := castTy_some h
  have e2 : r.t = t := by injection e
  cases r with
  | mk rk rt rl =>
    simp only at e2
    subst e2
    simp only at he
    subst he
    exact ⟨rk, rfl⟩
theorem sv_entry (hg : Rel w S γ st a.tmps) {id j : Nat} {r rj : Row} {L : List (Nat × SV)} {t u : Ty} {f : Nat} {l : List t.den} {y : u.den} (hr : st.row id = some r) (hk : r.k = .var L) (hl : r.l = [])
    (h0 : look L 0 = some (.own j)) (h1 : look L 1 = some (.fn f [])) (hj : st.row j = some rj) (hkj : rj.k = .free) (hc : castTy (.sl rj.t) (.sl t) rj.l = some l)
    {vp vx : Value} (hp : RepS w S γ st.row (.vptr id (svTy t) 0) vp) (hx : RepV w S u y vx) : Rel w S (svG γ id j) (svEntry t u f l y) #[vp, vx] := by
  obtain ⟨rk, hrj⟩ := castTy_row hc
  subst hrj
  have hne : id ≠ j := fun e => by subst e; rw [hr] at hj; cases hj; rw [hk] at hkj; cases hkj
  have g1 : svG γ id j 10000 = γ id := rfl
  have g2 : svG γ id j 20000 = γ j := rfl
  have ho := hg.rows id r hr
  have hoj := hg.rows j _ hj
  refine ⟨fun i av hi => ?_, fun i r' hr' => ?_, fun i k r1 r2 b p q e1 e2 e3 e4 => ?_, hg.lt, fun i r' L' hr' hk' => ?_⟩
  · unfold ASt.slot svEntry at hi
    simp only [look_cons] at hi
    split at hi
    · rename_i e
      subst e
      cases hi
      refine ⟨vp, rfl, fun r' hr' => ?_⟩
      rcases svRows_row hr' with ⟨_, rfl⟩ | ⟨e, _⟩
      · obtain ⟨b, q, e1, e2⟩ := hp r hr
        exact ⟨b, q, e1, e2⟩
      · cases e
    · split at hi
      · rename_i e
        subst e
        cases hi
        exact ⟨vx, rfl, hx⟩
      · cases hi
  · rcases svRows_row hr' with ⟨rfl, rfl⟩ | ⟨rfl, rfl⟩
    · refine ⟨fun _ => rfl, fun b p e => ?_, fun b p e => ⟨fun h => (by cases h), fun h => ?_⟩⟩
      · rcases ho.mem b p e with ⟨cur, c, m1, _⟩ | ⟨_, m⟩
        · exact .inl ⟨cur, c, m1, fun i x hx => by simp at hx⟩
        · exact .inr ⟨rfl, m⟩
      · have := (ho.st b p e).2 h
        rw [hk] at this; cases this
    · exact ⟨hoj.nil, hoj.mem, fun b p e => ⟨fun h => (by cases h), fun h => by have := (hoj.st b p e).2 h; rw [hkj] at this; cases this⟩⟩
  · rcases svRows_row e1 with ⟨rfl, rfl⟩ | ⟨rfl, rfl⟩ <;> rcases svRows_row e2 with ⟨rfl, rfl⟩ | ⟨rfl, rfl⟩
    · rfl
    · exact absurd (hg.inj id j _ _ b p q hr hj e3 e4) hne
    · exact absurd (hg.inj id j _ _ b q p hr hj e4 e3) hne
    · rfl
  · rcases svRows_row hr' with ⟨rfl, rfl⟩ | ⟨rfl, rfl⟩
    · cases hk'
      obtain ⟨b, q, e1, e2⟩ := hg.vars id r L hr hk
      refine ⟨b, q, e1, fun k s hs => ?_⟩
      simp only [look_cons] at hs
      split at hs
      · rename_i e
        subst e
        cases hs
        rcases e2 0 _ h0 with ⟨v, m1, m2⟩ | ⟨_, _, e, _⟩
        · refine .inl ⟨v, m1, fun r2 hr2 => ?_⟩
          rcases svRows_row hr2 with ⟨e, _⟩ | ⟨_, rfl⟩
          · cases e
          · exact (m2 _ hj).re g2
        · cases e
      · split at hs
        · rename_i e
          subst e
          cases hs
          rcases e2 1 _ h1 with ⟨v, m1, m2⟩ | ⟨_, _, e, _⟩
          · obtain ⟨vs, n1, n2, _⟩ := m2
            exact .inl ⟨v, m1, vs, n1, n2, fun k id hk => by simp at hk⟩
          · cases e
        · cases hs
    · cases hk'
theorem sv_after (hg : Good C w S γ st a.tmps) {id j d : Nat} {r rj : Row} {L : List (Nat × SV)} {t : Ty} {f : Nat} {m : List t.den} (hr : st.row id = some r) (hk : r.k = .var L)
    (hj : st.row j = some rj) (hkj : rj.k = .free) (hd : d ∉ st.refs) (hf : t.flat = true) {w' : World} {S' : Nat → Prop} {γ' : Gam} {v0 : Value}
    (hG : Good (svC w S (svG γ id j)) w' S' γ' (svExit t f m) #[v0]) (hl : r.l = []) :
    After C st [(id, some ⟨.var [(0, .own d), (1, .fn f [])], r.t, []⟩), (d, some ⟨.free, t, m⟩), (j, none)] (.tup []) a.tmps v0 w' := by
  have hne : id ≠ j := fun e => by subst e; rw [hr] at hj; cases hj; rw [hk] at hkj; cases hkj
  have hdi : d ≠ id := fun e => hd (e ▸ ASt.row_refs hr)
  have hdj : d ≠ j := fun e => hd (e ▸ ASt.row_refs hj)
  have hold : ∀ i ri, st.row i = some ri → i ≠ d := fun i ri h e => hd (e ▸ ASt.row_refs h)
  have ho := hg.rel.rows id r hr
  have hoj := hg.rel.rows j rj hj
  have x1 : (svExit t f m).row 10000 = some ⟨.var [(0, .own 20000), (1, .fn f [])], svT, []⟩ := rfl
  have x2 : (svExit t f m).row 20000 = some ⟨.free, t, m⟩ := rfl
  have n1 := hG.rel.rows _ _ x1
  have n2 := hG.rel.rows _ _ x2
  have gv : γ' 10000 = γ id := hG.fr.pv 10000 _ _ x1 rfl rfl
  have hW : ∀ b, (svC w S (svG γ id j)).W b → (∃ p, γ id = some (b, p)) ∨ ∃ p, γ j = some (b, p) := fun b h => h
  have hGb : ∀ b, (svC w S (svG γ id j)).G b → (∃ p, γ id = some (b, p)) ∨ ∃ p, γ j = some (b, p) := fun b h => h
  have nS : ∀ b, ((∃ p, γ id = some (b, p)) ∨ ∃ p, γ j = some (b, p)) → ¬ S b := by
    rintro b (⟨p, h⟩ | ⟨p, h⟩) hs
    · have := (ho.st b p h).2 hs; rw [hk] at this; cases this
    · have := (hoj.st b p h).2 hs; rw [hkj] at this; cases this
  have hSw : ∀ b, S b → w'.heap[b]? = w.heap[b]? := fun b hb => hG.fr.block b (hg.rel.lt b hb) (fun h => nS b (hW b h) hb)
  have hlt : ∀ i ri b p, st.row i = some ri → γ i = some (b, p) → b < w.heap.size := fun i ri b p h1 h2 => (hg.rel.rows i ri h1).lt h2
  have hoth : ∀ i ri b p, st.row i = some ri → i ≠ id → i ≠ j → γ i = some (b, p) → w'.heap[b]? = w.heap[b]? := fun i ri b p h1 h2 h3 h4 => hG.fr.block b (hlt i ri b p h1 h4) (fun h => by
    rcases hW b h with ⟨q, h5⟩ | ⟨q, h5⟩
    · exact h2 (hg.rel.inj i id ri r b p q h1 hr h4 h5)
    · exact h3 (hg.rel.inj i j ri rj b p q h1 hj h4 h5))
  let S2 : Nat → Prop := fun b => S b ∨ (w.heap.size ≤ b ∧ S' b)
  let γ2 : Gam := fun k => if k = d then γ' 20000 else γ k
  have gd : γ2 d = γ' 20000 := if_pos rfl
  have go : ∀ i, i ≠ d → γ2 i = γ i := fun i h => if_neg h
  have s2a : ∀ b, S b → S2 b := fun b h => .inl h
  have s2b : ∀ b, S2 b → S' b := fun b h => h.elim (fun h => hG.fr.s1 b h) (fun h => h.2)
  have s2c : ∀ b, S2 b → b < w.heap.size → S b := fun b h h2 => h.elim (fun h => h) (fun h => absurd h2 (Nat.not_lt.2 h.1))
  have hrow : ∀ i, (st.upd [(id, some ⟨.var [(0, .own d), (1, .fn f [])], r.t, []⟩), (d, some ⟨.free, t, m⟩), (j, none)]).row i = if i = id then some ⟨.var [(0, .own d), (1, .fn f [])], r.t, []⟩ else if i = d then some ⟨.free, t, m⟩ else if i = j then none else st.row i := by
    intro i
    rw [ASt.row_upd]
    simp only [look_cons]
    by_cases e1 : i = id
    · subst e1; simp
    · rw [if_neg (fun h => e1 h.symm), if_neg e1]
      by_cases e2 : i = d
      · subst e2; simp
      · rw [if_neg (fun h => e2 h.symm), if_neg e2]
        by_cases e3 : i = j
        · subst e3; simp
        · rw [if_neg (fun h => e3 h.symm), if_neg e3]
          rfl
  have hback : ∀ i r', (st.upd [(id, some ⟨.var [(0, .own d), (1, .fn f [])], r.t, []⟩), (d, some ⟨.free, t, m⟩), (j, none)]).row i = some r' →
      (i = id ∧ r' = ⟨.var [(0, .own d), (1, .fn f [])], r.t, []⟩) ∨ (i = d ∧ r' = ⟨.free, t, m⟩) ∨ (i ≠ id ∧ i ≠ j ∧ i ≠ d ∧ st.row i = some r') := by
    intro i r' h
    rw [hrow] at h
    split at h
    · rename_i e; cases h; exact .inl ⟨e, rfl⟩
    · split at h
      · rename_i e; cases h; exact .inr (.inl ⟨e, rfl⟩)
      · split at h
        · cases h
        · rename_i e1 e2 e3; exact .inr (.inr ⟨e1, e3, e2, h⟩)
  have hrep : ∀ (s : SV) (v : Value), (∀ i ∈ s.ids, st.named i) → RepS w S γ st.row s v → RepS w' S2 γ2 (st.upd [(id, some ⟨.var [(0, .own d), (1, .fn f [])], r.t, []⟩), (d, some ⟨.free, t, m⟩), (j, none)]).row s v := by
    intro s v hn hs
    refine hs.mono s2a hSw (fun b n h => hG.fr.blk b n h) (fun i hi r' hr' => ?_)
    rcases hback i r' hr' with ⟨rfl, rfl⟩ | ⟨rfl, rfl⟩ | ⟨_, _, e, h⟩
    · exact ⟨r, hr, rfl, by rw [hl], go _ (fun e => hdi e.symm)⟩
    · exact absurd (ASt.named_refs (hn _ hi)) hd
    · exact ⟨r', h, rfl, rfl, go _ e⟩
  have e20 : ∀ b p, γ' 20000 = some (b, p) → C.w.heap.size ≤ b ∨ C.G b := by
    intro b p h
    rcases (hG.fr.rows _ _ b p x2 h).2 (by simp) with h1 | h1
    · exact .inl (Nat.le_trans hg.fr.size h1)
    · rcases hGb b h1 with ⟨q, h2⟩ | ⟨q, h2⟩
      · exact (hg.fr.rows id r b q hr h2).2 (by rw [hk]; simp)
      · exact (hg.fr.rows j rj b q hj h2).2 (by rw [hkj]; simp)
  refine ⟨S2, γ2, ⟨⟨fun i av hi => ?_, fun i r' hr' => ?_, fun i k r1 r2 b p q h1 h2 h3 h4 => ?_, fun b hb => ?_, fun i r' L' hr' hk' => ?_⟩,
    ⟨Nat.le_trans hg.fr.size hG.fr.size, hG.fr.os.trans hg.fr.os, hG.fr.tape.trans hg.fr.tape, hG.fr.output.trans hg.fr.output, fun b hb hWb => ?_, fun b n h => hG.fr.blk b n (hg.fr.blk b n h), fun b hb => s2a b (hg.fr.s1 b hb), fun b hb => ?_, fun i r' b p hr' hp => ?_, fun i r' hr' hk' => ?_, hg.fr.gw, fun i r' L' hr' hk' ht => ?_⟩⟩, ?_⟩
  · -- slots
    obtain ⟨v, hv, hrp⟩ := hg.rel.slots i av hi
    refine ⟨v, hv, hrp.mono s2a hSw (fun b n h => hG.fr.blk b n h) (fun k hk' r' hr' => ?_)⟩
    rcases hback k r' hr' with ⟨rfl, rfl⟩ | ⟨rfl, rfl⟩ | ⟨_, _, e, h⟩
    · exact ⟨r, hr, rfl, by rw [hl], go _ (fun e => hdi e.symm)⟩
    · exact absurd (ASt.named_refs (st := st) (.inl ⟨i, av, hi, hk'⟩)) hd
    · exact ⟨r', h, rfl, rfl, go _ e⟩
  · -- rows
    rcases hback i r' hr' with ⟨rfl, rfl⟩ | ⟨rfl, rfl⟩ | ⟨e1, e2, e3, h⟩
    · rw [show γ2 = γ2 from rfl]
      refine ⟨fun _ => rfl, fun b p e => ?_, fun b p e => ⟨fun h => (by cases h), fun h => ?_⟩⟩
      · rw [go _ (fun e => hdi e.symm), ← gv] at e
        rcases n1.mem b p e with ⟨cur, c, m1, _⟩ | ⟨_, mm⟩
        · exact .inl ⟨cur, c, m1, fun i x hx => by simp at hx⟩
        · exact .inr ⟨rfl, mm⟩
      · rw [go _ (fun e => hdi e.symm)] at e
        exact absurd (s2c b h (hlt _ _ b p hr e)) (nS b (.inl ⟨p, e⟩))
    · refine ⟨fun e => n2.nil (gd ▸ e), fun b p e => ?_, fun b p e => ⟨fun h => (by cases h), fun h => ?_⟩⟩
      · rw [gd] at e
        rcases n2.mem b p e with ⟨cur, c, m1, m2⟩ | ⟨m1, mm⟩
        · exact .inl ⟨cur, c, m1, fun i x hx => let ⟨ds, d1, d2⟩ := m2 i x hx; ⟨ds, d1, d2.flat hf⟩⟩
        · exact .inr ⟨m1, mm⟩
      · rw [gd] at e
        have := (n2.st b p e).2 (s2b b h)
        cases this
    · exact (hg.rel.rows i r' h).mono s2a hSw (go i e3) (fun b p hp => hoth i r' b p h e1 e2 hp) (fun b p hp hs => s2c b hs (hlt i r' b p h hp))
  · -- apart
    have ap : ∀ i ri b p q, st.row i = some ri → i ≠ id → i ≠ j → γ i = some (b, p) → γ' 20000 = some (b, q) → False := by
      intro i ri b p q h1 h2 h3 h4 h5
      rcases (hG.fr.rows _ _ b q x2 h5).2 (by simp) with h6 | h6
      · exact absurd (hlt i ri b p h1 h4) (Nat.not_lt.2 h6)
      · rcases hGb b h6 with ⟨q', h7⟩ | ⟨q', h7⟩
        · exact h2 (hg.rel.inj i id ri r b p q' h1 hr h4 h7)
        · exact h3 (hg.rel.inj i j ri rj b p q' h1 hj h4 h7)
    have ai : ∀ b p q, γ id = some (b, p) → γ' 20000 = some (b, q) → False := fun b p q h1 h2 => by
      have := hG.rel.inj 10000 20000 _ _ b p q x1 x2 (gv.trans h1) h2
      cases this
    rcases hback i r1 h1 with ⟨rfl, rfl⟩ | ⟨rfl, rfl⟩ | ⟨e1, e2, e3, f1⟩ <;> rcases hback k r2 h2 with ⟨rfl, rfl⟩ | ⟨rfl, rfl⟩ | ⟨e4, e5, e6, f2⟩
    · rfl
    · rw [go _ (fun e => hdi e.symm)] at h3
      rw [gd] at h4
      exact (ai b p q h3 h4).elim
    · rw [go _ (fun e => hdi e.symm)] at h3
      rw [go _ e6] at h4
      exact hg.rel.inj _ _ _ _ b p q hr f2 h3 h4
    · rw [gd] at h3
      rw [go _ (fun e => hdi e.symm)] at h4
      exact (ai b q p h4 h3).elim
    · rfl
    · rw [gd] at h3
      rw [go _ e6] at h4
      exact (ap k r2 b q p f2 e4 e5 h4 h3).elim
    · rw [go _ e3] at h3
      rw [go _ (fun e => hdi e.symm)] at h4
      exact hg.rel.inj _ _ _ _ b p q f1 hr h3 h4
    · rw [go _ e3] at h3
      rw [gd] at h4
      exact (ap i r1 b p q f1 e1 e2 h3 h4).elim
    · rw [go _ e3] at h3
      rw [go _ e6] at h4
      exact hg.rel.inj _ _ _ _ b p q f1 f2 h3 h4
  · exact hG.rel.lt b (s2b b hb)
  · -- variables
    rcases hback i r' hr' with ⟨rfl, rfl⟩ | ⟨rfl, rfl⟩ | ⟨e1, e2, e3, h⟩
    · cases hk'
      obtain ⟨b, q, m1, m2⟩ := hG.rel.vars 10000 _ _ x1 rfl
      refine ⟨b, q, (go _ (fun e => hdi e.symm)).trans (gv.symm.trans m1), fun k s hs => ?_⟩
      simp only [look_cons] at hs
      split at hs
      · rename_i e
        subst e
        cases hs
        rcases m2 0 _ rfl with ⟨v, p1, p2⟩ | ⟨_, _, e, _⟩
        · refine .inl ⟨v, p1, fun r2 hr2 => ?_⟩
          have : r2 = ⟨.free, t, m⟩ := by
            rcases hback _ r2 hr2 with ⟨e, _⟩ | ⟨_, e⟩ | ⟨_, _, e, _⟩
            · exact absurd e hdi
            · exact e
            · exact absurd rfl e
          subst this
          exact (p2 _ x2).re gd
        · cases e
      · split at hs
        · rename_i e
          subst e
          cases hs
          rcases m2 1 _ rfl with ⟨v, p1, p2⟩ | ⟨_, _, e, _⟩
          · obtain ⟨vs, q1, q2, _⟩ := p2
            exact .inl ⟨v, p1, vs, q1, q2, fun k id hk => by simp at hk⟩
          · cases e
        · cases hs
    · cases hk'
    · obtain ⟨b, q, m1, m2⟩ := hg.rel.vars i r' L' h hk'
      have hb := hoth i r' b q h e1 e2 m1
      refine ⟨b, q, (go i e3).trans m1, fun k s hs => ?_⟩
      rcases m2 k s hs with ⟨v, p1, p2⟩ | ⟨g, n, rfl, p⟩
      · refine .inl ⟨v, ?_, hrep s v (fun i' hi' => .inr ⟨i, r', L', h, hk', leafIds_mem hs hi'⟩) p2⟩
        simpa only [World.cell?, hb] using p1
      · exact .inr ⟨g, n, rfl, p.congr hb⟩
  · -- the frame
    refine (hG.fr.block b (Nat.lt_of_lt_of_le hb hg.fr.size) (fun hw => ?_)).trans (hg.fr.block b hb hWb)
    have : C.w.heap.size ≤ b ∨ C.G b := by
      rcases hW b hw with ⟨q, h2⟩ | ⟨q, h2⟩
      · exact (hg.fr.rows id r b q hr h2).2 (by rw [hk]; simp)
      · exact (hg.fr.rows j rj b q hj h2).2 (by rw [hkj]; simp)
    rcases this with h | h
    · omega
    · exact hWb (hg.fr.gw b h)
  · rcases hb with hb | ⟨hb, _⟩
    · exact hg.fr.s2 b hb
    · exact .inr (.inl (Nat.le_trans hg.fr.size hb))
  · rcases hback i r' hr' with ⟨rfl, rfl⟩ | ⟨rfl, rfl⟩ | ⟨e1, e2, e3, h⟩
    · rw [go _ (fun e => hdi e.symm)] at hp
      exact ⟨fun h => (by cases h), fun _ => (hg.fr.rows _ r b p hr hp).2 (by rw [hk]; simp)⟩
    · rw [gd] at hp
      exact ⟨fun h => (by cases h), fun _ => e20 b p hp⟩
    · rw [go _ e3] at hp
      exact hg.fr.rows i r' b p h hp
  · rcases hback i r' hr' with ⟨rfl, rfl⟩ | ⟨rfl, rfl⟩ | ⟨e1, e2, e3, h⟩
    · cases hk'
    · cases hk'
    · rw [go _ e3]
      exact hg.fr.fix i r' h hk'
  · rcases hback i r' hr' with ⟨rfl, rfl⟩ | ⟨rfl, rfl⟩ | ⟨e1, e2, e3, h⟩
    · rw [go _ (fun e => hdi e.symm)]
      exact hg.fr.pv _ r L hr hk ht
    · cases hk'
    · rw [go _ e3]
      exact hg.fr.pv i r' L' h hk' ht
  · -- the result
    obtain ⟨v1, hv1, vs, q1, q2, _⟩ := hG.rel.slots 0 (.tup []) rfl
    simp only [List.getElem?_toArray, List.getElem?_cons_zero, Option.some.injEq] at hv1
    subst hv1
    exact ⟨vs, q1, q2, fun k s hk => by simp at hk⟩
end
end Go.Lift
namespace Go.Lift
open Go
variable {P : Program} {E : Env}
section
variable {C : Entry} {w : World} {S : Nat → Prop} {γ : Gam} {st : ASt} {a : Act}
variable {dst : Option Nat} {ty : Nat} {pos : String} {af : Array Edge} {gd : Option (Nat × Bool)} {v : AV} {u : Upd} {ids : List Nat}
theorem entry_rel (hg : Rel w S γ st a.tmps) {ps : List PM} {x : (argTy ps).den} {vals : List Value} {reads outs : List Nat} (hA : ArgsOk w S γ st reads ps x vals outs) (hn : outs.Nodup)
    (hdis : ∀ id ∈ outs, id ∉ reads) (hread : ∀ id ∈ reads, ∃ r, st.row id = some r) : Rel w (SU S γ reads) (gamE γ 0 ps outs) (entryFrom 0 ps x) vals.toArray := by
  obtain ⟨h0, h1, h2⟩ := entry_ok ps 0 x vals outs hA
  refine ⟨fun i av hi => ?_, fun k r hk => ?_, fun i j r r' b p q hi hj hp hq => ?_, fun b hb => ?_, fun k r L hk hkL => absurd hkL ((h2 k r hk).2.1.2 L)⟩
  · obtain ⟨_, v, hv, hr⟩ := h1 i av hi
    exact ⟨v, by simpa using hv, hr⟩
  · obtain ⟨_, hf, id, r0, e1, e2, e3, e4, _⟩ := h2 k r hk
    have hro := hg.rows id r0 e2
    have hγ : gamE γ 0 ps outs k = γ id := by simp [gamE, e1]
    obtain ⟨e5, e6⟩ := castTy_some e4
    have e7 : r0.t = r.t := by injection e5
    have hmem := (idAt_mem _ _ _ _ _ e1).1
    refine ⟨fun h => ?_, fun b p h => ?_, fun b p h => ?_⟩
    · have := hro.nil (hγ ▸ h)
      cases r0 with
      | mk rk rt rl => cases r with
        | mk rk1 rt1 rl1 =>
          simp only at e7
          subst e7
          simp only at e6 this ⊢
          rw [← e6, this]
    · rw [hγ] at h
      cases r0 with
      | mk rk rt rl => cases r with
        | mk rk1 rt1 rl1 =>
          simp only at e7
          subst e7
          simp only at e6
          subst e6
          exact hro.memS SU_sub b p h
    · rw [hγ] at h
      refine ⟨fun h' => absurd h' hf.1, ?_⟩
      rintro (hb | ⟨id', h3, p', h4⟩)
      · exact absurd ((hro.st b p h).2 hb) e3.1
      · obtain ⟨r2, hr2⟩ := hread id' h3
        have := hg.inj id id' r0 r2 b p p' e2 hr2 h h4
        subst this
        exact absurd h3 (hdis id hmem)
  · obtain ⟨_, _, id, r0, e1, e2, _, _⟩ := h2 i r hi
    obtain ⟨_, _, id', r1, f1, f2, _, _⟩ := h2 j r' hj
    simp only [gamE, e1, Option.bind_some] at hp
    simp only [gamE, f1, Option.bind_some] at hq
    have := hg.inj id id' r0 r1 b p q e2 f2 hp hq
    subst this
    exact idAt_inj _ _ _ _ _ _ hn e1 f1
  · rcases hb with hb | ⟨id, h3, p, h4⟩
    · exact hg.lt b hb
    · obtain ⟨r, hr⟩ := hread id h3
      exact (hg.rows id r hr).lt h4
theorem bind_reads {rows : RT} : ∀ (ps : List PM) (args : List SV) (b : Bound (argTy ps)), bindL rows ps args = some b → ∀ id ∈ b.reads, ∃ r, rows id = some r := by
  have pure : ∀ (t : Ty) (s : SV) (x : t.den) (is : List Nat), toPure rows t s = some (x, is) → ∀ id ∈ is, ∃ r, rows id = some r := by
    intro t s x is h id hid
    cases s with
    | val t' y => simp only [toPure] at h; split at h <;> simp_all
    | nilsl => simp only [toPure] at h; split at h <;> simp_all
    | own i =>
      simp only [toPure] at h
      split at h
      · rename_i r hr
        split at h
        · simp only [Option.some.injEq, Prod.mk.injEq] at h
          obtain ⟨_, rfl⟩ := h
          simp only [List.mem_singleton] at hid
          subst hid
          exact ⟨r, hr⟩
        · cases h
      · cases h
    | osub i lo len =>
      simp only [toPure] at h
      split at h
      · rename_i r hr
        split at h
        · simp only [Option.some.injEq, Prod.mk.injEq] at h
          obtain ⟨_, rfl⟩ := h
          simp only [List.mem_singleton] at hid
          subst hid
          exact ⟨r, hr⟩
        · cases h
      · cases h
    | rptr t' y => simp [toPure] at h
    | optr id i p => simp [toPure] at h
    | fn f c => simp [toPure] at h
    | und => simp [toPure] at h
    | vptr id t o => simp [toPure] at h
    | rfn f l => simp [toPure] at h
    | bnil e n => simp [toPure] at h
    | any => simp [toPure] at h
    | mref id => simp [toPure] at h
    | mp f n => simp [toPure] at h
  have gat : ∀ (L : List (Nat × SV)) (t : Ty) (o : Nat) (x : t.den) (is : List Nat), gather rows L t o = some (x, is) → ∀ id ∈ is, ∃ r, rows id = some r := by
    intro L t
    have leaf : ∀ (t : Ty) (o : Nat) (x : t.den) (is : List Nat), (match look L o with | some s => toPure rows t s | none => none) = some (x, is) → ∀ id ∈ is, ∃ r, rows id = some r := by
      intro t o x is h
      split at h
      · exact pure _ _ _ _ h
      · cases h
    induction t with
    | unit =>
      intro o x is h id hid
      simp only [gather, Option.some.injEq, Prod.mk.injEq] at h
      obtain ⟨_, rfl⟩ := h
      cases hid
    | pair a b iha ihb =>
      intro o x is h id hid
      simp only [gather] at h
      split at h
      · rename_i x1 i1 h1
        split at h
        · rename_i x2 i2 h2
          simp only [Option.some.injEq, Prod.mk.injEq] at h
          obtain ⟨_, rfl⟩ := h
          rcases List.mem_append.1 hid with hid | hid
          · exact iha _ _ _ h1 id hid
          · exact ihb _ _ _ h2 id hid
        · cases h
      · cases h
    | int k => exact fun o x is h => leaf (.int k) o x is h
    | bool => exact fun o x is h => leaf .bool o x is h
    | str => exact fun o x is h => leaf .str o x is h
    | sl t _ => exact fun o x is h => leaf (.sl t) o x is h
    | fnc => exact fun o x is h => leaf .fnc o x is h
  have rowc : ∀ (t : Ty) (i : Nat) (x : t.den) (is : List Nat), rowC rows t i = some (x, is) → ∀ id ∈ is, ∃ r, rows id = some r := by
    intro t i x is h id hid
    unfold rowC at h
    split at h
    · rename_i r hr
      split at h
      · rename_i L hk
        cases hd : decide (r.t = t) with
        | false => rw [hd] at h; cases h
        | true =>
          rw [hd] at h
          simp only [cond_true] at h
          split at h
          · rename_i y i1 hg
            simp only [Option.some.injEq, Prod.mk.injEq] at h
            obtain ⟨_, rfl⟩ := h
            rcases List.mem_cons.1 hid with hid | hid
            · subst hid; exact ⟨r, hr⟩
            · exact gat L t 0 y i1 hg id hid
          · cases h
      · split at h
        · simp only [Option.some.injEq, Prod.mk.injEq] at h
          obtain ⟨_, rfl⟩ := h
          simp only [List.mem_singleton] at hid
          subst hid
          exact ⟨r, hr⟩
        · cases h
    · cases h
  have cellc : ∀ (t : Ty) (s : SV) (x : t.den) (is : List Nat), cellC rows t s = some (x, is) → ∀ id ∈ is, ∃ r, rows id = some r := by
    intro t s x is h id hid
    unfold cellC at h
    split at h
    · split at h
      · simp only [Option.some.injEq, Prod.mk.injEq] at h
        obtain ⟨_, rfl⟩ := h
        cases hid
      · cases h
    · exact rowc _ _ _ _ h id hid
    · rename_i i t'
      cases hd : decide (t' = t) with
      | false => rw [hd] at h; cases h
      | true => rw [hd] at h; exact rowc _ _ _ _ h id hid
    · cases h
  have capsc : ∀ (ts : List Ty) (caps : List Nat) (x : (tupTy ts).den) (is : List Nat), capsC rows ts caps = some (x, is) → ∀ id ∈ is, ∃ r, rows id = some r := by
    intro ts
    induction ts with
    | nil =>
      intro caps x is h id hid
      cases caps with
      | nil =>
        simp only [capsC, Option.some.injEq, Prod.mk.injEq] at h
        obtain ⟨_, rfl⟩ := h
        cases hid
      | cons a l => simp [capsC] at h
    | cons t ts ih =>
      intro caps x is h id hid
      cases caps with
      | nil => simp [capsC] at h
      | cons a l =>
        simp only [capsC] at h
        split at h
        · rename_i y i1 h1
          split at h
          · rename_i z i2 h2
            simp only [Option.some.injEq, Prod.mk.injEq] at h
            obtain ⟨_, rfl⟩ := h
            rcases List.mem_append.1 hid with hid | hid
            · exact rowc _ _ _ _ h1 id hid
            · exact ih l z i2 h2 id hid
          · cases h
        · cases h
  intro ps
  induction ps with
  | nil =>
    intro args b h id hid
    match args with
    | [] => simp only [bindL, Option.some.injEq] at h; subst h; cases hid
    | _ :: _ => simp [bindL] at h
  | cons p ps ih =>
    intro args b h id hid
    match args with
    | [] => simp [bindL] at h
    | s :: args =>
      simp only [bindL] at h
      split at h
      · rename_i b1 hb1
        split at h
        · rename_i bs hbs
          simp only [Option.some.injEq] at h
          subst h
          rcases List.mem_append.1 hid with hid | hid
          · cases p with
            | pure t =>
              simp only [bind1] at hb1
              split at hb1
              · rename_i x is hx
                simp only [Option.some.injEq] at hb1
                subst hb1
                exact pure t s x is hx id hid
              · cases hb1
            | own t =>
              cases s with
              | own i =>
                simp only [bind1] at hb1
                split at hb1
                · split at hb1
                  · cases hb1
                  · cases hb1
                  · simp only [Option.some.injEq] at hb1; subst hb1; cases hid
                  · cases hb1
                · cases hb1
              | _ => simp [bind1] at hb1
            | ptr t f =>
              simp only [bind1] at hb1
              split at hb1
              · rename_i i hid'
                split at hb1
                · split at hb1
                  · cases hb1
                  · cases hb1
                  · simp only [Option.some.injEq] at hb1; subst hb1; cases hid
                  · cases hb1
                · cases hb1
              · cases hb1
            | rd t =>
              simp only [bind1] at hb1
              split at hb1
              · rename_i x is hx
                simp only [Option.some.injEq] at hb1
                subst hb1
                exact cellc t s x is hx id hid
              · cases hb1
            | rfn f ts =>
              cases s with
              | fn g caps =>
                simp only [bind1] at hb1
                cases hcc : Nat.beq f g with
                | false => rw [hcc] at hb1; cases hb1
                | true =>
                  rw [hcc] at hb1
                  simp only [cond_true] at hb1
                  split at hb1
                  · rename_i x is hx
                    simp only [Option.some.injEq] at hb1
                    subst hb1
                    exact capsc ts caps x is hx id hid
                  · cases hb1
              | rfn g l =>
                simp only [bind1] at hb1
                cases hcc : Nat.beq f g with
                | false => rw [hcc] at hb1; cases hb1
                | true =>
                  rw [hcc] at hb1
                  simp only [cond_true] at hb1
                  split at hb1
                  · simp only [Option.some.injEq] at hb1; subst hb1; cases hid
                  · cases hb1
              | _ => simp [bind1] at hb1
            | nil =>
              cases s with
              | nilsl => simp only [bind1, Option.some.injEq] at hb1; subst hb1; cases hid
              | _ => simp [bind1] at hb1
            | fn f =>
              cases s with
              | fn g caps =>
                simp only [bind1] at hb1
                cases hcc : (Nat.beq f g && caps.isEmpty) with
                | false => rw [hcc] at hb1; cases hb1
                | true => rw [hcc] at hb1; simp only [cond_true, Option.some.injEq] at hb1; subst hb1; cases hid
              | _ => simp [bind1] at hb1
            | give t =>
              cases s with
              | own i =>
                simp only [bind1] at hb1
                split at hb1
                · split at hb1
                  · simp only [Option.some.injEq] at hb1; subst hb1; cases hid
                  · cases hb1
                · cases hb1
              | _ => simp [bind1] at hb1
          · exact ih args bs hbs id hid
        · cases h
      · cases h
theorem bind_len {rows : RT} : ∀ (ps : List PM) (args : List SV) (b : Bound (argTy ps)), bindL rows ps args = some b → args.length = ps.length := by
  intro ps
  induction ps with
  | nil =>
    intro args b h
    match args with
    | [] => rfl
    | _ :: _ => simp [bindL] at h
  | cons p ps ih =>
    intro args b h
    match args with
    | [] => simp [bindL] at h
    | s :: args =>
      simp only [bindL] at h
      split at h
      · split at h
        · rename_i bs hbs
          simp [ih args bs hbs]
        · cases h
      · cases h
theorem bnd_val {α β : Type} {o : Option β} {f : β → Tree α} {r : α} (h : (Tree.bnd o f).val = some r) : ∃ y, o = some y ∧ (f y).val = some r := by
  cases o with
  | none => simp [Tree.val] at h
  | some y => exact ⟨y, rfl, by simpa [Tree.val] using h⟩
theorem run_callFunc {f : Nat} {fn : Func} (hf : P.funcs[f]? = some fn) (hb : fn.body.isNone = false) (hn : (fn.name == "runtime.NumGoroutine") = false) (args : Array Value) (w : World) :
    (callFunc f args).run P w = .ok (.enter f args) w := by
  simp only [callFunc, Sem.run_bind, run_program, Result.andThen_ok, hf, hn, hb, Bool.false_eq_true, if_false, Sem.run_pure]
/-- A call: its arguments' abstract values stand for the values that are handed over. -/
theorem call_core (hC : EnvOk P E) {f d : Nat} {svs : List SV} {more : List Nat} (hmr : ∀ id ∈ more, ∃ r, st.row id = some r) {vals : List Value} (hg : Good C w S γ st a.tmps) (hd : ∀ j, j < 8 → d + 4096 * j ∉ st.refs) (hl2 : svs.length = vals.length)
    (hvals : ∀ (j : Nat) s v, svs[j]? = some s → vals[j]? = some v → RepS w (SU S γ more) γ st.row s v)
    (hv : (callK E d f (rowsOf st ids) more svs fun v u => Tree.ret (v, u)).val = some (v, u)) :
    (callFunc f vals.toArray).run P w = .ok (.enter f vals.toArray) w ∧ Calls P f vals.toArray w fun e w'' => ∃ v0, e = .returned v0 ∧ After C st u v a.tmps v0 w'' := by
  have hsub : ∀ id r, rowsOf st ids id = some r → st.row id = some r := fun _ _ => rowsOf_sub
  unfold callK at hv
  split at hv
  · rename_i s hs
    cases hm0 : more.isEmpty with
    | false => rw [hm0] at hv; simp [Tree.val] at hv
    | true =>
      rw [hm0, cond_true] at hv
      have hmore : more = [] := by simpa using hm0
      subst hmore
      have hSU : ∀ b, SU S γ [] b → S b := by
        rintro b (h | ⟨id, h, _⟩)
        · exact h
        · cases h
      unfold svK at hv
      split at hv
      · rename_i id τ u' x
        split at hv
        · rename_i r y hr hy
          have hr' := hsub _ _ hr
          split at hv
          · rename_i L hk hl
            split at hv
            · rename_i j g h0 h1
              split at hv
              · rename_i rj hj
                have hj' := hsub _ _ hj
                split at hv
                · rename_i l hkj hc
                  obtain ⟨k1, hv1⟩ := br_val hv
                  clear hv
                  simp only [Bool.and_eq_true, decide_eq_true_eq] at k1
                  obtain ⟨k1, k2, k3⟩ := k1
                  have k1 := Nat.eq_of_beq_eq_true k1
                  subst k1 k3
                  obtain ⟨m, hm, hv⟩ := bnd_val hv1
                  clear hv1
                  simp only [Tree.val, Option.some.injEq, Prod.mk.injEq] at hv
                  obtain ⟨rfl, rfl⟩ := hv
                  match vals, hl2 with
                  | [vp, vx], _ =>
                    have p1 := hvals 0 _ vp rfl rfl
                    have p2 := hvals 1 _ vx rfl rfl
                    have hx : RepV w S s.u y vx := by
                      obtain ⟨e, he⟩ := castTy_some hy
                      subst e
                      simp only at he
                      subst he
                      exact RepV.mono hSU (fun _ _ => rfl) p2
                    have hent := sv_entry (u := s.u) (y := y) hg.rel hr' hk hl h0 h1 hj' hkj hc (vp := vp) (vx := vx) p1 hx
                    obtain ⟨fn, q1, q2, q3⟩ := hC.sv.fn f s hs
                    refine ⟨run_callFunc q1 q2 q3 _ _, Calls.mono (hC.sv.ok f s hs w S _ _ l m y hm hent rfl) ?_⟩
                    rintro e w'' ⟨v0, S', γ', rfl, hG⟩
                    exact ⟨v0, rfl, sv_after hg hr' hk hj' hkj (by have := hd 0 (by omega); simpa using this) k2 hG hl⟩
                · simp [Tree.val] at hv
              · simp [Tree.val] at hv
            · simp [Tree.val] at hv
          · simp [Tree.val] at hv
        · simp [Tree.val] at hv
      · simp [Tree.val] at hv
  split at hv
  · rename_i sig hsig
    split at hv
    · rename_i b hb
      obtain ⟨h0, hv1⟩ := br_val hv
      clear hv
      simp only [Bool.and_eq_true, decide_eq_true_eq, List.all_eq_true, Bool.not_eq_true'] at h0
      obtain ⟨k1, k2, k3, k4⟩ := h0
      split at hv1
      · rename_i fr hfr
        obtain ⟨y, hy, hv⟩ := bnd_val hv1
        clear hv1
        split at hv
        · rename_i o ho'
          simp only [Tree.val, Option.some.injEq, Prod.mk.injEq] at hv
          obtain ⟨rfl, rfl⟩ := hv
          have hdis : ∀ id ∈ b.outs, id ∉ b.reads ++ more := fun id h1 h2 => by
            have := k2 id h1
            rw [List.elem_eq_mem, decide_eq_false_iff_not] at this
            exact this h2
          have hread : ∀ id ∈ b.reads ++ more, ∃ r, st.row id = some r := fun id hid => by
            rcases List.mem_append.1 hid with hid | hid
            · obtain ⟨r, hr⟩ := bind_reads _ _ _ hb id hid
              exact ⟨r, hsub _ _ hr⟩
            · exact hmr id hid
          have hA := bindL_ok hg.rel.rows hg.rel.vars hsub (reads := b.reads ++ more) (more := more) (fun id h => List.mem_append_right _ h) sig.ps _ _ b hb hl2 hvals (fun id h => List.mem_append_left _ h)
          have hent := entry_rel hg.rel hA (distinctB_nodup k1) hdis hread
          have hps := bind_len _ _ _ hb
          have hcall := hC.ctx.ok f sig hsig w _ _ _ b.x y hy hent (by
            rw [List.size_toArray, ← hl2, hps])
          obtain ⟨fn, q1, q2, q3⟩ := hC.ctx.fn f sig hsig
          refine ⟨run_callFunc q1 q2 q3 _ _, Calls.mono hcall ?_⟩
          rintro e w'' ⟨v0, S', γ', rfl, hG⟩
          exact ⟨v0, rfl, call_after hg hsub hA (distinctB_nodup k1) hread hfr k3 k4 hd hG ho'⟩
        · simp [Tree.val] at hv
      · simp [Tree.val] at hv1
    · simp [Tree.val] at hv
  · simp [Tree.val] at hv
theorem ones_get : ∀ (avs : List (Option AV)) (vs : List SV), ones avs = some vs → vs.length = avs.length ∧ ∀ (i : Nat) (s : SV), vs[i]? = some s → avs[i]? = some (some (.one s)) := by
  intro avs
  induction avs with
  | nil => intro vs h; simp only [ones, Option.some.injEq] at h; subst h; exact ⟨rfl, fun i s h => by simp at h⟩
  | cons av avs ih =>
    intro vs h
    cases av with
    | none => simp [ones] at h
    | some av =>
      cases av with
      | tup l => simp [ones] at h
      | agg t L => simp [ones] at h
      | one s0 =>
        simp only [ones] at h
        split at h
        · rename_i l hl
          simp only [Option.some.injEq] at h
          subst h
          obtain ⟨h1, h2⟩ := ih l hl
          refine ⟨by simp [h1], fun i s hs => ?_⟩
          cases i with
          | zero => simp only [List.getElem?_cons_zero, Option.some.injEq] at hs; subst hs; rfl
          | succ i => exact h2 i s (by simpa using hs)
        · cases h
theorem aggArgs_spec {rows : RT} : ∀ (avs avs' : List (Option AV)) (more : List Nat), aggArgs rows avs = some (avs', more) → avs'.length = avs.length ∧
    (∀ (i : Nat) (s : SV), avs'[i]? = some (some (.one s)) → avs[i]? = some (some (.one s)) ∨ ∃ t L x is, avs[i]? = some (some (.agg t L)) ∧ s = .val t x ∧ t.isAgg = true ∧ gather rows L t 0 = some (x, is) ∧ ∀ id ∈ is, id ∈ more) ∧
    ∀ id ∈ more, ∃ r, rows id = some r := by
  intro avs
  induction avs with
  | nil =>
    intro avs' more h
    simp only [aggArgs, Option.some.injEq, Prod.mk.injEq] at h
    obtain ⟨rfl, rfl⟩ := h
    exact ⟨rfl, fun i s h => by simp at h, fun id h => by cases h⟩
  | cons av avs ih =>
    intro avs' more h
    simp only [aggArgs] at h
    split at h
    · rename_i x i hx
      split at h
      · rename_i y j hy
        simp only [Option.some.injEq, Prod.mk.injEq] at h
        obtain ⟨rfl, rfl⟩ := h
        obtain ⟨h1, h2, h3⟩ := ih y j hy
        have key : (∀ s, x = some (.one s) → av = some (.one s) ∨ ∃ t L z is, av = some (.agg t L) ∧ s = .val t z ∧ t.isAgg = true ∧ gather rows L t 0 = some (z, is) ∧ is = i) ∧ ∀ id ∈ i, ∃ r, rows id = some r := by
          unfold aggArg at hx
          split at hx
          · rename_i t L
            split at hx
            · rename_i z is ha hgt
              simp only [Option.some.injEq, Prod.mk.injEq] at hx
              obtain ⟨rfl, rfl⟩ := hx
              exact ⟨fun s hs => by cases hs; exact .inr ⟨t, L, z, is, rfl, rfl, ha, hgt, rfl⟩, gather_rows L t 0 z is hgt⟩
            · cases hx
          · cases hx; exact ⟨fun s hs => (by cases hs), fun id h => by cases h⟩
          · cases hx; exact ⟨fun s hs => .inl hs, fun id h => by cases h⟩
          · cases hx; exact ⟨fun s hs => (by cases hs), fun id h => by cases h⟩
        refine ⟨by simp [h1], fun k s hs => ?_, fun id hid => ?_⟩
        · cases k with
          | zero =>
            simp only [List.getElem?_cons_zero, Option.some.injEq] at hs ⊢
            rcases key.1 s hs with h | ⟨t, L, z, is, g1, g2, g3, g4, rfl⟩
            · exact .inl h
            · exact .inr ⟨t, L, z, is, g1, g2, g3, g4, fun id h => List.mem_append_left _ h⟩
          | succ k =>
            simp only [List.getElem?_cons_succ] at hs ⊢
            rcases h2 k s hs with h | ⟨t, L, z, is, g1, g2, g3, g4, g5⟩
            · exact .inl h
            · exact .inr ⟨t, L, z, is, g1, g2, g3, g4, fun id h => List.mem_append_right _ (g5 id h)⟩
        · rcases List.mem_append.1 hid with h | h
          · exact key.2 id h
          · exact h3 id h
      · cases h
    · cases h
theorem sound_call (hC : EnvOk P E) {fo : Operand} {args : Array Operand} {tys : Array TypeId} (hg : Good C w S γ st a.tmps) (hd : ∀ j, j < 8 → dst.getD 1000000 + 4096 * j ∉ st.refs)
    (hv : (opT E ⟨dst, .call ⟨.value fo, args, tys⟩, ty, pos, af, gd⟩ ((fo :: args.toList).map st.ev) (rowsOf st ids)).val = some (v, u)) :
    OpRes P ⟨dst, .call ⟨.value fo, args, tys⟩, ty, pos, af, gd⟩ a w (After C st u v a.tmps) := by
  change (callOpK E (dst.getD 1000000) ⟨.value fo, args, tys⟩ ((fo :: args.toList).map st.ev) (rowsOf st ids) fun v u => Tree.ret (v, u)).val = some (v, u) at hv
  have hsub : ∀ id r, rowsOf st ids id = some r → st.row id = some r := fun _ _ => rowsOf_sub
  have key : ∀ (f : Nat) (s0 : SV) (vs extra : List SV) (cv : List Value) (avs' : List (Option AV)) (more : List Nat), aggArgs (rowsOf st ids) ((fo :: args.toList).map st.ev) = some (avs', more) → ones avs' = some (s0 :: vs) → a.eval fo = .func (.func f) #[] cv.toArray → extra.length = cv.length →
      (∀ (j : Nat) s v, extra[j]? = some s → cv[j]? = some v → RepS w S γ st.row s v) →
      (callK E (dst.getD 1000000) f (rowsOf st ids) more (vs ++ extra) fun v u => Tree.ret (v, u)).val = some (v, u) → OpRes P ⟨dst, .call ⟨.value fo, args, tys⟩, ty, pos, af, gd⟩ a w (After C st u v a.tmps) := by
    intro f s0 vs extra cv avs' more hag ho f1 f2 f3 hv
    obtain ⟨g1, g2, g3⟩ := aggArgs_spec _ _ _ hag
    obtain ⟨hlen', hall⟩ := ones_get _ _ ho
    have hlen : (s0 :: vs).length = (fo :: args.toList).length := by rw [hlen', g1, List.length_map]
    have hS : ∀ (s : SV) (v : Value), RepS w S γ st.row s v → RepS w (SU S γ more) γ st.row s v := fun s v h => h.mono (fun _ h => .inl h) (fun _ _ => rfl) (fun _ _ h => h) (fun id _ r' hr' => ⟨r', hr', rfl, rfl, rfl⟩)
    have hmr : ∀ id ∈ more, ∃ r, st.row id = some r := fun id hid => by
      obtain ⟨r, hr⟩ := g3 id hid
      exact ⟨r, hsub _ _ hr⟩
    have harg : ∀ (i : Nat) (s : SV) (o : Operand), (s0 :: vs)[i]? = some s → (fo :: args.toList)[i]? = some o → RepS w (SU S γ more) γ st.row s (a.eval o) := by
      intro i s o h1 h2
      have h3 := hall i s h1
      rcases g2 i s h3 with h4 | ⟨t, L, x, is, h4, rfl, ha, hgt, hsubm⟩
      · rw [List.getElem?_map, h2] at h4
        simp only [Option.map_some, Option.some.injEq] at h4
        exact hS _ _ (ev_rep hg.rel h4)
      · rw [List.getElem?_map, h2] at h4
        simp only [Option.map_some, Option.some.injEq] at h4
        obtain ⟨cs, e1, e2, e3, e4⟩ := ev_rep hg.rel h4
        obtain ⟨ds, d1, d2⟩ := gather_agg hg.rel.rows hsub e4 t 0 x is hgt
        rw [List.drop_zero, ← e2, List.take_length] at d1
        subst d1
        refine RepV.mono (SU_mono hsubm) (fun _ _ => rfl) ⟨_, d2, ?_⟩
        rw [e1]; simp [pack, ha]
    have hvals : ∀ (j : Nat) s v, (vs ++ extra)[j]? = some s → (args.toList.map a.eval ++ cv)[j]? = some v → RepS w (SU S γ more) γ st.row s v := by
      intro j s v h1 h2
      have hl : vs.length = args.toList.length := by simpa using hlen
      by_cases hj : j < vs.length
      · rw [List.getElem?_append_left hj] at h1
        rw [List.getElem?_append_left (by simp; simp at hl; omega)] at h2
        rw [List.getElem?_map, Option.map_eq_some_iff] at h2
        obtain ⟨o', q1, rfl⟩ := h2
        exact harg (j + 1) s o' (by simpa using h1) (by simpa using q1)
      · rw [List.getElem?_append_right (by omega)] at h1
        rw [List.getElem?_append_right (by simp; simp at hl; omega)] at h2
        rw [show j - (args.toList.map a.eval).length = j - vs.length by rw [List.length_map, hl]] at h2
        exact hS _ _ (f3 _ s v h1 h2)
    have hl2 : (vs ++ extra).length = (args.toList.map a.eval ++ cv).length := by
      simp only [List.length_append, List.length_map, f2]
      have : vs.length = args.toList.length := by simpa using hlen
      omega
    obtain ⟨c1, c2⟩ := call_core (P := P) hC hmr hg hd hl2 hvals hv
    refine .inr (.inr ⟨f, (args.toList.map a.eval ++ cv).toArray, w, ?_, c2⟩)
    simp only [execOp, resolve, Deferred.ofValue, f1, invoke, Sem.run_bind, Sem.run_pure, Result.andThen_ok]
    rw [← c1]
    congr 2
    apply Array.ext'
    simp
  simp only [callOpK] at hv
  split at hv
  rotate_left
  · simp [Tree.val] at hv
  rename_i avs' more hag
  have hfo : ∀ (s0 : SV) (vs : List SV), ones avs' = some (s0 :: vs) → (∀ t x, s0 ≠ .val t x) → st.ev fo = some (.one s0) := by
    intro s0 vs ho hne
    have h3 := (ones_get _ _ ho).2 0 s0 rfl
    rcases (aggArgs_spec _ _ _ hag).2.1 0 s0 h3 with h4 | ⟨t, L, x, is, _, e, _⟩
    · simpa using h4
    · exact absurd e (hne t x)
  split at hv
  · rename_i f caps vs ho
    have e2 := hfo _ _ ho (fun t x h => by cases h)
    obtain ⟨cv, f1, f2, f3⟩ := ev_rep hg.rel e2
    refine key f _ vs (caps.map (capSV (rowsOf st ids))) cv avs' more hag ho f1 (by simp [f2]) (fun j s v h1 h2 => ?_) hv
    rw [List.getElem?_map] at h1
    cases hc : caps[j]? with
    | none => simp [hc] at h1
    | some id =>
      simp only [hc, Option.map_some, Option.some.injEq] at h1
      subst h1
      obtain ⟨uu, g1, g2⟩ := f3 _ id hc
      rw [h2] at g1
      cases g1
      unfold capSV
      split
      · rename_i r hr
        split
        · intro r' hr'
          obtain ⟨bb, q, g4, g5⟩ := g2 r' hr'
          exact ⟨bb, q, g4, by simp [g5]⟩
        · rename_i y l hl
          intro r' hr'
          have hr2 := hsub _ _ hr
          rw [hr'] at hr2
          cases hr2
          obtain ⟨bb, q, g4, g5⟩ := g2 r hr'
          exact ⟨by rw [hl]; simp, bb, q, r.t, 0, g4, rfl, by simp [g5]⟩
      · intro r' hr'
        obtain ⟨bb, q, g4, g5⟩ := g2 r' hr'
        exact ⟨bb, q, g4, by simp [g5]⟩
  · rename_i f l vs ho
    have e2 := hfo _ _ ho (fun t x h => by cases h)
    obtain ⟨cv, f1, f2, f3⟩ := ev_rep hg.rel e2
    refine key f _ vs (l.map fun x => SV.rptr x.t x.x) cv avs' more hag ho f1 (by simp [f2]) (fun j s v h1 h2 => ?_) hv
    rw [List.getElem?_map] at h1
    cases hc : l[j]? with
    | none => simp [hc] at h1
    | some x =>
      simp only [hc, Option.map_some, Option.some.injEq] at h1
      subst h1
      obtain ⟨b, off, ds, g1, g2, g3, g4⟩ := f3 _ x hc
      rw [h2] at g1
      cases g1
      exact ⟨b, off, ds, rfl, g2, g3, g4⟩
  · simp [Tree.val] at hv
theorem mapOf_row {rows : RT} {id n : Nat} {f : Int → Int} (h : mapOf rows id = some (f, n)) : rows id = some ⟨.var [(0, .mp f n)], .unit, []⟩ := by
  unfold mapOf at h
  split at h
  · rename_i f' n' e
    cases h; exact e
  · cases h
theorem map_leaf {f : Int → Int} {n k : Nat} {s : SV} (h : look [(0, SV.mp f n)] k = some s) : s = .mp f n := by
  rw [look_cons] at h
  split at h
  · cases h; rfl
  · cases h
theorem map_at (hg : Good C w S γ st a.tmps) {id n : Nat} {f : Int → Int} (hr : st.row id = some ⟨.var [(0, .mp f n)], .unit, []⟩) : ∃ b q, γ id = some (b, q) ∧ MapAt w b f n := by
  obtain ⟨b, q, h1, h2⟩ := hg.rel.vars id _ _ hr rfl
  rcases h2 0 (.mp f n) rfl with ⟨_, _, h3⟩ | ⟨f', n', e, h3⟩
  · cases h3
  · cases e; exact ⟨b, q, h1, h3⟩
theorem map_turn (hg : Good C w S γ st a.tmps) {id n n' : Nat} {f f' : Int → Int} (hr : st.row id = some ⟨.var [(0, .mp f n)], .unit, []⟩) {b q : Nat} (hp : γ id = some (b, q)) {w' : World} (ht : w.mapTurned w' b) (hm : MapAt w' b f' n') :
    Good C w' S γ (st.upd [(id, some ⟨.var [(0, .mp f' n')], .unit, []⟩)]) a.tmps := by
  have hg1 := hg.kind hr (by simp) (by simp) (k := .free) (by simp) (by simp) (fun L h => by cases h) (fun L h => by cases h)
  have hr1 : (st.upd [(id, some ⟨.free, .unit, []⟩)]).row id = some ⟨.free, .unit, []⟩ := by rw [row_one, if_pos rfl]
  have hg2 := hg1.turn hr1 rfl rfl hp ht
  have hg3 := hg2.kind hr1 (by simp) (by simp) (k := .var [(0, .mp f' n')]) (hpv := fun _ _ h => by cases h) (by simp) (by simp) (fun L2 h2 => by
    cases h2
    refine ⟨b, q, hp, fun k s hs => .inr ⟨f', n', map_leaf hs, hm⟩⟩)
  refine hg3.same (fun _ => rfl) (fun i => ?_)
  rw [row_one, row_one]
  split
  · rfl
  · rename_i h
    exact ((row_one st id _ i).trans (if_neg h)).symm
theorem isMap_key {t : Nat} (h : E.isMap t = true) : ∃ k, E.mapKey t = some k := Option.isSome_iff_exists.1 h
theorem sound_makeMap (hT : TtOk P E.tt) {t : Nat} (hg : Good C w S γ st a.tmps) (hd : dst.getD 1000000 ∉ st.refs)
    (hv : (makeMapK E (dst.getD 1000000) t fun v u => Tree.ret (v, u)).val = some (v, u)) : OpRes P ⟨dst, .makeMap t none, ty, pos, af, gd⟩ a w (After C st u v a.tmps) := by
  unfold makeMapK at hv
  obtain ⟨h1, hv⟩ := br_val hv
  simp only [Tree.val, Option.some.injEq, Prod.mk.injEq] at hv
  obtain ⟨rfl, rfl⟩ := hv
  obtain ⟨k, hk⟩ := isMap_key h1
  obtain ⟨e, m1, m2, m3, m4⟩ := hT.map hk
  generalize hd' : dst.getD 1000000 = d at *
  have hg1 := hg.newO hd .unit [] (.map #[] 0) [] w (.inl rfl) (fun hnew => .inr ⟨rfl, #[], 0, hnew⟩)
  have hr1 : (st.upd ((d, some (⟨.free, .unit, []⟩ : Row)) :: ([] : List Nat).map fun k => (k, none))).row d = some ⟨.free, .unit, []⟩ := (row_one st d _ d).trans (if_pos rfl)
  have hg2 := hg1.kind hr1 (by simp) (by simp) (k := .var [(0, .mp (fun _ => 0) 0)]) (hpv := fun _ _ h => by cases h) (by simp) (by simp) (fun L2 h2 => by
    cases h2
    exact ⟨w.heap.size, 0, by simp, fun k' s hs => .inr ⟨_, _, map_leaf hs, P, k, e, .map [], m2, m3, World.ownsMap_made w P k _, fun a _ => rfl⟩⟩)
  refine .inl ⟨.map (some w.heap.size), w.alloc (.map #[] 0), ?_, S, _, hg2.same (fun _ => rfl) (fun i => ?_), ?_⟩
  · simp only [execOp, Instr.makeMap]
    rfl
  · rw [row_one, row_one]
    split
    · rfl
    · rename_i h
      exact ((row_one st d _ i).trans (if_neg h)).symm
  · intro r hr
    exact ⟨w.heap.size, 0, by simp, rfl⟩
theorem sound_lookup (hT : TtOk P E.tt) {t : Nat} {x y : Operand} (hg : Good C w S γ st a.tmps)
    (hv : (one2 [st.ev x, st.ev y] fun m k => lookupK E t (rowsOf st ids) m k fun v => Tree.ret (v, ([] : Upd))).val = some (v, u)) :
    OpRes P ⟨dst, .lookup t x y false, ty, pos, af, gd⟩ a w (After C st u v a.tmps) := by
  obtain ⟨s1, s2, he, hv1⟩ := one2_val hv
  clear hv
  simp only [List.cons.injEq, and_true] at he
  have hA := ev_rep hg.rel he.1
  have hB := ev_rep hg.rel he.2
  unfold lookupK at hv1
  split at hv1
  · rename_i id c
    split at hv1
    · rename_i f n hmo
      obtain ⟨h1, hv1⟩ := br_val hv1
      simp only [Tree.val, Option.some.injEq, Prod.mk.injEq] at hv1
      obtain ⟨rfl, rfl⟩ := hv1
      obtain ⟨k, hk⟩ := isMap_key h1
      obtain ⟨e, m1, m2, m3, m4⟩ := hT.map hk
      have hr := rowsOf_sub (mapOf_row hmo)
      obtain ⟨b, q, g1, g2⟩ := map_at hg hr
      obtain ⟨b', q', g3, g4⟩ := hA _ hr
      rw [g1] at g3
      cases g3
      obtain ⟨g5, g6⟩ := inv_int (R := st.row) (γ := γ) hB
      obtain ⟨D, o1, o2⟩ := g2.use m2 m3
      obtain ⟨c', r1, r2, r3⟩ := o1.lookup_int (Go.Maps.int_keyed m2) m1 m3 (m4 w) (Go.Maps.keyOf_int_mk m2 g6)
      rw [o2 c g6] at r2
      have hc : f c = c' := by injection r2 with r2; injection r2
      rw [hc]
      refine res_same hg (v := .int .i64 c') ?_ (mk_int r3)
      simp only [execOp, g4, g5, r1, Sem.run_bind, Result.andThen_ok]
      rfl
    · simp [Tree.val] at hv1
  · simp [Tree.val] at hv1
/-- Behind a store at a key. -/
theorem put_at {P : Program} {k e : TypeId} {b n : Nat} {f : Int → Int} {D : DataW Unit} (m2 : P.underlying k = some (.int .i64)) (m3 : P.underlying e = some (.int .i64)) (hD : Go.Maps.IsMap D)
    (o2 : ∀ a, (Lit.int .i64 a).wf = true → D.atKey (.int .i64 a) (.lit (.int .i64 0)) = .lit (.int .i64 (f a))) {w' : World} {c x : Int} (hc : (Lit.int .i64 c).wf = true) (o1 : w'.ownsMap P k (plainElem P e) b n (D.put (.int .i64 c) (.lit (.int .i64 x)))) :
    MapAt w' b (mput f c x) n := by
  refine ⟨P, k, e, _, m2, m3, o1, fun a ha => ?_⟩
  unfold mput
  by_cases h : a = c
  · subst h
    rw [decide_eq_true rfl, cond_true]
    exact Go.Maps.atKey_put_same hD (by simp [WideAt.IsKeyLit]) _ _
  · rw [decide_eq_false h, cond_false, Go.Maps.atKey_put_other (fun e => h (by injection e)), o2 a ha]
theorem del_at {P : Program} {k e : TypeId} {b n : Nat} {f : Int → Int} {D : DataW Unit} (m2 : P.underlying k = some (.int .i64)) (m3 : P.underlying e = some (.int .i64))
    (o2 : ∀ a, (Lit.int .i64 a).wf = true → D.atKey (.int .i64 a) (.lit (.int .i64 0)) = .lit (.int .i64 (f a))) {w' : World} {c : Int} (o1 : w'.ownsMap P k (plainElem P e) b n (D.del (.int .i64 c))) :
    MapAt w' b (mput f c 0) n := by
  refine ⟨P, k, e, _, m2, m3, o1, fun a ha => ?_⟩
  unfold mput
  by_cases h : a = c
  · subst h
    rw [decide_eq_true rfl, cond_true]
    exact Go.Maps.atKey_del_same _
  · rw [decide_eq_false h, cond_false, Go.Maps.atKey_del_other (fun e => h (by injection e)), o2 a ha]
theorem sound_mapUpdate (hT : TtOk P E.tt) {t : Nat} {x y z : Operand} (hg : Good C w S γ st a.tmps)
    (hv : (mapUpdateK E t (rowsOf st ids) [st.ev x, st.ev y, st.ev z] fun v u => Tree.ret (v, u)).val = some (v, u)) :
    OpRes P ⟨dst, .mapUpdate t x y z, ty, pos, af, gd⟩ a w (After C st u v a.tmps) := by
  unfold mapUpdateK at hv
  split at hv
  · rename_i m c d he
    simp only [List.cons.injEq, and_true] at he
    have hA := ev_rep hg.rel he.1
    obtain ⟨g5, g6⟩ := inv_int (R := st.row) (γ := γ) (ev_rep hg.rel he.2.1)
    obtain ⟨g7, g8⟩ := inv_int (R := st.row) (γ := γ) (ev_rep hg.rel he.2.2)
    unfold mapPutK at hv
    split at hv
    · rename_i id
      split at hv
      · rename_i f n hmo
        obtain ⟨h1, hv⟩ := br_val hv
        simp only [Bool.and_eq_true, decide_eq_true_eq] at h1
        obtain ⟨h1, h2⟩ := h1
        simp only [Tree.val, Option.some.injEq, Prod.mk.injEq] at hv
        obtain ⟨rfl, rfl⟩ := hv
        obtain ⟨k, hk⟩ := isMap_key h1
        obtain ⟨e, m1, m2, m3, m4⟩ := hT.map hk
        have hr := rowsOf_sub (mapOf_row hmo)
        obtain ⟨b, q, g1, g2⟩ := map_at hg hr
        obtain ⟨b', q', g3, g4⟩ := hA _ hr
        rw [g1] at g3
        cases g3
        obtain ⟨D, o1, o2⟩ := g2.use m2 m3
        obtain ⟨w', r1, r2, r3⟩ := o1.store (Go.Maps.int_keyed m2) m1 h2 (Go.Maps.keyOf_int_mk m2 g6) (plainElem_int m3 g8)
        refine .inr (.inl ⟨w', ?_, S, γ, map_turn hg hr g1 r3 (put_at m2 m3 o1.isMap o2 g6 r2), ?_⟩)
        · simp only [execOp, g4, g5, g7, r1, Sem.run_bind, Result.andThen_ok]
          rfl
        · exact ⟨[], rfl, rfl, fun k s h => by simp at h⟩
      · simp [Tree.val] at hv
    · simp [Tree.val] at hv
  · simp [Tree.val] at hv
theorem sound_delete (hT : TtOk P E.tt) {args : Array Operand} {tys : Array TypeId} (hg : Good C w S γ st a.tmps)
    (hv : (one2 (args.toList.map st.ev) fun m k => .br (decide (some tys.toList = (E.mapKey (tys.toList.headD 0)).map fun k => [tys.toList.headD 0, k])) (deleteK E (tys.toList.headD 0) (rowsOf st ids) m k fun v u => Tree.ret (v, u)) .fail).val = some (v, u)) :
    OpRes P ⟨dst, .call ⟨.builtin .delete, args, tys⟩, ty, pos, af, gd⟩ a w (After C st u v a.tmps) := by
  obtain ⟨s1, s2, he, hv1⟩ := one2_val hv
  clear hv
  obtain ⟨x, y, rfl, e1, e2⟩ := list2 he
  obtain ⟨h0, hv⟩ := br_val hv1
  clear hv1
  have h0 := of_decide_eq_true h0
  have hA := ev_rep hg.rel e1
  unfold deleteK at hv
  split at hv
  · rename_i c
    obtain ⟨g5, g6⟩ := inv_int (R := st.row) (γ := γ) (ev_rep hg.rel e2)
    unfold mapPutK at hv
    split at hv
    · rename_i id
      split at hv
      · rename_i f n hmo
        obtain ⟨h1, hv⟩ := br_val hv
        simp only [Bool.and_eq_true, decide_eq_true_eq] at h1
        obtain ⟨h1, h2⟩ := h1
        simp only [Tree.val, Option.some.injEq, Prod.mk.injEq] at hv
        obtain ⟨rfl, rfl⟩ := hv
        obtain ⟨k, hk⟩ := isMap_key h1
        rw [hk] at h0
        simp only [Option.map_some, Option.some.injEq] at h0
        generalize tys.toList.headD 0 = t at h0 hk
        have htys : tys = #[t, k] := by cases tys; simpa using h0
        subst htys
        obtain ⟨e, m1, m2, m3, m4⟩ := hT.map hk
        have hr := rowsOf_sub (mapOf_row hmo)
        obtain ⟨b, q, g1, g2⟩ := map_at hg hr
        obtain ⟨b', q', g3, g4⟩ := hA _ hr
        rw [g1] at g3
        cases g3
        obtain ⟨D, o1, o2⟩ := g2.use m2 m3
        obtain ⟨w', r1, r2, r3⟩ := o1.drop (Go.Maps.int_keyed m2) m1 (Go.Maps.keyOf_int_mk m2 g6) ty
        refine .inl ⟨.tuple #[], w', ?_, S, γ, map_turn hg hr g1 r3 (del_at m2 m3 o2 r2), ?_⟩
        · simp [execOp, resolve, invoke, builtin, g4, g5, r1, Sem.run_bind, Result.andThen_ok]
        · exact ⟨[], rfl, rfl, fun k s h => by simp at h⟩
      · simp [Tree.val] at hv
    · simp [Tree.val] at hv
  · simp [Tree.val] at hv
/-- Every operation does what 'opT' says. -/
theorem op_sound (hT : TtOk P E.tt) (hC : EnvOk P E) {o : Oper} (hg : Good C w S γ st a.tmps) (hd : ∀ i ∈ newIds o, i ∉ st.refs)
    (hv : (opT E o (st.avs o) (rowsOf st ids)).val = some (v, u)) : OpRes P o a w (After C st u v a.tmps) := by
  obtain ⟨dst, op, ty, pos, af, gd⟩ := o
  cases op with
  | move x => exact sound_move (.inl rfl) hg hv
  | assign x => exact sound_move (.inr rfl) hg hv
  | pick c x y => exact sound_pick hg hv
  | alloc t => exact sound_alloc hT hg (hd _ (by simp [newIds])) hv
  | box t x => exact sound_box hg (hd _ (by simp [newIds])) hv
  | build t ps => exact sound_build hT hg hv
  | buildSlice t n ps => exact sound_buildSlice hT hg (hd _ (by simp [newIds])) hv
  | load t x => exact sound_load hT hg hv
  | store t x y => exact sound_store hT hg hv
  | nilCheck x => exact sound_nilCheck hg hv
  | makeFunc f first captured => exact sound_makeFunc hg hv
  | binOp op xT x y yT => exact sound_bin hT hg hv
  | unOp op xT x => exact sound_un hg hv
  | convert s d x => exact sound_conv hT hg hv
  | makeSlice t x y => exact sound_makeSlice hT hg (hd _ (by simp [newIds])) hv
  | slice t x lo hi mx => exact sound_slice hT hg hv
  | fieldAddr t x f => exact sound_fieldAddr hT hg hv
  | field t x f => exact sound_field hT hg hv
  | indexAddr t x y => exact sound_indexAddr hT hg hv
  | index t x y => exact sound_index hT hg hv
  | extract x i => exact sound_extract hg hv
  | makeMap t r =>
    cases r with
    | none => exact sound_makeMap hT hg (hd _ (by simp [newIds])) hv
    | some r => simp [opT, Tree.val] at hv
  | lookup t x y c =>
    cases c with
    | false => exact sound_lookup hT hg hv
    | true => simp [opT, Tree.val] at hv
  | mapUpdate t x y z => exact sound_mapUpdate hT hg hv
  | call c =>
    obtain ⟨cal, args, tys⟩ := c
    cases cal with
    | value fo => exact sound_call hC hg (fun j hj => hd _ (by
        have : j = 0 ∨ j = 1 ∨ j = 2 ∨ j = 3 ∨ j = 4 ∨ j = 5 ∨ j = 6 ∨ j = 7 := by omega
        rcases this with rfl | rfl | rfl | rfl | rfl | rfl | rfl | rfl <;> simp [newIds])) hv
    | invoke r n => simp [opT, callOpK, Tree.val] at hv
    | builtin b =>
      cases b with
      | append => exact sound_append hT hg (hd _ (by simp [newIds])) hv
      | len => exact sound_len hT hg hv
      | max => exact sound_mm true hg rfl hv
      | min => exact sound_mm false hg rfl hv
      | clear => exact sound_clear hT hg hv
      | copy => exact sound_copy hT hg hv
      | delete => exact sound_delete hT hg hv
      | _ => simp [opT, callOpK, Tree.val] at hv
  | _ => simp [opT, Tree.val] at hv
end
end Go.Lift
