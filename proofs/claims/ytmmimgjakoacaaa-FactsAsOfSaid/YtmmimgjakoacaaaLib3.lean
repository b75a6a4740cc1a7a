import Derived.Test.YtmmimgjakoacaaaLib2
import Derived.Orders
import Derived.Tactics
namespace Go.Lift
open Go
variable {P : Program} {E : Env}
theorem toPure_sub {rows : RT} {t : Ty} {s : SV} {x : t.den} {is : List Nat} (h : toPure rows t s = some (x, is)) : ∀ id ∈ is, id ∈ s.ids := toPure_ids h
/-- Ids that the cells of a variable among the rows lead to. -/
def Inner (rows : RT) (id : Nat) : Prop := ∃ i r L, rows i = some r ∧ r.k = .var L ∧ id ∈ leafIds L
theorem freeze_keys {rows : RT} : ∀ {is : List Nat} {fr : Upd}, freeze rows is = some fr → ∀ id ∈ fr.flatMap rowIds, id ∈ is := by
  intro is
  induction is with
  | nil => intro fr h id hid; simp only [freeze, Option.some.injEq] at h; subst h; simp at hid
  | cons i is ih =>
    intro fr h id hid
    simp only [freeze] at h
    split at h
    · split at h
      · split at h
        · rename_i q hq
          simp only [Option.some.injEq] at h
          subst h
          rw [List.flatMap_cons, rowIds_none _ (fun r L e => by cases e; simp)] at hid
          simp only [List.cons_append, List.nil_append, List.mem_cons] at hid ⊢
          exact hid.imp (fun h => h) (fun h => ih hq id h)
        · cases h
      · exact List.mem_cons_of_mem _ (ih h id hid)
      · cases h
      · cases h
    · cases h
/-- A row written anew, of the kind that it was of. -/
theorem same_ids {rows : RT} {i id : Nat} {r r' : Row} (hr : rows i = some r) (hk : r'.k = r.k) (h : id ∈ rowIds (i, some r')) : id = i ∨ Inner rows id := by
  unfold rowIds at h
  simp only [hk, List.mem_cons] at h
  rcases h with h | h
  · exact .inl h
  · right
    split at h
    · rename_i L hL
      exact ⟨i, r, L, hr, hL, h⟩
    · cases h
theorem ones_ids : ∀ {avs : List (Option AV)} {vs : List SV}, ones avs = some vs → vs.flatMap SV.ids = idsOf avs := by
  intro avs
  induction avs with
  | nil => intro vs h; simp only [ones, Option.some.injEq] at h; subst h; rfl
  | cons x avs ih =>
    intro vs h
    cases x with
    | none => simp [ones] at h
    | some av =>
      cases av with
      | tup l => simp [ones] at h
      | agg t L => simp [ones] at h
      | one s =>
        simp only [ones] at h
        split at h
        · rename_i l hl
          simp only [Option.some.injEq] at h
          subst h
          simp only [List.flatMap_cons, ih hl]
          rfl
        · cases h
theorem fillP_ids {rows : RT} {t : Ty} : ∀ {ps : List (Nat × SV)} {x y : t.den} {is : List Nat}, fillP rows t x ps = some (y, is) → ∀ id ∈ is, ∃ p ∈ ps, id ∈ p.2.ids := by
  intro ps
  induction ps with
  | nil => intro x y is h id hid; simp only [fillP, Option.some.injEq, Prod.mk.injEq] at h; obtain ⟨_, rfl⟩ := h; cases hid
  | cons p ps ih =>
    intro x y is h id hid
    simp only [fillP] at h
    split at h
    · split at h
      · rename_i z i1 hz
        split at h
        · split at h
          · rename_i z' i2 hz'
            simp only [Option.some.injEq, Prod.mk.injEq] at h
            obtain ⟨_, rfl⟩ := h
            rcases List.mem_append.1 hid with hid | hid
            · exact ⟨p, by simp, toPure_sub hz id hid⟩
            · obtain ⟨q, h1, h2⟩ := ih hz' id hid
              exact ⟨q, by simp [h1], h2⟩
          · cases h
        · cases h
      · cases h
    · cases h
theorem fillL_ids {rows : RT} {t : Ty} : ∀ {ps : List (Nat × SV)} {x y : List t.den} {is : List Nat}, fillL rows t x ps = some (y, is) → ∀ id ∈ is, ∃ p ∈ ps, id ∈ p.2.ids := by
  intro ps
  induction ps with
  | nil => intro x y is h id hid; simp only [fillL, Option.some.injEq, Prod.mk.injEq] at h; obtain ⟨_, rfl⟩ := h; cases hid
  | cons p ps ih =>
    intro x y is h id hid
    obtain ⟨i, s⟩ := p
    simp only [fillL] at h
    split at h
    · rename_i z i1 hz
      by_cases hi : i < x.length
      · simp only [hi, decide_true, cond_true] at h
        split at h
        · rename_i z' i2 hz'
          simp only [Option.some.injEq, Prod.mk.injEq] at h
          obtain ⟨_, rfl⟩ := h
          rcases List.mem_append.1 hid with hid | hid
          · exact ⟨(i, s), by simp, toPure_sub hz id hid⟩
          · obtain ⟨q, h1, h2⟩ := ih hz' id hid
            exact ⟨q, by simp [h1], h2⟩
        · cases h
      · simp [hi] at h
    · cases h
theorem zip_ids {ps : List Nat} {vs : List SV} {id : Nat} (h : ∃ p ∈ ps.zip vs, id ∈ p.2.ids) : id ∈ vs.flatMap SV.ids := by
  obtain ⟨p, h1, h2⟩ := h
  exact List.mem_flatMap.2 ⟨p.2, (List.of_mem_zip h1).2, h2⟩
theorem bind_outs {rows : RT} : ∀ (ps : List PM) (args : List SV) (b : Bound (argTy ps)), bindL rows ps args = some b → ∀ id, id ∈ b.reads ∨ id ∈ b.outs → id ∈ args.flatMap SV.ids ∨ (id ∈ b.reads ∧ Inner rows id) := by
  have gat : ∀ (L : List (Nat × SV)) (t : Ty) (o : Nat) (x : t.den) (is : List Nat), gather rows L t o = some (x, is) → ∀ id ∈ is, id ∈ leafIds L := by
    intro L t
    have leaf : ∀ (t : Ty) (o : Nat) (x : t.den) (is : List Nat), (match look L o with | some s => toPure rows t s | none => none) = some (x, is) → ∀ id ∈ is, id ∈ leafIds L := by
      intro t o x is h id hid
      split at h
      · rename_i s hs
        exact leafIds_mem hs (toPure_sub h id hid)
      · cases h
    induction t with
    | unit =>
      intro o x is h id hid
      simp only [gather, Option.some.injEq, Prod.mk.injEq] at h
      obtain ⟨_, rfl⟩ := h
      cases hid
    | pair a b iha ihb =>
      intro o x is h id hid
      simp only [gather] at h
      split at h
      · rename_i x1 i1 h1
        split at h
        · rename_i x2 i2 h2
          simp only [Option.some.injEq, Prod.mk.injEq] at h
          obtain ⟨_, rfl⟩ := h
          rcases List.mem_append.1 hid with hid | hid
          · exact iha _ _ _ h1 id hid
          · exact ihb _ _ _ h2 id hid
        · cases h
      · cases h
    | int k => exact fun o x is h => leaf (.int k) o x is h
    | bool => exact fun o x is h => leaf .bool o x is h
    | str => exact fun o x is h => leaf .str o x is h
    | sl t _ => exact fun o x is h => leaf (.sl t) o x is h
    | fnc => exact fun o x is h => leaf .fnc o x is h
  have rowc : ∀ (t : Ty) (i : Nat) (x : t.den) (is : List Nat), rowC rows t i = some (x, is) → ∀ id ∈ is, id = i ∨ Inner rows id := by
    intro t i x is h id hid
    unfold rowC at h
    split at h
    · rename_i r hr
      split at h
      · rename_i L hk
        cases hd : decide (r.t = t) with
        | false => rw [hd] at h; cases h
        | true =>
          rw [hd] at h
          simp only [cond_true] at h
          split at h
          · rename_i y i1 hg
            simp only [Option.some.injEq, Prod.mk.injEq] at h
            obtain ⟨_, rfl⟩ := h
            rcases List.mem_cons.1 hid with hid | hid
            · exact .inl hid
            · exact .inr ⟨i, r, L, hr, hk, gat L t 0 y i1 hg id hid⟩
          · cases h
      · split at h
        · simp only [Option.some.injEq, Prod.mk.injEq] at h
          obtain ⟨_, rfl⟩ := h
          simp only [List.mem_singleton] at hid
          exact .inl hid
        · cases h
    · cases h
  have cellc : ∀ (t : Ty) (s : SV) (x : t.den) (is : List Nat), cellC rows t s = some (x, is) → ∀ id ∈ is, id ∈ s.ids ∨ Inner rows id := by
    intro t s x is h id hid
    unfold cellC at h
    split at h
    · split at h
      · simp only [Option.some.injEq, Prod.mk.injEq] at h
        obtain ⟨_, rfl⟩ := h
        cases hid
      · cases h
    · exact (rowc _ _ _ _ h id hid).imp (fun h => by simp [SV.ids, h]) (fun h => h)
    · rename_i i t'
      cases hd : decide (t' = t) with
      | false => rw [hd] at h; cases h
      | true => rw [hd] at h; exact (rowc _ _ _ _ h id hid).imp (fun h => by simp [SV.ids, h]) (fun h => h)
    · cases h
  have capsc : ∀ (ts : List Ty) (caps : List Nat) (x : (tupTy ts).den) (is : List Nat), capsC rows ts caps = some (x, is) → ∀ id ∈ is, id ∈ caps ∨ Inner rows id := by
    intro ts
    induction ts with
    | nil =>
      intro caps x is h id hid
      cases caps with
      | nil =>
        simp only [capsC, Option.some.injEq] at h
        cases h
        cases hid
      | cons a l => simp [capsC] at h
    | cons t ts ih =>
      intro caps x is h id hid
      cases caps with
      | nil => simp [capsC] at h
      | cons a l =>
        simp only [capsC] at h
        split at h
        · rename_i y i1 h1
          split at h
          · rename_i z i2 h2
            cases h
            rcases List.mem_append.1 hid with hid | hid
            · exact (rowc _ _ _ _ h1 id hid).imp (fun h => by simp [h]) (fun h => h)
            · exact (ih l z i2 h2 id hid).imp (fun h => List.mem_cons_of_mem _ h) (fun h => h)
          · cases h
        · cases h
  intro ps
  induction ps with
  | nil =>
    intro args b h id hid
    match args with
    | [] => simp only [bindL, Option.some.injEq] at h; subst h; simp at hid
    | _ :: _ => simp [bindL] at h
  | cons p ps ih =>
    intro args b h id hid
    match args with
    | [] => simp [bindL] at h
    | s :: args =>
      simp only [bindL] at h
      split at h
      · rename_i b1 hb1
        split at h
        · rename_i bs hbs
          simp only [Option.some.injEq] at h
          subst h
          have h1 : ∀ id, id ∈ b1.reads ∨ id ∈ b1.outs → id ∈ s.ids ∨ (id ∈ b1.reads ∧ Inner rows id) := by
            intro id hid
            cases p with
            | pure t =>
              simp only [bind1] at hb1
              split at hb1
              · rename_i x is hx
                simp only [Option.some.injEq] at hb1
                subst hb1
                rcases hid with hid | hid
                · exact .inl (toPure_sub hx id hid)
                · cases hid
              · cases hb1
            | own t =>
              cases s with
              | own i =>
                simp only [bind1] at hb1
                split at hb1
                · split at hb1
                  · cases hb1
                  · cases hb1
                  · simp only [Option.some.injEq] at hb1; subst hb1; left; simpa [SV.ids] using hid
                  · cases hb1
                · cases hb1
              | _ => simp [bind1] at hb1
            | ptr t f =>
              simp only [bind1] at hb1
              split at hb1
              · rename_i i hid'
                split at hb1
                · split at hb1
                  · cases hb1
                  · cases hb1
                  · simp only [Option.some.injEq] at hb1; subst hb1; left; rw [cellOf_ids hid']; simpa using hid
                  · cases hb1
                · cases hb1
              · cases hb1
            | rd t =>
              simp only [bind1] at hb1
              split at hb1
              · rename_i x is hx
                simp only [Option.some.injEq] at hb1
                subst hb1
                rcases hid with hid | hid
                · exact (cellc t s x is hx id hid).imp (fun h => h) (fun h => ⟨hid, h⟩)
                · cases hid
              · cases hb1
            | rfn f ts =>
              cases s with
              | fn g caps =>
                simp only [bind1] at hb1
                cases hcc : Nat.beq f g with
                | false => rw [hcc] at hb1; cases hb1
                | true =>
                  rw [hcc] at hb1
                  simp only [cond_true] at hb1
                  split at hb1
                  · rename_i x is hx
                    simp only [Option.some.injEq] at hb1
                    subst hb1
                    rcases hid with hid | hid
                    · exact (capsc ts caps x is hx id hid).imp (fun h => h) (fun h => ⟨hid, h⟩)
                    · cases hid
                  · cases hb1
              | rfn g l =>
                simp only [bind1] at hb1
                cases hcc : Nat.beq f g with
                | false => rw [hcc] at hb1; cases hb1
                | true =>
                  rw [hcc] at hb1
                  simp only [cond_true] at hb1
                  split at hb1
                  · simp only [Option.some.injEq] at hb1; subst hb1; simp at hid
                  · cases hb1
              | _ => simp [bind1] at hb1
            | nil =>
              cases s with
              | nilsl => simp only [bind1, Option.some.injEq] at hb1; subst hb1; simp at hid
              | _ => simp [bind1] at hb1
            | fn f =>
              cases s with
              | fn g caps =>
                simp only [bind1] at hb1
                cases hcc : (Nat.beq f g && caps.isEmpty) with
                | false => rw [hcc] at hb1; cases hb1
                | true => rw [hcc] at hb1; simp only [cond_true, Option.some.injEq] at hb1; subst hb1; simp at hid
              | _ => simp [bind1] at hb1
            | give t =>
              cases s with
              | own i =>
                simp only [bind1] at hb1
                split at hb1
                · split at hb1
                  · simp only [Option.some.injEq] at hb1; subst hb1; left; simpa [SV.ids] using hid
                  · cases hb1
                · cases hb1
              | _ => simp [bind1] at hb1
          have h2 := ih args bs hbs id
          simp only [List.mem_append, List.flatMap_cons] at hid ⊢
          rcases hid with (hid | hid) | (hid | hid)
          · exact (h1 id (.inl hid)).imp .inl (fun h => ⟨.inl h.1, h.2⟩)
          · exact (h2 (.inl hid)).imp .inr (fun h => ⟨.inr h.1, h.2⟩)
          · exact (h1 id (.inr hid)).imp .inl (fun h => ⟨.inl h.1, h.2⟩)
          · exact (h2 (.inr hid)).imp .inr (fun h => ⟨.inr h.1, h.2⟩)
        · cases h
      · cases h
theorem outs_keys {rows : RT} : ∀ (ps : List PM) (z : (outTy ps).den) (os : List Nat) (o : Upd), outs1 rows ps z os = some o → ∀ id ∈ o.flatMap rowIds, id ∈ os ∨ Inner rows id := by
  intro ps
  induction ps with
  | nil =>
    intro z os o h id hid
    cases os with
    | nil => simp only [outs1, Option.some.injEq] at h; subst h; simp at hid
    | cons _ _ => simp [outs1] at h
  | cons p ps ih =>
    intro z os o h id hid
    cases p with
    | pure t => exact ih z os o h id hid
    | fn f => exact ih z os o h id hid
    | rd t => exact ih z os o h id hid
    | rfn f ts => exact ih z os o h id hid
    | nil => exact ih z os o h id hid
    | own t =>
      cases os with
      | nil => simp [outs1] at h
      | cons i os =>
        simp only [outs1] at h
        split at h
        · rename_i r hr
          split at h
          · split at h
            · rename_i u hu
              simp only [Option.some.injEq] at h
              subst h
              rw [List.flatMap_cons, List.mem_append] at hid
              rcases hid with hid | hid
              · exact (same_ids hr rfl hid).imp (fun h => by simp [h]) (fun h => h)
              · exact (ih z.2 os u hu id hid).imp (fun h => List.mem_cons_of_mem _ h) (fun h => h)
            · cases h
          · cases h
        · cases h
    | ptr t f =>
      cases os with
      | nil => simp [outs1] at h
      | cons i os =>
        simp only [outs1] at h
        split at h
        · rename_i r hr
          split at h
          · split at h
            · rename_i u hu
              simp only [Option.some.injEq] at h
              subst h
              rw [List.flatMap_cons, List.mem_append] at hid
              rcases hid with hid | hid
              · exact (same_ids hr rfl hid).imp (fun h => by simp [h]) (fun h => h)
              · exact (ih z.2 os u hu id hid).imp (fun h => List.mem_cons_of_mem _ h) (fun h => h)
            · cases h
          · cases h
        · cases h
    | give t =>
      cases os with
      | nil => simp [outs1] at h
      | cons i os =>
        simp only [outs1] at h
        split at h
        · rename_i u hu
          simp only [Option.some.injEq] at h
          subst h
          rw [List.flatMap_cons, List.mem_append] at hid
          rcases hid with hid | hid
          · simp only [rowIds, List.mem_singleton] at hid
            exact .inl (by simp [hid])
          · exact (ih z os u hu id hid).imp (fun h => List.mem_cons_of_mem _ h) (fun h => h)
        · cases h
theorem res_ids : ∀ (rs : List RM) (d i : Nat) (ps : List PM) (y : (resTy rs ps).den) (id : Nat), (id ∈ (res1 d i rs ps y).1.flatMap SV.ids ∨ id ∈ (res1 d i rs ps y).2.1.flatMap rowIds) → ∃ j, i ≤ j ∧ j < i + rs.length ∧ id = d + 4096 * j := by
  intro rs
  induction rs with
  | nil => intro d i ps y id h; simp [res1] at h
  | cons r rs ih =>
    intro d i ps y id h
    cases r with
    | pure t =>
      simp only [res1, List.flatMap_cons, SV.ids, List.nil_append] at h
      obtain ⟨j, h1, h2, h3⟩ := ih d (i + 1) ps y.2 id h
      exact ⟨j, by omega, by simp; omega, h3⟩
    | rfn f ts =>
      simp only [res1, List.flatMap_cons, SV.ids, List.nil_append] at h
      obtain ⟨j, h1, h2, h3⟩ := ih d (i + 1) ps y.2 id h
      exact ⟨j, by omega, by simp; omega, h3⟩
    | own t =>
      simp only [res1, List.flatMap_cons, SV.ids, rowIds, List.mem_cons, List.cons_append, List.nil_append] at h
      rcases h with (h | h) | (h | h)
      · exact ⟨i, Nat.le_refl _, by simp, h⟩
      · obtain ⟨j, h1, h2, h3⟩ := ih d (i + 1) ps y.2 id (.inl h)
        exact ⟨j, by omega, by simp; omega, h3⟩
      · exact ⟨i, Nat.le_refl _, by simp, h⟩
      · obtain ⟨j, h1, h2, h3⟩ := ih d (i + 1) ps y.2 id (.inr h)
        exact ⟨j, by omega, by simp; omega, h3⟩
theorem packAV_ids (l : List SV) : AV.ids (some (packAV l)) = l.flatMap SV.ids := by
  match l with
  | [] => rfl
  | [s] => simp [packAV, AV.ids]
  | _ :: _ :: _ => rfl
theorem new_mem {f : Oper} {d j : Nat} (h : j < 8) (hd : f.dst.getD 1000000 = d) {args : Array Operand} {tys : Array TypeId} {fo : Operand} (hop : f.op = .call ⟨.value fo, args, tys⟩) : d + 4096 * j ∈ newIds f := by
  simp only [newIds, hop, hd]
  have : j = 0 ∨ j = 1 ∨ j = 2 ∨ j = 3 ∨ j = 4 ∨ j = 5 ∨ j = 6 ∨ j = 7 := by omega
  rcases this with rfl | rfl | rfl | rfl | rfl | rfl | rfl | rfl <;> simp
theorem base_ids {rows : RT} {t : Ty} {s : SV} {l : List t.den} {u : Upd} (h : baseOf rows t s = some (l, u)) : ∀ id ∈ u.flatMap rowIds, id ∈ s.ids := by
  intro id hid
  unfold baseOf at h
  split at h
  · simp only [Option.some.injEq, Prod.mk.injEq] at h
    obtain ⟨_, rfl⟩ := h
    simp at hid
  · split at h
    · split at h
      · simp only [Option.some.injEq, Prod.mk.injEq] at h
        obtain ⟨_, rfl⟩ := h
        simpa [SV.ids, rowIds] using hid
      · cases h
    · cases h
  · split at h
    · split at h
      · simp only [Option.some.injEq, Prod.mk.injEq] at h
        obtain ⟨_, rfl⟩ := h
        simpa [SV.ids, rowIds] using hid
      · cases h
    · cases h
  · cases h
/-- A value alone. -/
def Plain (v : AV) (u : Upd) : Prop := AV.ids (some v) = [] ∧ u = []
theorem arith_plain {op : BinOp} {k : IntKind} {a b : Int} {v : AV} {u : Upd} (h : (arithK op k a b fun v => Tree.ret (v, ([] : Upd))).val = some (v, u)) : Plain v u := by
  unfold arithK at h
  split at h <;> first
    | (simp only [Tree.val, Option.some.injEq, Prod.mk.injEq] at h; obtain ⟨rfl, rfl⟩ := h; exact ⟨rfl, rfl⟩)
    | (obtain ⟨_, h⟩ := br_val' h; simp only [Tree.val, Option.some.injEq, Prod.mk.injEq] at h; obtain ⟨rfl, rfl⟩ := h; exact ⟨rfl, rfl⟩)
    | (simp [Tree.val] at h; done)
theorem bin_ids {op : BinOp} {t id : Nat} {a b : SV} {v : AV} {u : Upd} (h : (binK E op t a b fun v => Tree.ret (v, ([] : Upd))).val = some (v, u)) : (id ∈ AV.ids (some v) ∨ id ∈ u.flatMap rowIds) = False := by
  have : Plain v u := by
    unfold binK at h
    split at h
    · split at h
      · unfold shiftK at h
        obtain ⟨_, h⟩ := br_val' h
        simp only [Tree.val, Option.some.injEq, Prod.mk.injEq] at h; obtain ⟨rfl, rfl⟩ := h; exact ⟨rfl, rfl⟩
      · unfold shiftK at h
        obtain ⟨_, h⟩ := br_val' h
        simp only [Tree.val, Option.some.injEq, Prod.mk.injEq] at h; obtain ⟨rfl, rfl⟩ := h; exact ⟨rfl, rfl⟩
      · obtain ⟨_, h⟩ := br_val h
        exact arith_plain h
    · unfold strK at h
      split at h <;> first
        | (simp only [Tree.val, Option.some.injEq, Prod.mk.injEq] at h; obtain ⟨rfl, rfl⟩ := h; exact ⟨rfl, rfl⟩)
        | (obtain ⟨_, h⟩ := br_val h; simp only [Tree.val, Option.some.injEq, Prod.mk.injEq] at h; obtain ⟨rfl, rfl⟩ := h; exact ⟨rfl, rfl⟩)
        | (simp [Tree.val] at h; done)
    · split at h <;> first
        | (simp only [Tree.val, Option.some.injEq, Prod.mk.injEq] at h; obtain ⟨rfl, rfl⟩ := h; exact ⟨rfl, rfl⟩)
        | (simp [Tree.val] at h; done)
    · split at h
      · obtain ⟨_, h⟩ := br_val h
        split at h <;> first
          | (simp only [Tree.val, Option.some.injEq, Prod.mk.injEq] at h; obtain ⟨rfl, rfl⟩ := h; exact ⟨rfl, rfl⟩)
          | (simp [Tree.val] at h; done)
      · simp [Tree.val] at h
    · simp [Tree.val] at h
  obtain ⟨h1, rfl⟩ := this
  simp [h1]
theorem sliceK_ids {rows : RT} {s : SV} {lo hi : Option Int} {v : AV} {u : Upd} (h : (sliceK rows s lo hi fun v => Tree.ret (v, ([] : Upd))).val = some (v, u)) : u = [] ∧ ∀ id ∈ AV.ids (some v), id ∈ s.ids := by
  unfold sliceK at h
  split at h
  · obtain ⟨_, h⟩ := br_val h
    split at h <;> first
      | (simp only [Tree.val, Option.some.injEq, Prod.mk.injEq] at h; obtain ⟨rfl, rfl⟩ := h; exact ⟨rfl, fun id hid => hid⟩)
      | (simp [Tree.val] at h; done)
  · simp [Tree.val] at h
theorem sliceOp_ids {rows : RT} {lo hi mx : Bool} {s : SV} {vs : List SV} {v : AV} {u : Upd} (h : (sliceOpK rows lo hi mx s vs fun v => Tree.ret (v, ([] : Upd))).val = some (v, u)) : u = [] ∧ ∀ id ∈ AV.ids (some v), id ∈ s.ids := by
  unfold sliceOpK at h
  split at h <;> first
    | exact sliceK_ids h
    | (obtain ⟨_, h⟩ := br_val h; simp only [Tree.val, Option.some.injEq, Prod.mk.injEq] at h; obtain ⟨rfl, rfl⟩ := h; exact ⟨rfl, fun id hid => by simp [AV.ids, SV.ids] at hid⟩)
    | (simp [Tree.val] at h; done)
theorem capsOf_sub : ∀ (avs : List (Option AV)) (ids : List Nat), capsOf avs = some ids → ∀ id ∈ ids, id ∈ idsOf avs := by
  intro avs
  induction avs with
  | nil =>
    intro ids h id hid
    simp only [capsOf, Option.some.injEq] at h
    subst h
    cases hid
  | cons x avs ih =>
    intro ids h id hid
    unfold capsOf at h
    split at h
    · rename_i h1; cases h1
    · rename_i i r h1
      simp only [List.cons.injEq] at h1
      obtain ⟨rfl, rfl⟩ := h1
      split at h
      · rename_i l hl
        simp only [Option.some.injEq] at h
        subst h
        rcases List.mem_cons.1 hid with e | hid
        · simp [idsOf, AV.ids, SV.ids, e]
        · have := ih l hl id hid
          simp only [idsOf, List.flatMap_cons, List.mem_append] at this ⊢
          exact .inr this
      · cases h
    · rename_i i t r h1
      simp only [List.cons.injEq] at h1
      obtain ⟨rfl, rfl⟩ := h1
      split at h
      · rename_i l hl
        simp only [Option.some.injEq] at h
        subst h
        rcases List.mem_cons.1 hid with e | hid
        · simp [idsOf, AV.ids, SV.ids, e]
        · have := ih l hl id hid
          simp only [idsOf, List.flatMap_cons, List.mem_append] at this ⊢
          exact .inr this
      · cases h
    · cases h
theorem gather_ids {rows : RT} (L : List (Nat × SV)) : ∀ (t : Ty) (o : Nat) (x : t.den) (is : List Nat), gather rows L t o = some (x, is) → ∀ id ∈ is, id ∈ leafIds L := by
  intro t
  have leaf : ∀ (t : Ty) (o : Nat) (x : t.den) (is : List Nat), (match look L o with | some s => toPure rows t s | none => none) = some (x, is) → ∀ id ∈ is, id ∈ leafIds L := by
    intro t o x is h id hid
    split at h
    · rename_i s hs
      exact leafIds_mem hs (toPure_sub h id hid)
    · cases h
  induction t with
  | unit =>
    intro o x is h id hid
    simp only [gather, Option.some.injEq, Prod.mk.injEq] at h
    obtain ⟨_, rfl⟩ := h
    cases hid
  | pair a b iha ihb =>
    intro o x is h id hid
    simp only [gather] at h
    split at h
    · rename_i x1 i1 h1
      split at h
      · rename_i x2 i2 h2
        simp only [Option.some.injEq, Prod.mk.injEq] at h
        obtain ⟨_, rfl⟩ := h
        rcases List.mem_append.1 hid with hid | hid
        · exact iha _ _ _ h1 id hid
        · exact ihb _ _ _ h2 id hid
      · cases h
    · cases h
  | int k => exact fun o x is h => leaf (.int k) o x is h
  | bool => exact fun o x is h => leaf .bool o x is h
  | str => exact fun o x is h => leaf .str o x is h
  | sl t _ => exact fun o x is h => leaf (.sl t) o x is h
  | fnc => exact fun o x is h => leaf .fnc o x is h
theorem leaves_ids : ∀ (t : Ty) (x : t.den) (o : Nat), leafIds (leaves t x o) = [] := by
  intro t
  induction t with
  | pair a b iha ihb => intro x o; have h1 := iha x.1 o; have h2 := ihb x.2 (o + a.nc); simp only [leaves, leafIds, List.flatMap_append] at h1 h2 ⊢; simp [h1, h2]
  | _ => intro x o; rfl
theorem putAV_ids {rows : RT} {L L' : List (Nat × SV)} {o : Nat} {t : Ty} {av : AV} (h : putAV rows L o t av = some L') : ∀ id ∈ leafIds L', id ∈ AV.ids (some av) ∨ id ∈ leafIds L := by
  intro id hid
  unfold putAV at h
  cases av with
  | one s =>
    simp only at h
    cases ha : t.isAgg with
    | true =>
      rw [ha] at h
      simp only [cond_true] at h
      split at h
      · split at h
        · cases h
          right
          rename_i y _
          have h1 := leaves_ids t y o
          simp only [leafIds, List.flatMap_append, List.mem_append] at hid h1 ⊢
          rw [h1] at hid
          exact hid.resolve_left (by simp)
        · cases h
      · cases h
    | false =>
      rw [ha] at h
      simp only [cond_false] at h
      cases hs : s.single rows with
      | false => rw [hs] at h; cases h
      | true =>
        rw [hs] at h
        cases h
        simpa [leafIds, AV.ids] using hid
  | tup l => cases h
  | agg t' M =>
    simp only at h
    cases hd : decide (t' = t) with
    | false => rw [hd] at h; cases h
    | true =>
      rw [hd] at h
      cases h
      simp only [leafIds, List.flatMap_append, List.mem_append] at hid
      rcases hid with hid | hid
      · left
        simp only [shiftL, List.flatMap_map] at hid
        exact hid
      · right
        have : ∀ L : List (Nat × SV), id ∈ (outL o (o + t.nc) L).flatMap (fun x => x.2.ids) → id ∈ L.flatMap (fun x => x.2.ids) := by
          intro L
          induction L with
          | nil => exact fun h => h
          | cons x L ih =>
            intro h
            simp only [outL] at h
            cases hb : (Nat.blt x.1 o || Nat.ble (o + t.nc) x.1) with
            | true =>
              rw [hb] at h
              simp only [cond_true, List.flatMap_cons, List.mem_append] at h ⊢
              exact h.imp (fun h => h) ih
            | false =>
              rw [hb] at h
              simp only [cond_false, List.flatMap_cons, List.mem_append] at h ⊢
              exact .inr (ih h)
        exact this L hid
theorem fillA_ids {rows : RT} {u : Ty} : ∀ {ps : List (Nat × SV)} {L L' : List (Nat × SV)}, fillA rows u L ps = some L' → ∀ id ∈ leafIds L', id ∈ leafIds L ∨ ∃ p ∈ ps, id ∈ p.2.ids := by
  intro ps
  induction ps with
  | nil => intro L L' h id hid; simp only [fillA, Option.some.injEq] at h; subst h; exact .inl hid
  | cons p ps ih =>
    intro L L' h id hid
    simp only [fillA] at h
    split at h
    · split at h
      · rename_i L1 hput
        rcases ih h id hid with h1 | ⟨q, h1, h2⟩
        · rcases putAV_ids hput id h1 with h2 | h2
          · exact .inr ⟨p, by simp, h2⟩
          · exact .inl h2
        · exact .inr ⟨q, by simp [h1], h2⟩
      · cases h
    · cases h
/-- Whatever an operation names was named before, or is new. -/
theorem aggArgs_ids {rows : RT} : ∀ {avs avs' : List (Option AV)} {more : List Nat}, aggArgs rows avs = some (avs', more) → (∀ i ∈ idsOf avs', i ∈ idsOf avs) ∧ ∀ i ∈ more, i ∈ idsOf avs := by
  intro avs
  induction avs with
  | nil =>
    intro avs' more h
    simp only [aggArgs, Option.some.injEq, Prod.mk.injEq] at h
    obtain ⟨rfl, rfl⟩ := h
    exact ⟨fun i h => h, fun i h => by cases h⟩
  | cons av avs ih =>
    intro avs' more h
    simp only [aggArgs] at h
    split at h
    · rename_i x i hx
      split at h
      · rename_i y j hy
        simp only [Option.some.injEq, Prod.mk.injEq] at h
        obtain ⟨rfl, rfl⟩ := h
        obtain ⟨h1, h2⟩ := ih hy
        have key : (∀ k ∈ AV.ids x, k ∈ AV.ids av) ∧ ∀ k ∈ i, k ∈ AV.ids av := by
          unfold aggArg at hx
          split at hx
          · rename_i t L
            split at hx
            · rename_i z is ha hgt
              simp only [Option.some.injEq, Prod.mk.injEq] at hx
              obtain ⟨rfl, rfl⟩ := hx
              exact ⟨fun k h => (by cases h), fun k h => gather_ids L t 0 z is hgt k h⟩
            · cases hx
          · cases hx; exact ⟨fun k h => h, fun k h => by cases h⟩
          · cases hx; exact ⟨fun k h => h, fun k h => by cases h⟩
          · cases hx; exact ⟨fun k h => h, fun k h => by cases h⟩
        refine ⟨fun k hk => ?_, fun k hk => ?_⟩
        · simp only [idsOf, List.flatMap_cons, List.mem_append] at hk ⊢
          exact hk.imp (key.1 k) (h1 k)
        · simp only [idsOf, List.flatMap_cons, List.mem_append] at hk ⊢
          exact hk.imp (key.2 k) (h2 k)
      · cases h
    · cases h
theorem put_ids {t more : Nat} {rows : RT} {m : SV} {a x : Int} {v : AV} {u : Upd} (h : (mapPutK E t rows m a x more fun v u => Tree.ret (v, u)).val = some (v, u)) :
    ∃ i, m = .mref i ∧ ∀ id, (id ∈ AV.ids (some v) ∨ id ∈ u.flatMap rowIds) → id = i := by
  unfold mapPutK at h
  split at h
  · rename_i i
    split at h
    · obtain ⟨_, h⟩ := br_val h
      simp only [Tree.val, Option.some.injEq, Prod.mk.injEq] at h
      obtain ⟨rfl, rfl⟩ := h
      exact ⟨i, rfl, fun id hid => by simpa [AV.ids, SV.ids, rowIds, leafIds] using hid⟩
    · simp [Tree.val] at h
  · simp [Tree.val] at h
theorem opT_refs {o : Oper} {avs : List (Option AV)} {rows : RT} {v : AV} {u : Upd} (h : (opT E o avs rows).val = some (v, u)) :
    ∀ id, (id ∈ AV.ids (some v) ∨ id ∈ u.flatMap rowIds) → id ∈ idsOf avs ∨ id ∈ newIds o ∨ Inner rows id := by
  obtain ⟨dst, op, ty, pos, af, gd⟩ := o
  intro id hid
  have nov : ∀ (t : Ty) (x : t.den), AV.ids (some (.one (.val t x))) = [] := fun _ _ => rfl
  cases op with
  | move x =>
    simp only [opT] at h
    split at h
    · simp only [Tree.val, Option.some.injEq, Prod.mk.injEq] at h
      obtain ⟨rfl, rfl⟩ := h
      left
      simpa [idsOf] using hid
    · simp [Tree.val] at h
  | assign x =>
    simp only [opT] at h
    split at h
    · simp only [Tree.val, Option.some.injEq, Prod.mk.injEq] at h
      obtain ⟨rfl, rfl⟩ := h
      left
      simpa [idsOf] using hid
    · simp [Tree.val] at h
  | pick c x y =>
    simp only [opT, pickK] at h
    split at h
    · simp only [Tree.val, Option.some.injEq, Prod.mk.injEq] at h
      obtain ⟨rfl, rfl⟩ := h
      simp [AV.ids, SV.ids] at hid
    · rename_i b p q _
      left
      cases b <;> simp only [Tree.val, cond_true, cond_false, Option.some.injEq, Prod.mk.injEq] at h <;> obtain ⟨rfl, rfl⟩ := h <;>
        simp only [List.flatMap_nil, List.not_mem_nil, or_false] at hid <;> simp [idsOf, hid]
    · simp [Tree.val] at h
  | alloc t =>
    simp only [opT, allocK] at h
    split at h
    · rename_i τ _
      cases hc : E.cells (dst.getD 1000000) with
      | true =>
        rw [hc] at h
        simp only [cond_true, Tree.val, Option.some.injEq, Prod.mk.injEq] at h
        obtain ⟨rfl, rfl⟩ := h
        right; left
        simpa [newIds, AV.ids, SV.ids, rowIds, zeroL_ids] using hid
      | false =>
        rw [hc] at h
        simp only [cond_false, Tree.val, Option.some.injEq, Prod.mk.injEq] at h
        obtain ⟨rfl, rfl⟩ := h
        right; left
        simpa [newIds, AV.ids, SV.ids, rowIds] using hid
    · simp [Tree.val] at h
  | box t x =>
    simp only [opT, boxK] at h
    split at h
    · rename_i s _
      split at h
      · rename_i x is hx
        split at h
        · rename_i fr hfr
          simp only [Tree.val, Option.some.injEq, Prod.mk.injEq] at h
          obtain ⟨rfl, rfl⟩ := h
          simp only [AV.ids, SV.ids, List.flatMap_cons, rowIds, List.mem_cons, List.cons_append, List.nil_append] at hid
          rcases hid with hid | hid | hid
          · right; left; simpa [newIds] using hid
          · right; left; simpa [newIds] using hid
          · left
            simpa [idsOf, AV.ids] using toPure_sub hx id (freeze_keys hfr id hid)
        · simp [Tree.val] at h
      · simp [Tree.val] at h
    · simp [Tree.val] at h
  | load t x =>
    simp only [opT] at h
    split at h
    · rename_i i u' off
      unfold vloadK at h
      split at h
      · rename_i τ r _ hr
        obtain ⟨_, h⟩ := br_val h
        split at h
        · rename_i L hk
          cases ha : u'.isAgg with
          | true =>
            rw [ha] at h
            simp only [cond_true] at h
            cases hcd : E.cells (dst.getD 1000000) with
            | true =>
              rw [hcd, cond_true] at h
              obtain ⟨_, h⟩ := br_val h
              simp only [Tree.val, Option.some.injEq, Prod.mk.injEq] at h
              obtain ⟨rfl, rfl⟩ := h
              simp only [AV.ids, List.flatMap_nil, List.not_mem_nil, or_false] at hid
              exact .inr (.inr ⟨i, r, L, hr, hk, hid⟩)
            | false =>
            rw [hcd, cond_false] at h
            split at h
            · rename_i y is hgt
              split at h
              · rename_i fr hfr
                simp only [Tree.val, Option.some.injEq, Prod.mk.injEq] at h
                obtain ⟨rfl, rfl⟩ := h
                simp only [AV.ids, SV.ids, List.not_mem_nil, false_or] at hid
                exact .inr (.inr ⟨i, r, L, hr, hk, gather_ids L u' off y is hgt id (freeze_keys hfr id hid)⟩)
              · simp [Tree.val] at h
            · simp [Tree.val] at h
          | false =>
            rw [ha] at h
            simp only [cond_false] at h
            split at h
            · simp [Tree.val] at h
            · rename_i s _ hs
              simp only [Tree.val, Option.some.injEq, Prod.mk.injEq] at h
              obtain ⟨rfl, rfl⟩ := h
              simp only [AV.ids, List.flatMap_nil, List.not_mem_nil, or_false] at hid
              exact .inr (.inr ⟨i, r, L, hr, hk, leafIds_mem hs hid⟩)
            · simp [Tree.val] at h
        · simp [Tree.val] at h
      · simp [Tree.val] at h
    simp only [one1] at h
    split at h
    · rename_i s
      unfold loadK at h
      split at h
      · obtain ⟨_, h⟩ := br_val h
        simp only [Tree.val, Option.some.injEq, Prod.mk.injEq] at h
        obtain ⟨rfl, rfl⟩ := h
        simp [AV.ids, SV.ids] at hid
      · split at h
        · split at h
          · obtain ⟨_, h⟩ := br_val h
            simp only [Tree.val, Option.some.injEq, Prod.mk.injEq] at h
            obtain ⟨rfl, rfl⟩ := h
            simp [AV.ids, SV.ids] at hid
          · simp [Tree.val] at h
        · simp [Tree.val] at h
      · simp [Tree.val] at h
    · simp [Tree.val] at h
  | store t x y =>
    simp only [opT] at h
    split at h
    · rename_i i u' off av
      unfold vstoreK at h
      split at h
      · rename_i τ r _ hr
        obtain ⟨_, h⟩ := br_val h
        split at h
        · rename_i L hk hl
          split at h
          · rename_i L' hput
            obtain ⟨_, h⟩ := br_val h
            simp only [Tree.val, Option.some.injEq, Prod.mk.injEq] at h
            obtain ⟨rfl, rfl⟩ := h
            simp only [AV.ids, List.flatMap_nil, List.not_mem_nil, false_or, List.flatMap_cons, List.append_nil, rowIds, List.mem_cons] at hid
            rcases hid with hid | hid
            · exact .inl (by simp [idsOf, AV.ids, SV.ids, hid])
            · rcases putAV_ids hput id hid with h | h
              · exact .inl (by simp [idsOf, h])
              · exact .inr (.inr ⟨i, r, L, hr, hk, h⟩)
          · simp [Tree.val] at h
        · simp [Tree.val] at h
      · simp [Tree.val] at h
    simp only [one2] at h
    split at h
    · rename_i s s'
      simp only [storeOpK] at h
      split at h
      · rename_i i0 j0 p0
        simp only [storeK] at h
        split at h
        · rename_i r _ hr
          split at h
          · simp [Tree.val] at h
          · simp [Tree.val] at h
          · rename_i x is hx _ _
            split at h
            · obtain ⟨_, h⟩ := br_val' h
              split at h
              · rename_i fr hfr
                simp only [Tree.val, Option.some.injEq, Prod.mk.injEq] at h
                obtain ⟨rfl, rfl⟩ := h
                simp only [AV.ids, List.flatMap_nil, List.not_mem_nil, false_or, List.flatMap_cons, List.mem_append] at hid
                rcases hid with hid | hid
                · rcases same_ids hr rfl hid with h | h
                  · left; simp [idsOf, AV.ids, SV.ids, h]
                  · exact .inr (.inr h)
                · left; simp [idsOf, AV.ids, toPure_sub hx id (freeze_keys hfr id hid)]
              · simp [Tree.val] at h
            · simp [Tree.val] at h
          · simp [Tree.val] at h
        · simp [Tree.val] at h
      · simp [Tree.val] at h
    · simp [Tree.val] at h
  | makeFunc f first caps =>
    simp only [opT, makeFuncK] at h
    split at h
    · rename_i g ids _ e2
      simp only [Tree.val, Option.some.injEq, Prod.mk.injEq] at h
      obtain ⟨rfl, rfl⟩ := h
      simp only [AV.ids, SV.ids, List.flatMap_nil, List.not_mem_nil, or_false] at hid
      exact .inl (capsOf_sub avs ids e2 id hid)
    · simp [Tree.val] at h
  | nilCheck x =>
    simp only [opT, one1] at h
    split at h
    · simp only [nilCheckK] at h
      split at h
      · simp only [Tree.val, Option.some.injEq, Prod.mk.injEq] at h
        obtain ⟨rfl, rfl⟩ := h
        simp [AV.ids, SV.ids] at hid
      · simp only [Tree.val, Option.some.injEq, Prod.mk.injEq] at h
        obtain ⟨rfl, rfl⟩ := h
        left; simpa [idsOf] using hid
      · split at h
        · simp only [Tree.val, Option.some.injEq, Prod.mk.injEq] at h
          obtain ⟨rfl, rfl⟩ := h
          left; simpa [idsOf] using hid
        · simp [Tree.val] at h
      · split at h
        · simp only [Tree.val, Option.some.injEq, Prod.mk.injEq] at h
          obtain ⟨rfl, rfl⟩ := h
          left; simpa [idsOf] using hid
        · simp [Tree.val] at h
      · simp only [Tree.val, Option.some.injEq, Prod.mk.injEq] at h
        obtain ⟨rfl, rfl⟩ := h
        left; simpa [idsOf] using hid
      · simp [Tree.val] at h
    · simp [Tree.val] at h
  | fieldAddr t x f =>
    simp only [opT, one1] at h
    split at h
    · simp only [fieldAddrK] at h
      split at h
      · obtain ⟨_, h⟩ := br_val h
        split at h
        · obtain ⟨_, h⟩ := br_val h
          simp only [Tree.val, Option.some.injEq, Prod.mk.injEq] at h
          obtain ⟨rfl, rfl⟩ := h
          simp [AV.ids, SV.ids] at hid
        · simp [Tree.val] at h
      · split at h
        · split at h
          · obtain ⟨_, h⟩ := br_val h
            split at h
            · obtain ⟨_, h⟩ := br_val h
              simp only [Tree.val, Option.some.injEq, Prod.mk.injEq] at h
              obtain ⟨rfl, rfl⟩ := h
              left
              simpa [idsOf, AV.ids, SV.ids] using hid
            · simp [Tree.val] at h
          · simp [Tree.val] at h
        · simp [Tree.val] at h
      · split at h
        · obtain ⟨_, h⟩ := br_val h
          split at h
          · obtain ⟨_, h⟩ := br_val h
            simp only [Tree.val, Option.some.injEq, Prod.mk.injEq] at h
            obtain ⟨rfl, rfl⟩ := h
            left
            simpa [idsOf, AV.ids, SV.ids] using hid
          · simp [Tree.val] at h
        · simp [Tree.val] at h
      · simp [Tree.val] at h
    · simp [Tree.val] at h
  | field t x f =>
    simp only [opT, fieldK] at h
    split at h
    · obtain ⟨_, h⟩ := br_val h
      split at h
      · simp only [Tree.val, Option.some.injEq, Prod.mk.injEq] at h
        obtain ⟨rfl, rfl⟩ := h
        simp [AV.ids, SV.ids] at hid
      · simp [Tree.val] at h
    · simp [Tree.val] at h
  | indexAddr t x y =>
    simp only [opT, one2] at h
    split at h
    · rename_i s s'
      simp only [intK] at h
      split at h
      · unfold indexAddrK at h
        split at h
        · obtain ⟨_, h⟩ := br_val h
          obtain ⟨_, _, h⟩ := bnd_val h
          simp only [Tree.val, Option.some.injEq, Prod.mk.injEq] at h
          obtain ⟨rfl, rfl⟩ := h
          simp [AV.ids, SV.ids] at hid
        · split at h
          · obtain ⟨_, h⟩ := br_val h
            obtain ⟨_, h⟩ := br_val h
            simp only [Tree.val, Option.some.injEq, Prod.mk.injEq] at h
            obtain ⟨rfl, rfl⟩ := h
            left
            simpa [idsOf, AV.ids, SV.ids] using hid
          · simp [Tree.val] at h
        · split at h
          · obtain ⟨_, h⟩ := br_val h
            obtain ⟨_, h⟩ := br_val h
            simp only [Tree.val, Option.some.injEq, Prod.mk.injEq] at h
            obtain ⟨rfl, rfl⟩ := h
            left
            simpa [idsOf, AV.ids, SV.ids] using hid
          · simp [Tree.val] at h
        · split at h
          · obtain ⟨_, h⟩ := br_val h
            obtain ⟨_, h⟩ := br_val h
            simp only [Tree.val, Option.some.injEq, Prod.mk.injEq] at h
            obtain ⟨rfl, rfl⟩ := h
            left
            simpa [idsOf, AV.ids, SV.ids] using hid
          · simp [Tree.val] at h
        · simp [Tree.val] at h
      · simp [Tree.val] at h
    · simp [Tree.val] at h
  | index t x y =>
    simp only [opT, indexK] at h
    split at h
    · obtain ⟨_, _, h⟩ := bnd_val h
      simp only [Tree.val, Option.some.injEq, Prod.mk.injEq] at h
      obtain ⟨rfl, rfl⟩ := h
      simp [AV.ids, SV.ids] at hid
    · simp [Tree.val] at h
  | extract x i =>
    simp only [opT, extractK] at h
    split at h
    · split at h
      · rename_i s hs
        simp only [Tree.val, Option.some.injEq, Prod.mk.injEq] at h
        obtain ⟨rfl, rfl⟩ := h
        left
        simp only [AV.ids, List.flatMap_nil, List.not_mem_nil, or_false] at hid
        simp only [idsOf, List.flatMap_cons, List.flatMap_nil, List.append_nil, AV.ids]
        exact List.mem_flatMap.2 ⟨s, List.mem_of_getElem? hs, hid⟩
      · simp [Tree.val] at h
    · simp [Tree.val] at h
  | binOp op xT x y yT =>
    simp only [opT, one2] at h
    cases hn : isNilC y with
    | true =>
      rw [hn, cond_true] at h
      split at h
      · simp only [nilK] at h
        split at h <;> first
          | (simp only [Tree.val, Option.some.injEq, Prod.mk.injEq] at h; obtain ⟨rfl, rfl⟩ := h; simp [AV.ids, SV.ids] at hid; done)
          | simp [Tree.val] at h
      · simp [Tree.val] at h
    | false =>
    rw [hn, cond_false] at h
    split at h
    · exact absurd hid (by rw [bin_ids h]; simp)
    · simp [Tree.val] at h
  | unOp op xT x =>
    simp only [opT, one1] at h
    split at h
    · simp only [unK] at h
      split at h <;> first
        | (simp only [Tree.val, Option.some.injEq, Prod.mk.injEq] at h; obtain ⟨rfl, rfl⟩ := h; simp [AV.ids, SV.ids] at hid; done)
        | simp [Tree.val] at h
    · simp [Tree.val] at h
  | convert s d x =>
    simp only [opT, one1] at h
    split at h
    · simp only [convK] at h
      split at h <;> first
        | (simp only [Tree.val, Option.some.injEq, Prod.mk.injEq] at h; obtain ⟨rfl, rfl⟩ := h; simp [AV.ids, SV.ids] at hid; done)
        | simp [Tree.val] at h
    · simp [Tree.val] at h
  | build t ps =>
    simp only [opT] at h
    cases hc : E.cells (dst.getD 1000000) with
    | true =>
      rw [hc] at h
      simp only [cond_true, buildAK] at h
      split at h
      · rename_i τ vs _ ho
        obtain ⟨_, h⟩ := br_val h
        split at h
        · rename_i L hL
          simp only [Tree.val, Option.some.injEq, Prod.mk.injEq] at h
          obtain ⟨rfl, rfl⟩ := h
          simp only [AV.ids, List.flatMap_nil, List.not_mem_nil, or_false] at hid
          left
          rw [← ones_ids ho]
          rcases fillA_ids hL id hid with h | h
          · rw [zeroL_ids] at h; cases h
          · exact zip_ids h
        · simp [Tree.val] at h
      · simp [Tree.val] at h
    | false =>
    rw [hc] at h
    simp only [cond_false, buildK] at h
    split at h
    · rename_i vs _ ho
      obtain ⟨_, h⟩ := br_val h
      split at h
      · rename_i x is hx
        split at h
        · rename_i fr hfr
          simp only [Tree.val, Option.some.injEq, Prod.mk.injEq] at h
          obtain ⟨rfl, rfl⟩ := h
          simp only [AV.ids, SV.ids, List.not_mem_nil, false_or] at hid
          left
          rw [← ones_ids ho]
          exact zip_ids (fillP_ids hx id (freeze_keys hfr id hid))
        · simp [Tree.val] at h
      · simp [Tree.val] at h
    · simp [Tree.val] at h
  | buildSlice t n ps =>
    simp only [opT, buildSliceK] at h
    split at h
    · rename_i vs _ ho
      obtain ⟨_, h⟩ := br_val h
      split at h
      · rename_i x is hx
        split at h
        · rename_i fr hfr
          simp only [Tree.val, Option.some.injEq, Prod.mk.injEq] at h
          obtain ⟨rfl, rfl⟩ := h
          simp only [AV.ids, SV.ids, List.flatMap_cons, rowIds, List.mem_cons, List.cons_append, List.nil_append] at hid
          rcases hid with hid | hid | hid
          · right; left; simpa [newIds] using hid
          · right; left; simpa [newIds] using hid
          · left
            rw [← ones_ids ho]
            exact zip_ids (fillL_ids hx id (freeze_keys hfr id hid))
        · simp [Tree.val] at h
      · simp [Tree.val] at h
    · simp [Tree.val] at h
  | makeSlice t x y =>
    simp only [opT, one2] at h
    split at h
    · simp only [intK] at h
      split at h
      · split at h
        · simp only [makeSliceK] at h
          split at h
          · obtain ⟨_, h⟩ := br_val h
            simp only [Tree.val, Option.some.injEq, Prod.mk.injEq] at h
            obtain ⟨rfl, rfl⟩ := h
            right; left
            simpa [newIds, AV.ids, SV.ids, rowIds] using hid
          · simp [Tree.val] at h
        · simp [Tree.val] at h
      · simp [Tree.val] at h
    · simp [Tree.val] at h
  | slice t x lo hi mx =>
    simp only [opT, sliceOpT] at h
    split at h
    · rename_i s vs ho
      obtain ⟨_, h⟩ := br_val h
      left
      rw [← ones_ids ho, List.flatMap_cons]
      obtain ⟨rfl, h1⟩ := sliceOp_ids h
      simp only [List.flatMap_nil, List.not_mem_nil, or_false] at hid
      exact List.mem_append_left _ (h1 id hid)
    · simp [Tree.val] at h
  | call c =>
    obtain ⟨cal, args, tys⟩ := c
    cases cal with
    | invoke r n => simp [opT, callOpK, Tree.val] at h
    | builtin b =>
      cases b with
      | len =>
        simp only [opT, callOpK, one1] at h
        split at h
        · obtain ⟨_, h⟩ := br_val h
          simp only [lenK] at h
          split at h
          · simp only [Tree.val, Option.some.injEq, Prod.mk.injEq] at h
            obtain ⟨rfl, rfl⟩ := h
            simp [AV.ids, SV.ids] at hid
          · simp [Tree.val] at h
        · simp [Tree.val] at h
      | append =>
        simp only [opT, callOpK, one2] at h
        split at h
        · rename_i s x
          obtain ⟨_, h⟩ := br_val h
          simp only [appendK] at h
          split at h
          · split at h
            · rename_i xs l u0 hx hb
              obtain ⟨_, h⟩ := br_val h
              simp only [Tree.val, Option.some.injEq, Prod.mk.injEq] at h
              obtain ⟨rfl, rfl⟩ := h
              simp only [AV.ids, SV.ids, List.flatMap_cons, rowIds, List.mem_cons, List.cons_append, List.nil_append] at hid
              rcases hid with hid | hid | hid
              · right; left; simpa [newIds] using hid
              · right; left; simpa [newIds] using hid
              · left
                simp only [idsOf, List.flatMap_cons, AV.ids, List.mem_append]
                exact .inl (base_ids hb id hid)
            · simp [Tree.val] at h
          · simp [Tree.val] at h
        · simp [Tree.val] at h
      | max =>
        simp only [opT, callOpK, one2] at h
        split at h
        · unfold mmK at h
          split at h
          · obtain ⟨_, h⟩ := br_val h
            simp only [Tree.val, Option.some.injEq, Prod.mk.injEq] at h
            obtain ⟨rfl, rfl⟩ := h
            simp [AV.ids, SV.ids] at hid
          · simp [Tree.val] at h
        · simp [Tree.val] at h
      | min =>
        simp only [opT, callOpK, one2] at h
        split at h
        · unfold mmK at h
          split at h
          · obtain ⟨_, h⟩ := br_val h
            simp only [Tree.val, Option.some.injEq, Prod.mk.injEq] at h
            obtain ⟨rfl, rfl⟩ := h
            simp [AV.ids, SV.ids] at hid
          · simp [Tree.val] at h
        · simp [Tree.val] at h
      | clear =>
        simp only [opT, callOpK, one1] at h
        split at h
        · obtain ⟨_, h⟩ := br_val h
          unfold clearK at h
          split at h
          · split at h
            · rename_i r hr
              split at h
              · simp [Tree.val] at h
              · simp [Tree.val] at h
              · obtain ⟨_, h⟩ := br_val h
                simp only [Tree.val, Option.some.injEq, Prod.mk.injEq] at h
                obtain ⟨rfl, rfl⟩ := h
                simp only [AV.ids, List.flatMap_nil, List.not_mem_nil, false_or, List.flatMap_cons, List.append_nil] at hid
                rcases same_ids hr rfl hid with h | h
                · left; simp [idsOf, AV.ids, SV.ids, h]
                · exact .inr (.inr h)
            · simp [Tree.val] at h
          · simp [Tree.val] at h
        · simp [Tree.val] at h
      | copy =>
        simp only [opT, callOpK, one2] at h
        split at h
        · rename_i s x
          obtain ⟨_, h⟩ := br_val h
          have go : ∀ i lo len, (copyGo E (tys.toList.headD 0) rows x i lo len fun v u => Tree.ret (v, u)).val = some (v, u) → id = i ∨ Inner rows id := by
            intro i lo len h
            unfold copyGo at h
            split at h
            · rename_i τ r _ hr
              split at h
              · simp [Tree.val] at h
              · simp [Tree.val] at h
              · split at h
                · obtain ⟨_, h⟩ := br_val h
                  simp only [Tree.val, Option.some.injEq, Prod.mk.injEq] at h
                  obtain ⟨rfl, rfl⟩ := h
                  simp only [AV.ids, SV.ids, List.not_mem_nil, false_or, List.flatMap_cons, List.flatMap_nil, List.append_nil] at hid
                  exact same_ids hr rfl hid
                · simp [Tree.val] at h
            · simp [Tree.val] at h
          unfold copyK at h
          split at h
          · split at h
            · rcases go _ _ _ h with h | h
              · left; simp [idsOf, AV.ids, SV.ids, h]
              · exact .inr (.inr h)
            · simp [Tree.val] at h
          · rcases go _ _ _ h with h | h
            · left; simp [idsOf, AV.ids, SV.ids, h]
            · exact .inr (.inr h)
          · simp [Tree.val] at h
        · simp [Tree.val] at h
      | delete =>
        simp only [opT, callOpK, one2] at h
        split at h
        · rename_i s x
          obtain ⟨_, h⟩ := br_val h
          unfold deleteK at h
          split at h
          · obtain ⟨i, rfl, hq⟩ := put_ids h
            left; simp [idsOf, AV.ids, SV.ids, hq id hid]
          · simp [Tree.val] at h
        · simp [Tree.val] at h
      | _ => simp [opT, callOpK, Tree.val] at h
    | value fo =>
      have go : ∀ (f : Nat) (svs : List SV) (more : List Nat), (∀ i ∈ svs.flatMap SV.ids, i ∈ idsOf avs) → (∀ i ∈ more, i ∈ idsOf avs) → (callK E (dst.getD 1000000) f rows more svs fun v u => Tree.ret (v, u)).val = some (v, u) →
          id ∈ idsOf avs ∨ id ∈ newIds ⟨dst, .call ⟨.value fo, args, tys⟩, ty, pos, af, gd⟩ ∨ Inner rows id := by
        intro f svs more hsv hmr h
        unfold callK at h
        split at h
        · rename_i s _
          cases hm0 : more.isEmpty with
          | false => rw [hm0] at h; simp [Tree.val] at h
          | true =>
            rw [hm0, cond_true] at h
            unfold svK at h
            split at h
            · rename_i id0 τ u' x
              split at h
              · rename_i r y hr hy
                split at h
                · rename_i L hk hl
                  split at h
                  · rename_i j g h0 h1
                    split at h
                    · rename_i rj hj
                      split at h
                      · rename_i l hkj hc
                        obtain ⟨_, h⟩ := br_val h
                        obtain ⟨m, hm, h⟩ := bnd_val h
                        simp only [Tree.val, Option.some.injEq, Prod.mk.injEq] at h
                        obtain ⟨rfl, rfl⟩ := h
                        have i0 : id0 ∈ idsOf avs := hsv id0 (by simp [SV.ids])
                        have hin : Inner rows j := ⟨id0, r, L, hr, hk, leafIds_mem h0 (by simp [SV.ids])⟩
                        have hnw : dst.getD 1000000 ∈ newIds ⟨dst, .call ⟨.value fo, args, tys⟩, ty, pos, af, gd⟩ := by
                          have := new_mem (f := ⟨dst, .call ⟨.value fo, args, tys⟩, ty, pos, af, gd⟩) (d := dst.getD 1000000) (j := 0) (by omega) rfl rfl
                          simpa using this
                        simp only [AV.ids, List.flatMap_nil, List.flatMap_cons, List.append_nil, rowIds, leafIds, SV.ids, List.mem_append, List.mem_cons, List.not_mem_nil, or_false] at hid
                        rcases hid with hid | (hid | hid) | hid | hid
                        · exact hid.elim
                        · exact .inl (hid ▸ i0)
                        · exact .inr (.inl (hid ▸ hnw))
                        · exact .inr (.inl (hid ▸ hnw))
                        · exact .inr (.inr (hid ▸ hin))
                      · simp [Tree.val] at h
                    · simp [Tree.val] at h
                  · simp [Tree.val] at h
                · simp [Tree.val] at h
              · simp [Tree.val] at h
            · simp [Tree.val] at h
        split at h
        · rename_i sig hsig
          split at h
          · rename_i b hb
            obtain ⟨h0, h⟩ := br_val h
            simp only [Bool.and_eq_true, decide_eq_true_eq, List.all_eq_true, Bool.not_eq_true'] at h0
            split at h
            · rename_i fr hfr
              obtain ⟨y, hy, h⟩ := bnd_val h
              split at h
              · rename_i o' ho'
                simp only [Tree.val, Option.some.injEq, Prod.mk.injEq] at h
                obtain ⟨rfl, rfl⟩ := h
                have hargs : ∀ id, id ∈ b.reads ∨ id ∈ b.outs → id ∈ idsOf avs ∨ Inner rows id := by
                  intro id hid
                  rcases bind_outs _ _ _ hb id hid with h | h
                  · exact .inl (hsv id h)
                  · exact .inr h.2
                have hnew : ∀ j, 0 ≤ j ∧ j < 0 + sig.rs.length → dst.getD 1000000 + 4096 * j ∈ newIds ⟨dst, .call ⟨.value fo, args, tys⟩, ty, pos, af, gd⟩ :=
                  fun j hj => new_mem (by omega) rfl rfl
                rw [packAV_ids] at hid
                simp only [List.flatMap_append, List.mem_append] at hid
                rcases hid with hid | (hid | hid) | hid
                · obtain ⟨j, h1, h2, rfl⟩ := res_ids _ _ _ _ _ id (.inl hid)
                  exact .inr (.inl (hnew j ⟨h1, h2⟩))
                · obtain ⟨j, h1, h2, rfl⟩ := res_ids _ _ _ _ _ id (.inr hid)
                  exact .inr (.inl (hnew j ⟨h1, h2⟩))
                · rcases outs_keys _ _ _ _ ho' id hid with h | h
                  · exact (hargs id (.inr h)).imp (fun h => h) .inr
                  · exact .inr (.inr h)
                · cases hal : sig.alias with
                  | true =>
                    rw [hal] at hfr
                    exact (List.mem_append.1 (freeze_keys hfr id hid)).elim (fun h => (hargs id (.inl h)).imp (fun h => h) .inr) (fun h => .inl (hmr id h))
                  | false =>
                    rw [hal] at hfr
                    simp only [cond_false, Option.some.injEq] at hfr
                    subst hfr
                    simp at hid
              · simp [Tree.val] at h
            · simp [Tree.val] at h
          · simp [Tree.val] at h
        · simp [Tree.val] at h
      simp only [opT, callOpK] at h
      split at h
      rotate_left
      · simp [Tree.val] at h
      rename_i avs' more hag
      obtain ⟨q1, q2⟩ := aggArgs_ids hag
      split at h
      · rename_i f caps vs ho
        refine go f _ more (fun i hi => q1 i ?_) q2 h
        rw [← ones_ids ho, List.flatMap_cons]
        rw [List.flatMap_append] at hi
        rcases List.mem_append.1 hi with hi | hi
        · exact List.mem_append_right _ hi
        · refine List.mem_append_left _ ?_
          obtain ⟨s, h1, h2⟩ := List.mem_flatMap.1 hi
          obtain ⟨c, h3, rfl⟩ := List.mem_map.1 h1
          have : i = c := by
            unfold capSV at h2
            split at h2
            · split at h2 <;> simpa [SV.ids] using h2
            · simpa [SV.ids] using h2
          subst this
          exact h3
      · rename_i f l vs ho
        refine go f _ more (fun i hi => q1 i ?_) q2 h
        rw [← ones_ids ho, List.flatMap_cons]
        rw [List.flatMap_append] at hi
        rcases List.mem_append.1 hi with hi | hi
        · exact List.mem_append_right _ hi
        · obtain ⟨s, h1, h2⟩ := List.mem_flatMap.1 hi
          obtain ⟨c, h3, rfl⟩ := List.mem_map.1 h1
          simp [SV.ids] at h2
      · simp [Tree.val] at h
  | makeMap t r =>
    cases r with
    | none =>
      simp only [opT, makeMapK] at h
      obtain ⟨_, h⟩ := br_val h
      simp only [Tree.val, Option.some.injEq, Prod.mk.injEq] at h
      obtain ⟨rfl, rfl⟩ := h
      right; left
      simpa [AV.ids, SV.ids, rowIds, leafIds, newIds] using hid
    | some r => simp [opT, Tree.val] at h
  | lookup t x y c =>
    cases c with
    | false =>
      simp only [opT, one2] at h
      split at h
      · unfold lookupK at h
        split at h
        · split at h
          · obtain ⟨_, h⟩ := br_val h
            simp only [Tree.val, Option.some.injEq, Prod.mk.injEq] at h
            obtain ⟨rfl, rfl⟩ := h
            simp [AV.ids, SV.ids] at hid
          · simp [Tree.val] at h
        · simp [Tree.val] at h
      · simp [Tree.val] at h
    | true => simp [opT, Tree.val] at h
  | mapUpdate t x y z =>
    simp only [opT] at h
    unfold mapUpdateK at h
    split at h
    · obtain ⟨i, rfl, hq⟩ := put_ids h
      left; simp [idsOf, AV.ids, SV.ids, hq id hid]
    · simp [Tree.val] at h
  | _ => simp [opT, Tree.val] at h
end Go.Lift
namespace Go.Lift
open Go
variable {P : Program} {E : Env}
structure Same (st st' : ASt) : Prop where
  slot : ∀ i, st.slot i = st'.slot i
  row : ∀ id, st.row id = st'.row id
theorem Same.refl (st : ASt) : Same st st := ⟨fun _ => rfl, fun _ => rfl⟩
theorem Same.symm {a b : ASt} (h : Same a b) : Same b a := ⟨fun i => (h.slot i).symm, fun i => (h.row i).symm⟩
theorem Same.trans {a b c : ASt} (h : Same a b) (h' : Same b c) : Same a c := ⟨fun i => (h.slot i).trans (h'.slot i), fun i => (h.row i).trans (h'.row i)⟩
theorem Same.good {C : Entry} {w : World} {S : Nat → Prop} {γ : Gam} {st st' : ASt} {tmps : Array Value} (h : Same st st') (hg : Good C w S γ st tmps) : Good C w S γ st' tmps :=
  hg.same (fun i => (h.slot i).symm) (fun i => (h.row i).symm)
theorem Same.put_same {st : ASt} {g : Nat} {v : AV} (h : st.slot g = some v) : Same (st.put (some g) v) st := by
  refine ⟨fun i => ?_, fun id => ASt.row_put _ _ _ _⟩
  rw [ASt.slot_put]
  split
  · rename_i e; rw [← e, h]
  · rfl
theorem Same.ev {st st' : ASt} (h : Same st st') (x : Operand) : st.ev x = st'.ev x := by
  cases x <;> simp [ASt.ev, h.slot]
theorem Same.avs {st st' : ASt} (h : Same st st') (o : Oper) : st.avs o = st'.avs o := by
  unfold ASt.avs
  exact List.map_congr_left fun x _ => h.ev x
/-- What an operation looks at is told by its operands and by the rows that it looks at. -/
theorem rdOf_congr {st st' : ASt} {o : Oper} (ha : st'.avs o = st.avs o) (hr : ∀ id ∈ rdOf st o, st'.row id = st.row id) : rdOf st' o = rdOf st o := by
  have inner : ∀ id, id ∈ rdOf st o → st'.inner id = st.inner id := by
    intro id h
    unfold ASt.inner
    rw [hr id h]
  unfold rdOf at hr inner ⊢
  cases hop : o.op with
  | load t x =>
    rw [hop] at inner
    simp only at inner ⊢
    rw [ha]
    split
    · rename_i id t' off he
      rw [he] at inner
      rw [inner id (by simp)]
    · rfl
  | call c =>
    rw [hop] at inner
    simp only at inner ⊢
    rw [ha]
    congr 1
    have key : ∀ l : List Nat, (∀ i ∈ l, i ∈ idsOf (st.avs o)) → l.flatMap st'.inner = l.flatMap st.inner := by
      intro l
      induction l with
      | nil => intro _; rfl
      | cons a l ih =>
        intro h
        rw [List.flatMap_cons, List.flatMap_cons, inner a (List.mem_append_left _ (h a (by simp))), ih (fun i hi => h i (List.mem_cons_of_mem _ hi))]
    exact key _ (fun _ h => h)
  | move x => rfl
  | assign x => rfl
  | _ => simp only [ha]
theorem Same.rdOf {st st' : ASt} (h : Same st st') (o : Oper) (ha : st.avs o = st'.avs o) : Lift.rdOf st o = Lift.rdOf st' o :=
  rdOf_congr ha (fun id _ => h.row id)
theorem Same.rowsOf {st st' : ASt} (h : Same st st') (ids : List Nat) : rowsOf st ids = rowsOf st' ids := by
  funext id
  simp [Lift.rowsOf, h.row]
structure Stp where
  v : AV
  u : Upd
  run : Bool
def stepSt (o : Oper) (s : Stp) (st : ASt) : ASt := (st.upd s.u).put o.dst s.v
theorem Same.step {st st' : ASt} (h : Same st st') (o : Oper) (s : Stp) : Same (stepSt o s st) (stepSt o s st') := by
  unfold stepSt
  refine ⟨fun i => ?_, fun id => ?_⟩
  · cases o.dst with
    | none => exact h.slot i
    | some d => simp only [ASt.slot_put, ASt.slot_upd, h.slot]
  · simp only [ASt.row_put, ASt.row_upd, h.row]
def WantedA (ops : List Oper) (o : Oper) (st : ASt) (b : Bool) : Prop :=
  match o.guard with
  | none => b = true
  | some (_, want) => ∃ g, guardTmp ops o = some g ∧ ((∃ x, st.slot g = some (.one (.val .bool x)) ∧ b = (x == want)) ∨ (st.slot g = some (.one .und) ∧ b = false))
def StepOk (E : Env) (ops : List Oper) (o : Oper) (st : ASt) (s : Stp) : Prop :=
  WantedA ops o st s.run ∧ ((s.run = true ∧ (opT E o (st.avs o) (rowsOf st (rdOf st o))).val = some (s.v, s.u)) ∨ (s.run = false ∧ s.v = .one .und ∧ s.u = []))
def accOf (ops : List Oper) (o : Oper) (st : ASt) (s : Stp) : Acc :=
  cond s.run ⟨(guardTmp ops o).toList ++ tmpsOf (operandsL o.op), o.dst.toList, rdOf st o, s.u.map (·.1), stoOf o (st.avs o)⟩ ⟨(guardTmp ops o).toList, o.dst.toList, [], [], none⟩
theorem WantedA.same {ops : List Oper} {o : Oper} {st st' : ASt} {b : Bool} (h : Same st st') (hw : WantedA ops o st b) : WantedA ops o st' b := by
  unfold WantedA at *
  split at hw
  · exact hw
  · obtain ⟨g, h1, h2⟩ := hw
    exact ⟨g, h1, by rw [← h.slot]; exact h2⟩
theorem StepOk.same {ops : List Oper} {o : Oper} {st st' : ASt} {s : Stp} (h : Same st st') (hs : StepOk E ops o st s) : StepOk E ops o st' s := by
  refine ⟨hs.1.same h, ?_⟩
  rw [← h.rdOf o (h.avs o), ← h.avs, ← h.rowsOf]
  exact hs.2
theorem accOf_same {ops : List Oper} {o : Oper} {st st' : ASt} {s : Stp} (h : Same st st') : accOf ops o st s = accOf ops o st' s := by
  unfold accOf
  rw [h.rdOf o (h.avs o), h.avs]
def Runs (E : Env) (ops : List Oper) : List Oper → ASt → List Stp → List Acc → ASt → Prop
  | [], st, [], [], st' => Same st st'
  | o :: l, st, s :: ss, a :: as, st' => StepOk E ops o st s ∧ a = accOf ops o st s ∧ Runs E ops l (stepSt o s st) ss as st'
  | _, _, _, _, _ => False
theorem Runs.same {ops : List Oper} : ∀ {l : List Oper} {st st2 : ASt} {ss : List Stp} {as : List Acc} {st' : ASt}, Same st st2 → Runs E ops l st ss as st' → Runs E ops l st2 ss as st' := by
  intro l
  induction l with
  | nil =>
    intro st st2 ss as st' h hr
    match ss, as, hr with
    | [], [], hr => exact h.symm.trans hr
    | [], _ :: _, hr => exact hr.elim
    | _ :: _, _, hr => exact hr.elim
  | cons o l ih =>
    intro st st2 ss as st' h hr
    match ss, as, hr with
    | s :: ss, a :: as, ⟨h1, h2, h3⟩ => exact ⟨h1.same h, h2.trans (accOf_same h), ih (h.step o s) h3⟩
    | [], _, hr => exact hr.elim
    | _ :: _, [], hr => exact hr.elim
theorem opsK_runs {R : Type} {ops : List Oper} {r : R} : ∀ (l : List Oper) (st : ASt) (tr : List Acc) (c : ASt → List Acc → Option R), opsK E ops l st tr c = some r →
    ∃ ss as st', Runs E ops l st ss as st' ∧ c st' (as.reverse ++ tr) = some r := by
  intro l
  induction l with
  | nil => intro st tr c h; exact ⟨[], [], st, Same.refl st, h⟩
  | cons o l ih =>
    intro st tr c h
    simp only [opsK] at h
    have run : ∀ st0 : ASt, Same st0 st → WantedA ops o st true →
        (opT E o (st0.avs o) (rowsOf st0 (rdOf st0 o))).runK (fun p =>
          opsK E ops l ((st0.upd p.2).put o.dst p.1) (⟨(guardTmp ops o).toList ++ tmpsOf (operandsL o.op), o.dst.toList, rdOf st0 o, p.2.map (·.1), stoOf o (st0.avs o)⟩ :: tr) c) = some r →
        ∃ ss as st', Runs E ops (o :: l) st ss as st' ∧ c st' (as.reverse ++ tr) = some r := by
      intro st0 hs hw h
      rw [Tree.runK_eq] at h
      cases hv : (opT E o (st0.avs o) (rowsOf st0 (rdOf st0 o))).val with
      | none => rw [hv] at h; cases h
      | some p =>
        rw [hv] at h
        obtain ⟨v, u⟩ := p
        obtain ⟨ss, as, st', h1, h2⟩ := ih _ _ _ h
        refine ⟨⟨v, u, true⟩ :: ss, _ :: as, st', ⟨⟨hw, .inl ⟨rfl, ?_⟩⟩, rfl, h1.same (hs.step o ⟨v, u, true⟩)⟩, ?_⟩
        · rw [← hs.rdOf o (hs.avs o), ← hs.avs, ← hs.rowsOf]; exact hv
        · rw [List.reverse_cons, List.append_assoc]
          simp only [accOf, cond_true, List.cons_append, List.nil_append]
          rw [← hs.rdOf o (hs.avs o), ← hs.avs]
          exact h2
    have skip : ∀ st0 : ASt, Same st0 st → WantedA ops o st false → ∀ g, guardTmp ops o = some g →
        opsK E ops l (st0.put o.dst (.one .und)) (⟨[g], o.dst.toList, [], [], none⟩ :: tr) c = some r →
        ∃ ss as st', Runs E ops (o :: l) st ss as st' ∧ c st' (as.reverse ++ tr) = some r := by
      intro st0 hs hw g hg h
      obtain ⟨ss, as, st', h1, h2⟩ := ih _ _ _ h
      refine ⟨⟨.one .und, [], false⟩ :: ss, _ :: as, st', ⟨⟨hw, .inr ⟨rfl, rfl, rfl⟩⟩, rfl, h1.same (hs.step o ⟨.one .und, [], false⟩)⟩, ?_⟩
      rw [List.reverse_cons, List.append_assoc]
      simp only [accOf, cond_false, List.cons_append, List.nil_append, hg, Option.toList]
      exact h2
    cases hgd : o.guard with
    | none =>
      rw [hgd] at h
      exact run st (Same.refl st) (by simp [WantedA, hgd]) h
    | some gw =>
      obtain ⟨j, want⟩ := gw
      rw [hgd] at h
      simp only at h
      cases hgt : guardTmp ops o with
      | none => rw [hgt] at h; cases h
      | some g =>
        simp only [hgt] at h
        split at h
        · rename_i b hb
          have wa : ∀ x, x = (b == want) → WantedA ops o st x := fun x hx => by
            simp only [WantedA, hgd]
            exact ⟨g, hgt, .inl ⟨b, hb, hx⟩⟩
          cases want <;> cases b <;> simp only [cond_true, cond_false, Bool.not_true, Bool.not_false] at h
          · exact run _ (Same.put_same hb) (wa _ rfl) (by rw [hgt]; exact h)
          · exact skip _ (Same.put_same hb) (wa _ rfl) g hgt h
          · exact skip _ (Same.put_same hb) (wa _ rfl) g hgt h
          · exact run _ (Same.put_same hb) (wa _ rfl) (by rw [hgt]; exact h)
        · rename_i hb
          exact skip st (Same.refl st) (by simp only [WantedA, hgd]; exact ⟨g, hgt, .inr ⟨hb, trivial⟩⟩) g hgt h
        · cases h
theorem avs_refs {st : ASt} {o : Oper} : ∀ id ∈ idsOf (st.avs o), id ∈ st.refs := by
  intro id hid
  unfold idsOf ASt.avs at hid
  obtain ⟨av, h1, h2⟩ := List.mem_flatMap.1 hid
  obtain ⟨x, _, rfl⟩ := List.mem_map.1 h1
  cases x with
  | tmp t =>
    cases hs : st.slot t with
    | none => simp [ASt.ev, hs, AV.ids] at h2
    | some v =>
      simp only [ASt.ev, hs] at h2
      exact ASt.named_refs (.inl ⟨t, v, hs, h2⟩)
  | const c =>
    simp only [ASt.ev] at h2
    unfold constAV at h2
    split at h2
    · split at h2 <;> simp [AV.ids, SV.ids] at h2
    · simp [AV.ids, SV.ids] at h2
    · split at h2 <;> simp [AV.ids, SV.ids] at h2
    · simp [AV.ids, SV.ids] at h2
    · simp [AV.ids, SV.ids] at h2
    · simp [AV.ids] at h2
  | func f => simp [ASt.ev, AV.ids, SV.ids] at h2
  | global g => simp [ASt.ev, AV.ids] at h2
theorem refs_step {ops : List Oper} {o : Oper} {st : ASt} {s : Stp} (h : StepOk E ops o st s) : ∀ id ∈ (stepSt o s st).refs, id ∈ st.refs ∨ id ∈ newIds o := by
  have key : ∀ id, (id ∈ AV.ids (some s.v) ∨ id ∈ s.u.flatMap rowIds) → id ∈ st.refs ∨ id ∈ newIds o := by
    intro id hid
    rcases h.2 with ⟨_, h1⟩ | ⟨_, h1, h2⟩
    · rcases opT_refs h1 id hid with h | h | ⟨i, r, L, h2, h3, h4⟩
      · exact .inl (avs_refs id h)
      · exact .inr h
      · exact .inl (ASt.leaf_refs (rowsOf_sub h2) h3 h4)
    · rw [h1, h2] at hid
      simp [AV.ids, SV.ids] at hid
  intro id hid
  unfold stepSt ASt.refs at hid
  rcases List.mem_append.1 hid with hid | hid
  · cases hd : o.dst with
    | none =>
      rw [hd] at hid
      exact .inl (List.mem_append_left _ hid)
    | some d =>
      rw [hd] at hid
      simp only [ASt.put, ASt.upd, List.flatMap_cons, List.mem_append] at hid
      rcases hid with hid | hid
      · exact key id (.inl hid)
      · exact .inl (List.mem_append_left _ hid)
  · have : ((st.upd s.u).put o.dst s.v).rows = s.u ++ st.rows := by cases o.dst <;> rfl
    rw [this, List.flatMap_append, List.mem_append] at hid
    rcases hid with hid | hid
    · exact key id (.inr hid)
    · exact .inl (List.mem_append_right _ hid)
theorem wanted_ok {C : Entry} {w : World} {S : Nat → Prop} {γ : Gam} {st : ASt} {a : Act} {ops : Array Oper} {o : Oper} {b : Bool} (hg : Good C w S γ st a.tmps) (h : WantedA ops.toList o st b) :
    Region.wanted o (yielded ops a.tmps) = b := by
  unfold WantedA at h
  unfold Region.wanted
  cases hgd : o.guard with
  | none => rw [hgd] at h; exact h.symm
  | some gw =>
    obtain ⟨j, want⟩ := gw
    rw [hgd] at h
    obtain ⟨g, h1, h2⟩ := h
    simp only
    unfold guardTmp at h1
    rw [hgd] at h1
    simp only at h1
    split at h1
    · rename_i go hgo
      have hgo' : ops[j]? = some go := by simpa using hgo
      unfold yielded
      rcases h2 with ⟨x, h2, rfl⟩ | ⟨h2, rfl⟩
      · obtain ⟨v, hv, cs, hr, hp⟩ := hg.rel.slots g _ h2
        have : cs = [.bool x] := hr
        subst this
        have : v = .bool x := hp
        subst this
        simp only [hgo', h1, Option.bind_some, hv]
        cases x <;> cases want <;> rfl
      · obtain ⟨v, hv, hr⟩ := hg.rel.slots g _ h2
        have : v = undef := hr
        subst this
        simp only [hgo', h1, Option.bind_some, hv]
        cases want <;> rfl
    · cases h1
theorem put_size (a : Act) (d : Option Nat) (v : Value) : (a.put d v).tmps.size = a.tmps.size := by cases d <;> simp [Act.put]
theorem put_defers (a : Act) (d : Option Nat) (v : Value) : (a.put d v).defers = a.defers := by cases d <;> rfl
/-- An operation of a region, in a state in which it reads what it read in the text's order. -/
theorem step_sound (hT : TtOk P E.tt) (hC : EnvOk P E) {C : Entry} {w : World} {S : Nat → Prop} {γ : Gam} {st : ASt} {a : Act} {ops : Array Oper} {o : Oper} {s : Stp} {K : Act → World → Prop}
    {Q : Exit → Act → World → Prop} (hs : StepOk E ops.toList o st s) (hg : Good C w S γ st a.tmps) (hsz : a.tmps.size = E.nt) (hdst : dstOk E.nt o = true) (hnew : ∀ i ∈ newIds o, i ∉ st.refs)
    (hK : ∀ a' w' S' γ', Good C w' S' γ' (stepSt o s st) a'.tmps → a'.tmps.size = E.nt → a'.defers = a.defers → K a' w') :
    if Region.wanted o (yielded ops a.tmps) then o.wp P a w K Q else K (a.put o.dst undef) w := by
  rw [wanted_ok hg hs.1]
  have put : ∀ (w' : World) (S' : Nat → Prop) (γ' : Gam) (st' : ASt) (av : AV) (v : Value), Good C w' S' γ' st' a.tmps → RepA w' S' γ' st'.row av v → Good C w' S' γ' (st'.put o.dst av) (a.put o.dst v).tmps := by
    intro w' S' γ' st' av v h1 h2
    cases hd : o.dst with
    | none => exact h1
    | some d =>
      refine ⟨Rel.put h1.rel d av v ?_ h2, h1.fr.put _ _⟩
      rw [hsz]
      unfold dstOk at hdst
      rw [hd] at hdst
      simpa using hdst
  rcases hs.2 with ⟨h1, h2⟩ | ⟨h1, h2, h3⟩
  · rw [h1, if_pos rfl]
    refine OpRes.wp (op_sound hT hC hg hnew h2) ?_
    rintro v w' ⟨S', γ', h3, h4⟩
    exact hK _ _ S' γ' (put w' S' γ' _ _ _ h3 h4) (by rw [put_size]; exact hsz) (put_defers _ _ _)
  · rw [h1]
    refine hK _ _ S γ ?_ (by rw [put_size]; exact hsz) (put_defers _ _ _)
    unfold stepSt
    rw [h2, h3]
    exact put w S γ (st.upd []) _ _ hg rfl
theorem seq_ok (hT : TtOk P E.tt) (hC : EnvOk P E) {C : Entry} {ops : Array Oper} {Q : Exit → Act → World → Prop} : ∀ (l : List Oper) (st : ASt) (ss : List Stp) (as : List Acc) (st' : ASt)
    (w : World) (S : Nat → Prop) (γ : Gam) (a : Act), Runs E ops.toList l st ss as st' → Good C w S γ st a.tmps → a.tmps.size = E.nt → l.all (dstOk E.nt) = true →
    (l.flatMap newIds).Nodup → (∀ i ∈ l.flatMap newIds, i ∉ st.refs) → a.defers = [] →
    (∀ a' w' S' γ', Good C w' S' γ' st' a'.tmps → a'.tmps.size = E.nt → a'.defers = [] → Q .normal a' w') → wpList P ops Q l a w := by
  intro l
  induction l with
  | nil =>
    intro st ss as st' w S γ a hr hg hsz _ _ _ hd hQ
    match ss, as, hr with
    | [], [], hr => exact hQ a w S γ (Same.good hr hg) hsz hd
    | [], _ :: _, hr => exact hr.elim
    | _ :: _, _, hr => exact hr.elim
  | cons o l ih =>
    intro st ss as st' w S γ a hr hg hsz hdst hnd hnew hd hQ
    match ss, as, hr with
    | [], _, hr => exact hr.elim
    | _ :: _, [], hr => exact hr.elim
    | s :: ss, _ :: as, ⟨h1, _, h3⟩ =>
      simp only [List.all_cons, Bool.and_eq_true] at hdst
      simp only [List.flatMap_cons] at hnd hnew
      refine wpList_step fun K hK => step_sound hT hC h1 hg hsz hdst.1 (fun i hi => hnew i (List.mem_append_left _ hi)) ?_
      intro a' w' S' γ' h4 h5 h6
      refine hK _ _ (ih _ ss as st' w' S' γ' a' h3 h4 h5 hdst.2 (List.nodup_append.1 hnd).2.1 ?_ (h6.trans hd) hQ)
      intro i hi hri
      rcases refs_step h1 i hri with h | h
      · exact hnew i (List.mem_append_right _ hi) h
      · exact (List.nodup_append.1 hnd).2.2 i h i hi rfl
theorem foldl_bits {acc : List Nat} {j : Nat} : ∀ (es : List Edge) (s0 : Nat), (es.foldl (fun s e => s ||| (1 <<< e.on) ||| acc.getD e.on 0) s0).testBit j = true →
    s0.testBit j = true ∨ ∃ e ∈ es, j = e.on ∨ (acc.getD e.on 0).testBit j = true := by
  intro es
  induction es with
  | nil => intro s0 h; exact .inl h
  | cons e es ih =>
    intro s0 h
    rw [List.foldl_cons] at h
    rcases ih _ h with h | ⟨e', h1, h2⟩
    · rw [Nat.testBit_or, Nat.testBit_or] at h
      simp only [Bool.or_eq_true] at h
      rcases h with (h | h) | h
      · exact .inl h
      · refine .inr ⟨e, by simp, .inl ?_⟩
        rw [Nat.one_shiftLeft, Nat.testBit_two_pow] at h
        exact (of_decide_eq_true h).symm
      · exact .inr ⟨e, by simp, .inr h⟩
    · exact .inr ⟨e', by simp [h1], h2⟩
theorem closure_lt : ∀ (l : List Oper) (acc : List Nat) (i : Nat), i < acc.length → (closure l acc).getD i 0 = acc.getD i 0 := by
  intro l
  induction l with
  | nil => intro acc i _; rfl
  | cons o l ih =>
    intro acc i hi
    simp only [closure]
    rw [ih _ i (by simp; omega)]
    simp only [List.getD_eq_getElem?_getD]
    rw [List.getElem?_append_left hi]
theorem closure_spec {j : Nat} : ∀ (l : List Oper) (acc : List Nat) (i : Nat), acc.length ≤ i → ((closure l acc).getD i 0).testBit j = true →
    ∃ o, l[i - acc.length]? = some o ∧ ∃ e ∈ o.after.toList.filter (Region.binds .any), j = e.on ∨ (e.on < i ∧ ((closure l acc).getD e.on 0).testBit j = true) := by
  intro l
  induction l with
  | nil =>
    intro acc i hi h
    simp only [closure, List.getD_eq_getElem?_getD] at h
    rw [List.getElem?_eq_none hi] at h
    simp at h
  | cons o l ih =>
    intro acc i hi h
    by_cases e : i = acc.length
    · subst e
      refine ⟨o, by simp, ?_⟩
      simp only [closure] at h ⊢
      rw [closure_lt _ _ _ (by simp)] at h
      simp only [List.getD_eq_getElem?_getD, List.getElem?_concat_length, Option.getD_some] at h
      rcases foldl_bits (acc := acc) _ _ (by simpa only [List.getD_eq_getElem?_getD] using h) with h | ⟨e, h1, h2⟩
      · simp at h
      · refine ⟨e, h1, h2.imp (fun h => h) fun h => ?_⟩
        have hlt : e.on < acc.length := by
          rcases Nat.lt_or_ge e.on acc.length with h' | h'
          · exact h'
          · rw [List.getD_eq_getElem?_getD, List.getElem?_eq_none h'] at h
            simp at h
        refine ⟨hlt, ?_⟩
        rw [closure_lt _ _ _ (by simp; omega), List.getD_eq_getElem?_getD, List.getElem?_append_left hlt, ← List.getD_eq_getElem?_getD]
        exact h
    · simp only [closure] at h
      obtain ⟨o', h1, e', h2, h3⟩ := ih _ i (by simp; omega) h
      refine ⟨o', ?_, e', h2, by simpa only [closure] using h3⟩
      rw [List.length_append] at h1
      simp only [List.length_cons, List.length_nil] at h1
      rw [show i - acc.length = (i - (acc.length + (0 + 1))) + 1 by omega]
      simpa using h1
theorem ordered_spec {cl : List Nat} : ∀ (rest before : List Acc), orderedFrom cl before.length before rest = true → ∀ (i j : Nat) (x y : Acc), j < i → before.length ≤ i →
    (before ++ rest)[j]? = some x → (before ++ rest)[i]? = some y → x.conflict y = true → (cl.getD i 0).testBit j = true := by
  intro rest
  induction rest with
  | nil =>
    intro before _ i j x y _ hi _ hy
    rw [List.append_nil, List.getElem?_eq_none hi] at hy
    cases hy
  | cons z rest ih =>
    intro before h i j x y hj hi hx hy hc
    simp only [orderedFrom, Bool.and_eq_true] at h
    by_cases e : i = before.length
    · subst e
      rw [List.getElem?_append_right (Nat.le_refl _)] at hy
      simp only [Nat.sub_self, List.getElem?_cons_zero, Option.some.injEq] at hy
      subst hy
      rw [List.getElem?_append_left hj] at hx
      have := List.all_eq_true.1 h.1 (x, j) (by
        rw [List.mem_iff_getElem?]
        refine ⟨j, ?_⟩
        rw [List.getElem?_zipIdx, hx]
        simp)
      simpa [hc] using this
    · refine ih (before ++ [z]) (by simpa using h.2) i j x y hj (by simp; omega) ?_ ?_ hc
      · simpa using hx
      · simpa using hy
theorem edges_spec : ∀ (l : List Oper) (k : Nat), edgesOk k l = true → ∀ i o, l[i]? = some o → ∀ e ∈ o.after.toList, Region.binds .any e = true → e.on < k + i := by
  intro l
  induction l with
  | nil => intro k _ i o h; simp at h
  | cons x l ih =>
    intro k h i o hi e he hb
    simp only [edgesOk, Bool.and_eq_true] at h
    match i with
    | 0 =>
      simp only [List.getElem?_cons_zero, Option.some.injEq] at hi
      subst hi
      have := List.all_eq_true.1 h.1 e he
      simp only [hb, Bool.not_true, Bool.false_or, decide_eq_true_eq] at this
      omega
    | i + 1 =>
      have := ih (k + 1) h.2 i o (by simpa using hi) e he hb
      omega
theorem meets_of {a b : List Nat} {x : Nat} (h1 : x ∈ a) (h2 : x ∈ b) : meets a b = true := by
  unfold meets
  rw [List.any_eq_true]
  exact ⟨x, h1, by simpa using h2⟩
theorem step_slot_keep {o : Oper} {s : Stp} {st : ASt} {t : Nat} (h : t ∉ o.dst.toList) : (stepSt o s st).slot t = st.slot t := by
  unfold stepSt
  cases hd : o.dst with
  | none => rfl
  | some d =>
    rw [hd] at h
    rw [ASt.slot_put]
    simp only [Option.toList, List.mem_singleton] at h
    rw [if_neg (fun e => h e.symm)]
    rfl
theorem step_slot_set {o : Oper} {s : Stp} {st st' : ASt} {t : Nat} (h : t ∈ o.dst.toList) : (stepSt o s st).slot t = (stepSt o s st').slot t := by
  unfold stepSt
  cases hd : o.dst with
  | none => rw [hd] at h; cases h
  | some d =>
    rw [hd] at h
    simp only [Option.toList, List.mem_singleton] at h
    rw [ASt.slot_put, ASt.slot_put, if_pos h.symm, if_pos h.symm]
theorem look_none {α : Type} {l : List (Nat × α)} {i : Nat} (h : i ∉ l.map (·.1)) : look l i = none := by
  cases hl : look l i with
  | none => rfl
  | some a => exact absurd (List.mem_map.2 ⟨_, look_mem hl, rfl⟩) h
theorem look_key {α : Type} {l : List (Nat × α)} {i : Nat} (h : i ∈ l.map (·.1)) : ∃ a, look l i = some a := by
  induction l with
  | nil => cases h
  | cons x l ih =>
    simp only [look]
    cases hb : Nat.beq x.1 i with
    | true => exact ⟨_, rfl⟩
    | false =>
      simp only [List.map_cons, List.mem_cons] at h
      rcases h with h | h
      · subst h; simp at hb
      · exact ih h
theorem step_row_keep {o : Oper} {s : Stp} {st : ASt} {id : Nat} (h : id ∉ s.u.map (·.1)) : (stepSt o s st).row id = st.row id := by
  unfold stepSt
  rw [ASt.row_put, ASt.row_upd, look_none h]
theorem step_row_set {o : Oper} {s : Stp} {st st' : ASt} {id : Nat} (h : id ∈ s.u.map (·.1)) : (stepSt o s st).row id = (stepSt o s st').row id := by
  unfold stepSt
  obtain ⟨a, ha⟩ := look_key h
  rw [ASt.row_put, ASt.row_upd, ASt.row_put, ASt.row_upd, ha]
theorem mem_tmps {t : Nat} : ∀ {l : List Operand}, Operand.tmp t ∈ l → t ∈ tmpsOf l := by
  intro l
  induction l with
  | nil => intro h; cases h
  | cons y l ih =>
    intro h
    rcases List.mem_cons.1 h with rfl | h1
    · simp [tmpsOf]
    · cases y <;> simp [tmpsOf, ih h1]
theorem StepOk.congr {ops : List Oper} {o : Oper} {st st' : ASt} {s : Stp} (h1 : ∀ t ∈ (accOf ops o st s).rs, st'.slot t = st.slot t) (h2 : ∀ id ∈ (accOf ops o st s).rr, st'.row id = st.row id)
    (h : StepOk E ops o st s) : StepOk E ops o st' s := by
  have hw : WantedA ops o st' s.run := by
    have := h.1
    unfold WantedA at this ⊢
    split at this
    · exact this
    · obtain ⟨g, e1, e2⟩ := this
      refine ⟨g, e1, ?_⟩
      rw [h1 g (by unfold accOf; cases s.run <;> simp [e1])]
      exact e2
  refine ⟨hw, ?_⟩
  rcases h.2 with ⟨e1, e2⟩ | e
  · refine .inl ⟨e1, ?_⟩
    have hr : ∀ t ∈ tmpsOf (operandsL o.op), st'.slot t = st.slot t := fun t ht => h1 t (by unfold accOf; rw [e1]; simp [ht])
    have hav : st'.avs o = st.avs o := by
      unfold ASt.avs
      apply List.map_congr_left
      intro x hx
      cases x with
      | tmp t =>
        exact hr t (mem_tmps hx)
      | _ => rfl
    have hrd : rdOf st' o = rdOf st o := rdOf_congr hav (fun id hid => h2 id (by unfold accOf; rw [e1]; exact hid))
    rw [hav, hrd]
    have hrow : rowsOf st' (rdOf st o) = rowsOf st (rdOf st o) := by
      funext id
      unfold rowsOf
      cases he : (rdOf st o).elem id with
      | false => rfl
      | true => exact h2 id (by unfold accOf; rw [e1]; simpa using he)
    rw [hrow]
    exact e2
  · exact .inr e
theorem getD_set {listed : Array Bool} {i j : Nat} (hi : i < listed.size) : ((listed.setIfInBounds i true).getD j false = true) ↔ (listed.getD j false = true ∨ j = i) := by
  by_cases e : i = j
  · subst e; simp [hi]
  · rw [getD_set_ne false e]
    constructor
    · exact .inl
    · rintro (h | h)
      · exact h
      · exact absurd h.symm e
theorem count_set {listed : Array Bool} {i : Nat} : ∀ (n : Nat), i < n → listed.getD i true = false → listed.size = n →
    (List.range n).countP (fun j => !(listed.setIfInBounds i true).getD j true) + 1 = (List.range n).countP (fun j => !listed.getD j true) := by
  have gen : ∀ m, i < listed.size → listed.getD i true = false → (List.range m).countP (fun j => !(listed.setIfInBounds i true).getD j true) + (if i < m then 1 else 0) = (List.range m).countP (fun j => !listed.getD j true) := by
    intro m hs hi
    induction m with
    | zero => simp
    | succ m ih =>
      rw [List.range_succ, List.countP_append, List.countP_append, ← ih]
      simp only [List.countP_cons, List.countP_nil]
      by_cases e : i = m
      · subst e
        have h1 : (listed.setIfInBounds i true).getD i true = true := by simp [hs]
        simp only [h1, hi, Bool.not_true, Bool.not_false, Bool.false_eq_true, if_false, if_true, Nat.lt_irrefl, Nat.lt_succ_self, Nat.add_zero]
      · rw [getD_set_ne true e]
        have : (i < m + 1) ↔ i < m := by omega
        simp only [this]
        omega
  intro n hn hi hs
  have := gen n (by omega) hi
  rw [if_pos hn] at this
  exact this
theorem nodup_flat {f : Oper → List Nat} : ∀ {l : List Oper}, (l.flatMap f).Nodup → ∀ (i j : Nat) (a b : Oper) (x : Nat), l[i]? = some a → l[j]? = some b → x ∈ f a → x ∈ f b → i = j := by
  intro l
  induction l with
  | nil => intro _ i j a b x h; simp at h
  | cons o l ih =>
    intro h i j a b x hi hj ha hb
    rw [List.flatMap_cons] at h
    obtain ⟨_, h2, h3⟩ := List.nodup_append.1 h
    match i, j with
    | 0, 0 => rfl
    | 0, j + 1 =>
      simp only [List.getElem?_cons_zero, Option.some.injEq] at hi
      simp only [List.getElem?_cons_succ] at hj
      subst hi
      exact absurd rfl (h3 x ha x (List.mem_flatMap.2 ⟨b, List.mem_of_getElem? hj, hb⟩))
    | i + 1, 0 =>
      simp only [List.getElem?_cons_zero, Option.some.injEq] at hj
      simp only [List.getElem?_cons_succ] at hi
      subst hj
      exact absurd rfl (h3 x hb x (List.mem_flatMap.2 ⟨a, List.mem_of_getElem? hi, ha⟩))
    | i + 1, j + 1 =>
      have := ih h2 i j a b x (by simpa using hi) (by simpa using hj) ha hb
      omega
theorem accOf_congr {ops : List Oper} {o : Oper} {st st' : ASt} {s s' : Stp} (h1 : ∀ t ∈ (accOf ops o st s).rs, st'.slot t = st.slot t) (hr : s'.run = s.run) (hu : s'.u.map (·.1) = s.u.map (·.1)) (hd : s.run = true → rdOf st' o = rdOf st o) : accOf ops o st' s' = accOf ops o st s := by
  unfold accOf
  rw [hr]
  cases hrun : s.run with
  | false => rfl
  | true =>
    have hav : st'.avs o = st.avs o := by
      unfold ASt.avs
      apply List.map_congr_left
      intro x hx
      cases x with
      | tmp t => exact h1 t (by unfold accOf; rw [hrun]; simp [mem_tmps hx])
      | _ => rfl
    rw [hav, hu, hd hrun]
theorem avs_congr {ops : List Oper} {o : Oper} {st st' : ASt} {s : Stp} (hrun : s.run = true) (h1 : ∀ t ∈ (accOf ops o st s).rs, st'.slot t = st.slot t) : st'.avs o = st.avs o := by
  unfold ASt.avs
  apply List.map_congr_left
  intro x hx
  cases x with
  | tmp t => exact h1 t (by unfold accOf; rw [hrun]; simp [mem_tmps hx])
  | _ => rfl
theorem meets_not {a b : List Nat} (h : meets a b = false) {x : Nat} (h1 : x ∈ a) : x ∉ b := fun h2 => by rw [meets_of h1 h2] at h; cases h
/-- What a store of a plain value does. -/
theorem store_val {o : Oper} {avs : List (Option AV)} {rows : RT} {v : AV} {u : Upd} {q : Sto} (hq : stoOf o avs = some q) (h : (opT E o avs rows).val = some (v, u)) :
    ∃ (ty : Ty) (r : Row) (x : ty.den) (y : r.t.den), rows q.id = some r ∧ castTy q.t ty q.x = some x ∧ setP r.t (r.l.getD q.idx r.t.zero) q.path ⟨ty, x⟩ = some y ∧ v = .tup [] ∧ u = [(q.id, some { r with l := r.l.set q.idx y })] ∧ (∀ st : ASt, st.avs o = avs → rdOf st o = [q.id]) ∧
      ∀ (rows' : RT) (r' : Row) (y' : r'.t.den), rows' q.id = some r' → r'.k = r.k → setP r'.t (r'.l.getD q.idx r'.t.zero) q.path ⟨ty, x⟩ = some y' → (opT E o avs rows').val = some (.tup [], [(q.id, some { r' with l := r'.l.set q.idx y' })]) := by
  obtain ⟨dst, op, ty0, pos, af, gd⟩ := o
  cases op with
  | store t a b =>
    simp only [stoOf] at hq
    split at hq
    · rename_i id i p τ z
      cases hq
      simp only [opT, one2, storeOpK] at h
      unfold storeK at h
      split at h
      · rename_i ty r ht hr
        simp only [toPure] at h
        cases hc : castTy τ ty z with
        | none => rw [hc] at h; split at h <;> simp_all [Tree.val]
        | some x =>
          rw [hc] at h
          split at h
          · simp [Tree.val] at h
          · simp [Tree.val] at h
          · rename_i x' is hx hk hkv
            obtain ⟨rfl, rfl⟩ : x = x' ∧ [] = is := ⟨congrArg Prod.fst (Option.some.inj hx), congrArg Prod.snd (Option.some.inj hx)⟩
            split at h
            · rename_i y hy
              obtain ⟨_, h⟩ := br_val' h
              simp only [freeze, Tree.val, Option.some.injEq, Prod.mk.injEq] at h
              obtain ⟨rfl, rfl⟩ := h
              refine ⟨ty, r, x, y, hr, hc, hy, rfl, rfl, fun st hst => by simp [rdOf, hst, idsOf, AV.ids, SV.ids], fun rows' r' y' hr' hk' hy' => ?_⟩
              simp only [opT, one2, storeOpK]
              unfold storeK
              rw [ht, hr']
              simp only [toPure, hc]
              cases hkk : r'.k with
              | frozen => rw [hk'] at hkk; exact absurd hkk hk
              | var L => rw [hk'] at hkk; exact absurd hkk (hkv L)
              | free =>
                have hy2 : setP r'.t (r'.l.getD i r'.t.zero) p ⟨ty, x⟩ = some y' := hy'
                simp only [hy2, freeze, List.elem_nil, Tree.val, cond_false]
              | fixed =>
                have hy2 : setP r'.t (r'.l.getD i r'.t.zero) p ⟨ty, x⟩ = some y' := hy'
                simp only [hy2, freeze, List.elem_nil, Tree.val, cond_false]
            · simp [Tree.val] at h
          · simp [Tree.val] at h
      · simp [Tree.val] at h
    · cases hq
  | _ => simp [stoOf] at hq
/-- Two operations that may change places. -/
def Indep (a b : Acc) : Prop := a.conflict b = false ∧ ∀ s t, a.st = some s → b.st = some t → s.id = t.id → s.ok t = true
theorem accOf_sto {ops : List Oper} {o : Oper} {st : ASt} {s : Stp} {q : Sto} (hs : StepOk E ops o st s) (h : (accOf ops o st s).st = some q) :
    s.run = true ∧ stoOf o (st.avs o) = some q ∧ (accOf ops o st s).rr = [q.id] ∧ (accOf ops o st s).rw = [q.id] := by
  unfold accOf at h ⊢
  cases hr : s.run with
  | false => rw [hr] at h; cases h
  | true =>
    rw [hr] at h
    simp only [cond_true] at h ⊢
    rcases hs.2 with ⟨_, h2⟩ | ⟨h2, _⟩
    · obtain ⟨ty, r, x, y, e1, e2, e3, e4, e5, e6, _⟩ := store_val h h2
      exact ⟨trivial, h, e6 st rfl, by rw [e5]; rfl⟩
    · rw [hr] at h2; cases h2
theorem swap_disjoint {ops : List Oper} {o1 o2 : Oper} {st : ASt} {s1 s2 : Stp} (h1 : StepOk E ops o1 st s1) (h2 : StepOk E ops o2 (stepSt o1 s1 st) s2)
    (c1 : meets (accOf ops o1 st s1).ws ((accOf ops o2 (stepSt o1 s1 st) s2).rs ++ (accOf ops o2 (stepSt o1 s1 st) s2).ws) = false) (c2 : meets (accOf ops o2 (stepSt o1 s1 st) s2).ws (accOf ops o1 st s1).rs = false)
    (c3 : meets (accOf ops o1 st s1).rw ((accOf ops o2 (stepSt o1 s1 st) s2).rr ++ (accOf ops o2 (stepSt o1 s1 st) s2).rw) = false) (c4 : meets (accOf ops o2 (stepSt o1 s1 st) s2).rw (accOf ops o1 st s1).rr = false) :
    StepOk E ops o2 st s2 ∧ StepOk E ops o1 (stepSt o2 s2 st) s1 ∧ accOf ops o2 st s2 = accOf ops o2 (stepSt o1 s1 st) s2 ∧ accOf ops o1 (stepSt o2 s2 st) s1 = accOf ops o1 st s1 ∧
      Same (stepSt o1 s1 (stepSt o2 s2 st)) (stepSt o2 s2 (stepSt o1 s1 st)) := by
  have ws : ∀ (o : Oper) (st : ASt) (s : Stp), (accOf ops o st s).ws = o.dst.toList := fun o st s => by unfold accOf; cases s.run <;> rfl
  have rw' : ∀ (o : Oper) (st : ASt) (s : Stp), StepOk E ops o st s → (accOf ops o st s).rw = s.u.map (·.1) := fun o st s h => by
    unfold accOf
    rcases h.2 with ⟨e, _⟩ | ⟨e, _, e2⟩
    · rw [e]; rfl
    · rw [e, e2]; rfl
  rw [ws] at c1
  rw [ws] at c2
  rw [rw' _ _ _ h1] at c3
  rw [rw' _ _ _ h2] at c4
  have d1 : ∀ t ∈ (accOf ops o2 (stepSt o1 s1 st) s2).rs, st.slot t = (stepSt o1 s1 st).slot t := fun t ht => (step_slot_keep (fun hm => meets_not c1 hm (List.mem_append_left _ ht))).symm
  have d2 : ∀ id ∈ (accOf ops o2 (stepSt o1 s1 st) s2).rr, st.row id = (stepSt o1 s1 st).row id := fun t ht => (step_row_keep (fun hm => meets_not c3 hm (List.mem_append_left _ ht))).symm
  have d3 : ∀ t ∈ (accOf ops o1 st s1).rs, (stepSt o2 s2 st).slot t = st.slot t := fun t ht => step_slot_keep (fun hm => meets_not c2 hm ht)
  have d4 : ∀ id ∈ (accOf ops o1 st s1).rr, (stepSt o2 s2 st).row id = st.row id := fun t ht => step_row_keep (fun hm => meets_not c4 hm ht)
  have g1 : s2.run = true → rdOf st o2 = rdOf (stepSt o1 s1 st) o2 := fun hr => rdOf_congr (avs_congr hr d1) (fun id hid => d2 id (by unfold accOf; rw [hr]; exact hid))
  have g2 : s1.run = true → rdOf (stepSt o2 s2 st) o1 = rdOf st o1 := fun hr => rdOf_congr (avs_congr hr d3) (fun id hid => d4 id (by unfold accOf; rw [hr]; exact hid))
  refine ⟨h2.congr d1 d2, h1.congr d3 d4, accOf_congr d1 rfl rfl g1, accOf_congr d3 rfl rfl g2, ⟨fun t => ?_, fun id => ?_⟩⟩
  · by_cases e1 : t ∈ o1.dst.toList
    · have e2 : t ∉ o2.dst.toList := fun hm => meets_not c1 e1 (List.mem_append_right _ (by rw [ws]; exact hm))
      rw [step_slot_keep (o := o2) e2]
      exact step_slot_set e1
    · rw [step_slot_keep (o := o1) e1]
      by_cases e2 : t ∈ o2.dst.toList
      · exact step_slot_set e2
      · rw [step_slot_keep (o := o2) e2, step_slot_keep (o := o2) e2, step_slot_keep (o := o1) e1]
  · by_cases e1 : id ∈ s1.u.map (·.1)
    · have e2 : id ∉ s2.u.map (·.1) := fun hm => meets_not c3 e1 (List.mem_append_right _ (by rw [rw' _ _ _ h2]; exact hm))
      rw [step_row_keep (o := o2) e2]
      exact step_row_set e1
    · rw [step_row_keep (o := o1) e1]
      by_cases e2 : id ∈ s2.u.map (·.1)
      · exact step_row_set e2
      · rw [step_row_keep (o := o2) e2, step_row_keep (o := o2) e2, step_row_keep (o := o1) e1]
theorem swap_step {ops : List Oper} {o1 o2 : Oper} {st : ASt} {s1 s2 : Stp} (h1 : StepOk E ops o1 st s1) (h2 : StepOk E ops o2 (stepSt o1 s1 st) s2) (hi : Indep (accOf ops o1 st s1) (accOf ops o2 (stepSt o1 s1 st) s2)) :
    ∃ s2' s1', StepOk E ops o2 st s2' ∧ StepOk E ops o1 (stepSt o2 s2' st) s1' ∧ accOf ops o2 st s2' = accOf ops o2 (stepSt o1 s1 st) s2 ∧ accOf ops o1 (stepSt o2 s2' st) s1' = accOf ops o1 st s1 ∧
      Same (stepSt o1 s1' (stepSt o2 s2' st)) (stepSt o2 s2 (stepSt o1 s1 st)) := by
  obtain ⟨hc, hst⟩ := hi
  unfold Acc.conflict at hc
  simp only [Bool.or_eq_false_iff] at hc
  obtain ⟨⟨c1, c2⟩, c3⟩ := hc
  unfold Acc.rowConf at c3
  cases hq1 : (accOf ops o1 st s1).st with
  | none =>
    rw [hq1] at c3
    simp only [Bool.or_eq_false_iff] at c3
    exact ⟨s2, s1, swap_disjoint h1 h2 c1 c2 c3.1 c3.2⟩
  | some q1 =>
    cases hq2 : (accOf ops o2 (stepSt o1 s1 st) s2).st with
    | none =>
      rw [hq1, hq2] at c3
      simp only [Bool.or_eq_false_iff] at c3
      exact ⟨s2, s1, swap_disjoint h1 h2 c1 c2 c3.1 c3.2⟩
    | some q2 =>
      obtain ⟨r1, a1, a2, a3⟩ := accOf_sto h1 hq1
      obtain ⟨r2, b1, b2, b3⟩ := accOf_sto h2 hq2
      by_cases hid : q1.id = q2.id
      · -- one row
        have hok := hst q1 q2 hq1 hq2 hid
        have ws : ∀ (o : Oper) (st : ASt) (s : Stp), (accOf ops o st s).ws = o.dst.toList := fun o st s => by unfold accOf; cases s.run <;> rfl
        rw [ws] at c1
        rw [ws] at c2
        have h1v : (opT E o1 (st.avs o1) (rowsOf st (rdOf st o1))).val = some (s1.v, s1.u) := by
          rcases h1.2 with ⟨_, e⟩ | ⟨e, _⟩
          · exact e
          · rw [r1] at e; cases e
        have h2v : (opT E o2 ((stepSt o1 s1 st).avs o2) (rowsOf (stepSt o1 s1 st) (rdOf (stepSt o1 s1 st) o2))).val = some (s2.v, s2.u) := by
          rcases h2.2 with ⟨_, e⟩ | ⟨e, _⟩
          · exact e
          · rw [r2] at e; cases e
        obtain ⟨ty1, ro1, x1, y1, e1, e2, e3, e4, e5, e6, e7⟩ := store_val a1 h1v
        obtain ⟨ty2, ro2, x2, y2, f1, f2, f3, f4, f5, f6, f7⟩ := store_val b1 h2v
        have hrow : st.row q1.id = some ro1 := rowsOf_sub e1
        have hrow2 : (stepSt o1 s1 st).row q2.id = some ro2 := rowsOf_sub f1
        have hro2 : ro2 = { ro1 with l := ro1.l.set q1.idx y1 } := by
          unfold stepSt at hrow2
          rw [ASt.row_put, ASt.row_upd, e5, ← hid] at hrow2
          simp only [look_cons, if_true] at hrow2
          exact (Option.some.inj hrow2).symm
        subst hro2
        -- the second, first
        have havs2 : st.avs o2 = (stepSt o1 s1 st).avs o2 := avs_congr r2 (fun t ht => (step_slot_keep (fun hm => meets_not c1 hm (List.mem_append_left _ ht))).symm)
        have key : ∃ (y2' y1' : ro1.t.den), setP ro1.t (ro1.l.getD q2.idx ro1.t.zero) q2.path ⟨ty2, x2⟩ = some y2' ∧ setP ro1.t ((ro1.l.set q2.idx y2').getD q1.idx ro1.t.zero) q1.path ⟨ty1, x1⟩ = some y1' ∧
            (ro1.l.set q2.idx y2').set q1.idx y1' = (ro1.l.set q1.idx y1).set q2.idx y2 := by
          unfold Sto.ok at hok
          by_cases hidx : q1.idx = q2.idx
          · rw [hidx, show Nat.beq q2.idx q2.idx = true by simp] at hok
            simp only [Bool.not_true, Bool.false_or, Bool.and_eq_true, List.isEmpty_iff] at hok
            obtain ⟨k1, k2, k3, k4⟩ := hok
            split at k4
            · rename_i z hz
              rw [eqTy_iff _ _ _ k3] at k4
              rw [k2] at f3
              rw [k1] at e3
              rw [k1, k2]
              simp only [setP] at e3 f3 ⊢
              refine ⟨y2, y1, f3, e3, ?_⟩
              -- both values are one
              have : y1 = y2 := by
                obtain ⟨t1, t2⟩ := castTy_some e2
                obtain ⟨t3, t4⟩ := castTy_some e3
                obtain ⟨t5, t6⟩ := castTy_some f2
                obtain ⟨t7, t8⟩ := castTy_some f3
                obtain ⟨t9, t10⟩ := castTy_some hz
                obtain ⟨i1, j1, p1, τ1, z1⟩ := q1
                obtain ⟨i2, j2, p2, τ2, z2⟩ := q2
                obtain ⟨rk, rt, rl⟩ := ro1
                simp only at t1 t3 t5 t7 t9
                subst t1 t3 t5
                simp only at t2 t4 t6 t8 t10 k4
                subst t2 t4 t6 t8 t10
                exact k4
              rw [hidx, this]
            · cases k4
          · have hd : ∀ (y : ro1.t.den), (ro1.l.set q1.idx y).getD q2.idx ro1.t.zero = ro1.l.getD q2.idx ro1.t.zero := fun y => by
              rw [List.getD_eq_getElem?_getD, List.getD_eq_getElem?_getD, List.getElem?_set_ne hidx]
            have hd' : ∀ (y : ro1.t.den), (ro1.l.set q2.idx y).getD q1.idx ro1.t.zero = ro1.l.getD q1.idx ro1.t.zero := fun y => by
              rw [List.getD_eq_getElem?_getD, List.getD_eq_getElem?_getD, List.getElem?_set_ne (fun e => hidx e.symm)]
            simp only at f3
            rw [hd] at f3
            exact ⟨y2, y1, f3, by rw [hd']; exact e3, (List.set_comm _ _ hidx).symm⟩
        obtain ⟨y2', y1', g1, g2, g3⟩ := key
        have hrO : ∀ (st0 : ASt) (r0 : Row), st0.row q2.id = some r0 → rowsOf st0 [q2.id] q2.id = some r0 := fun st0 r0 h => by
          unfold rowsOf; simp [h]
        have hrO1 : ∀ (st0 : ASt) (r0 : Row), st0.row q1.id = some r0 → rowsOf st0 [q1.id] q1.id = some r0 := fun st0 r0 h => by
          unfold rowsOf; simp [h]
        let s2' : Stp := ⟨.tup [], [(q2.id, some { ro1 with l := ro1.l.set q2.idx y2' })], true⟩
        let s1' : Stp := ⟨.tup [], [(q1.id, some { ro1 with l := (ro1.l.set q2.idx y2').set q1.idx y1' })], true⟩
        have w2 : StepOk E ops o2 st s2' := by
          refine ⟨?_, .inl ⟨rfl, ?_⟩⟩
          · have hw := h2.1
            rw [r2] at hw
            unfold WantedA at hw ⊢
            split at hw
            · exact rfl
            · obtain ⟨g, k1, k2⟩ := hw
              refine ⟨g, k1, ?_⟩
              rw [← step_slot_keep (o := o1) (s := s1) (fun hm => meets_not c1 hm (List.mem_append_left _ (by unfold accOf; rw [r2]; simp [k1])))]
              exact k2
          · rw [f6 st havs2, havs2]
            exact f7 _ ro1 y2' (hrO st ro1 (by rw [← hid]; exact hrow)) rfl g1
        have havs1 : (stepSt o2 s2' st).avs o1 = st.avs o1 := avs_congr r1 (fun t ht => step_slot_keep (fun hm => meets_not c2 hm ht))
        have hrow2' : (stepSt o2 s2' st).row q1.id = some { ro1 with l := ro1.l.set q2.idx y2' } := by
          unfold stepSt
          rw [ASt.row_put, ASt.row_upd]
          simp [s2', look_cons, hid]
        have w1 : StepOk E ops o1 (stepSt o2 s2' st) s1' := by
          refine ⟨?_, .inl ⟨rfl, ?_⟩⟩
          · have hw := h1.1
            rw [r1] at hw
            unfold WantedA at hw ⊢
            split at hw
            · exact rfl
            · obtain ⟨g, k1, k2⟩ := hw
              refine ⟨g, k1, ?_⟩
              rw [step_slot_keep (o := o2) (s := s2') (fun hm => meets_not c2 hm (by unfold accOf; rw [r1]; simp [k1]))]
              exact k2
          · rw [e6 _ havs1, havs1]
            exact e7 _ { ro1 with l := ro1.l.set q2.idx y2' } y1' (hrO1 _ _ hrow2') rfl g2
        refine ⟨s2', s1', w2, w1, accOf_congr (fun t ht => (step_slot_keep (fun hm => meets_not c1 hm (List.mem_append_left _ ht))).symm) r2.symm (by rw [f5]; rfl) (fun _ => (f6 st havs2).trans (f6 _ rfl).symm), accOf_congr (fun t ht => step_slot_keep (fun hm => meets_not c2 hm ht)) r1.symm (by rw [e5]; rfl) (fun _ => (e6 _ havs1).trans (e6 st rfl).symm), ⟨fun t => ?_, fun id => ?_⟩⟩
        · have hv1 : s1.v = s1'.v := e4
          have hv2 : s2.v = s2'.v := f4
          by_cases k1 : t ∈ o1.dst.toList
          · have k2 : t ∉ o2.dst.toList := fun hm => meets_not c1 k1 (List.mem_append_right _ (by rw [ws]; exact hm))
            rw [step_slot_keep (o := o2) k2]
            unfold stepSt
            cases hd : o1.dst with
            | none => rw [hd] at k1; cases k1
            | some d =>
              rw [hd] at k1
              simp only [Option.toList, List.mem_singleton] at k1
              rw [ASt.slot_put, ASt.slot_put, if_pos k1.symm, if_pos k1.symm, hv1]
          · rw [step_slot_keep (o := o1) k1]
            by_cases k2 : t ∈ o2.dst.toList
            · unfold stepSt
              cases hd : o2.dst with
              | none => rw [hd] at k2; cases k2
              | some d =>
                rw [hd] at k2
                simp only [Option.toList, List.mem_singleton] at k2
                rw [ASt.slot_put, ASt.slot_put, if_pos k2.symm, if_pos k2.symm, hv2]
            · rw [step_slot_keep (o := o2) k2, step_slot_keep (o := o2) k2, step_slot_keep (o := o1) k1]
        · unfold stepSt
          simp only [ASt.row_put, ASt.row_upd, f5, e5, s1', s2', look_cons]
          by_cases k : q1.id = id
          · have k' : q2.id = id := by rw [← hid]; exact k
            simp only [if_pos k, if_pos k', g3]
          · have k' : ¬ q2.id = id := by rw [← hid]; exact k
            simp only [if_neg k, if_neg k', look]
      · -- two rows
        refine ⟨s2, s1, swap_disjoint h1 h2 c1 c2 ?_ ?_⟩
        · rw [a3, b2, b3]
          unfold meets
          simp [hid]
        · rw [b3, a2]
          unfold meets
          simp [Ne.symm hid]
def RunsA (E : Env) (ops : List Oper) : List (Oper × Acc) → ASt → ASt → Prop
  | [], st, st' => Same st st'
  | q :: l, st, st' => ∃ s, StepOk E ops q.1 st s ∧ accOf ops q.1 st s = q.2 ∧ RunsA E ops l (stepSt q.1 s st) st'
theorem RunsA.same {ops : List Oper} : ∀ {l : List (Oper × Acc)} {st st2 st' : ASt}, Same st st2 → RunsA E ops l st st' → RunsA E ops l st2 st' := by
  intro l
  induction l with
  | nil => intro st st2 st' h hr; exact h.symm.trans hr
  | cons q l ih =>
    intro st st2 st' h ⟨s, h1, h2, h3⟩
    exact ⟨s, h1.same h, (accOf_same h).symm.trans h2, ih (h.step q.1 s) h3⟩
theorem runs_A {ops : List Oper} : ∀ {l : List Oper} {st : ASt} {ss : List Stp} {as : List Acc} {st' : ASt}, Runs E ops l st ss as st' → as.length = l.length ∧ RunsA E ops (l.zip as) st st' := by
  intro l
  induction l with
  | nil =>
    intro st ss as st' hr
    match ss, as, hr with
    | [], [], hr => exact ⟨rfl, hr⟩
    | [], _ :: _, hr => exact hr.elim
    | _ :: _, _, hr => exact hr.elim
  | cons o l ih =>
    intro st ss as st' hr
    match ss, as, hr with
    | [], _, hr => exact hr.elim
    | _ :: _, [], hr => exact hr.elim
    | s :: ss, _ :: as, ⟨h1, h2, h3⟩ =>
      obtain ⟨h4, h5⟩ := ih h3
      exact ⟨by simp [h4], s, h1, h2.symm, h5⟩
/-- An operation that may change places with all ahead of it comes first. -/
theorem RunsA.front {ops : List Oper} {q : Oper × Acc} {L2 : List (Oper × Acc)} : ∀ {L1 : List (Oper × Acc)} {st st' : ASt}, RunsA E ops (L1 ++ q :: L2) st st' → (∀ p ∈ L1, Indep p.2 q.2) →
    ∃ s, StepOk E ops q.1 st s ∧ accOf ops q.1 st s = q.2 ∧ RunsA E ops (L1 ++ L2) (stepSt q.1 s st) st' := by
  intro L1
  induction L1 with
  | nil => intro st st' h _; exact h
  | cons p L1 ih =>
    intro st st' ⟨sp, h1, h2, h3⟩ hi
    obtain ⟨s, g1, g2, g3⟩ := ih h3 (fun x hx => hi x (by simp [hx]))
    obtain ⟨s2', s1', k1, k2, k3, k4, k5⟩ := swap_step h1 g1 (by rw [h2, g2]; exact hi p (by simp))
    exact ⟨s2', k1, k3.trans g2, s1', k2, k4.trans h2, g3.same k5.symm⟩
/-- The operations that have not run yet, in the text's order. -/
def rem (listed : Array Bool) : Nat → List (Oper × Acc) → List (Oper × Acc)
  | _, [] => []
  | k, q :: l => if listed.getD k true = true then rem listed (k + 1) l else q :: rem listed (k + 1) l
theorem rem_later {listed : Array Bool} {i : Nat} : ∀ (l : List (Oper × Acc)) (k : Nat), i < k → rem (listed.setIfInBounds i true) k l = rem listed k l := by
  intro l
  induction l with
  | nil => intro k _; rfl
  | cons q l ih =>
    intro k hk
    simp only [rem]
    rw [getD_set_ne true (by omega), ih (k + 1) (by omega)]
theorem rem_split {listed : Array Bool} {i : Nat} (hi : listed.getD i true = false) (hs : i < listed.size) : ∀ (l : List (Oper × Acc)) (k : Nat) (q : Oper × Acc), k ≤ i → l[i - k]? = some q →
    ∃ L1 L2, rem listed k l = L1 ++ q :: L2 ∧ rem (listed.setIfInBounds i true) k l = L1 ++ L2 ∧ ∀ p ∈ L1, ∃ j, k ≤ j ∧ j < i ∧ l[j - k]? = some p ∧ listed.getD j true = false := by
  intro l
  induction l with
  | nil => intro k q _ h; simp at h
  | cons x l ih =>
    intro k q hk h
    by_cases e : k = i
    · subst e
      simp only [Nat.sub_self, List.getElem?_cons_zero, Option.some.injEq] at h
      subst h
      refine ⟨[], rem listed (k + 1) l, ?_, ?_, fun p hp => by cases hp⟩
      · simp [rem, hi]
      · simp only [rem]
        rw [rem_later l (k + 1) (by omega)]
        simp [hs]
    · obtain ⟨L1, L2, h1, h2, h3⟩ := ih (k + 1) q (by omega) (by rw [show i - k = (i - (k + 1)) + 1 by omega] at h; simpa using h)
      have h3' : ∀ p ∈ L1, ∃ j, k ≤ j ∧ j < i ∧ (x :: l)[j - k]? = some p ∧ listed.getD j true = false := fun p hp => by
        obtain ⟨j, g1, g2, g3, g4⟩ := h3 p hp
        refine ⟨j, by omega, g2, ?_, g4⟩
        rw [show j - k = (j - (k + 1)) + 1 by omega]
        simpa using g3
      simp only [rem]
      rw [getD_set_ne true (fun e' => e e'.symm)]
      cases hk' : listed.getD k true with
      | true => exact ⟨L1, L2, by simpa using h1, by simpa using h2, h3'⟩
      | false =>
        refine ⟨x :: L1, L2, by simp [h1], by simp [h2], fun p hp => ?_⟩
        rcases List.mem_cons.1 hp with rfl | hp
        · exact ⟨k, Nat.le_refl _, by omega, by simp, hk'⟩
        · exact h3' p hp
theorem rem_none {listed : Array Bool} : ∀ (l : List (Oper × Acc)) (k : Nat), (∀ j, k ≤ j → j < k + l.length → listed.getD j true = true) → rem listed k l = [] := by
  intro l
  induction l with
  | nil => intro k _; rfl
  | cons x l ih =>
    intro k h
    simp only [rem]
    rw [if_pos (h k (Nat.le_refl _) (by simp))]
    exact ih (k + 1) (fun j h1 h2 => h j (by omega) (by simp; omega))
theorem pair_spec {b : Nat} {y : Acc} : ∀ (l : List Acc) (k : Nat), (∀ c ∈ pairConds b y k l, c = true) → ∀ (j : Nat) x s t, l[j]? = some x → x.st = some s → y.st = some t → s.id = t.id → b.testBit (k + j) = false → s.ok t = true := by
  intro l
  induction l with
  | nil => intro k _ j x s t h; simp at h
  | cons z l ih =>
    intro k h j x s t hj hs ht hid hb
    cases j with
    | zero =>
      simp only [List.getElem?_cons_zero, Option.some.injEq] at hj
      subst hj
      simp only [pairConds, hs, ht, hid, show Nat.beq t.id t.id = true by simp, show b.testBit k = false by simpa using hb, Bool.not_false, Bool.and_self, cond_true] at h
      exact h _ (by simp)
    | succ j =>
      refine ih (k + 1) (fun c hc => h c ?_) j x s t (by simpa using hj) hs ht hid (by rw [show k + 1 + j = k + (j + 1) by omega]; exact hb)
      simp only [pairConds]
      split
      · rename_i s' t' _ _
        cases (Nat.beq s'.id t'.id && !b.testBit k) with
        | true => exact List.mem_cons_of_mem _ hc
        | false => exact hc
      · exact hc
theorem conds_spec {cl : List Nat} : ∀ (rest before : List Acc), (∀ c ∈ storeConds cl before.length before rest, c = true) → ∀ (i j : Nat) x y s t, j < i → before.length ≤ i → (before ++ rest)[j]? = some x → (before ++ rest)[i]? = some y →
    x.st = some s → y.st = some t → s.id = t.id → (cl.getD i 0).testBit j = false → s.ok t = true := by
  intro rest
  induction rest with
  | nil =>
    intro before _ i j x y s t _ hi _ hy
    rw [List.append_nil, List.getElem?_eq_none hi] at hy
    cases hy
  | cons z rest ih =>
    intro before h i j x y s t hj hi hx hy hs ht hid hb
    simp only [storeConds, List.mem_append] at h
    by_cases e : i = before.length
    · subst e
      rw [List.getElem?_append_right (Nat.le_refl _)] at hy
      simp only [Nat.sub_self, List.getElem?_cons_zero, Option.some.injEq] at hy
      subst hy
      rw [List.getElem?_append_left hj] at hx
      exact pair_spec before 0 (fun c hc => h c (.inl hc)) j x s t hx hs ht hid (by rw [Nat.zero_add]; exact hb)
    · exact ih (before ++ [z]) (fun c hc => h c (.inr (by simpa using hc))) i j x y s t hj (by simp; omega) (by simpa using hx) (by simpa using hy) hs ht hid hb
/-- What holds while the operations run in any order. -/
structure Mid (E : Env) (ops : Array Oper) (as : List Acc) (st0 st' : ASt) (listed : Array Bool) (cur : ASt) : Prop where
  size : listed.size = ops.size
  closed : ∀ i o, listed.getD i false = true → ops[i]? = some o → ∀ e ∈ o.after, Region.binds .any e = true → listed.getD e.on false = true
  runs : RunsA E ops.toList (rem listed 0 (ops.toList.zip as)) cur st'
  refs : ∀ id ∈ cur.refs, id ∈ st0.refs ∨ ∃ j o, listed.getD j false = true ∧ ops[j]? = some o ∧ id ∈ newIds o
theorem any_ok (hT : TtOk P E.tt) (hC : EnvOk P E) {C : Entry} {ops : Array Oper} {Q : Exit → Act → World → Prop} {as : List Acc} {st0 st' : ASt}
    (hlen : as.length = ops.size) (hdst : ops.toList.all (dstOk E.nt) = true) (hnd : (ops.toList.flatMap newIds).Nodup) (hnew : ∀ i ∈ ops.toList.flatMap newIds, i ∉ st0.refs)
    (hok : edgesOk 0 ops.toList = true) (hord : orderedFrom (closure ops.toList []) 0 [] as = true) (hcnd : ∀ c ∈ storeConds (closure ops.toList []) 0 [] as, c = true)
    (hQ : ∀ a' w' S' γ', Good C w' S' γ' st' a'.tmps → a'.tmps.size = E.nt → a'.defers = [] → Q .normal a' w') :
    ∀ (fuel : Nat) (listed : Array Bool) (cur : ASt) (w : World) (S : Nat → Prop) (γ : Gam) (a : Act), Mid E ops as st0 st' listed cur →
      (List.range ops.size).countP (fun j => !listed.getD j true) ≤ fuel → Good C w S γ cur a.tmps → a.tmps.size = E.nt → a.defers = [] → wpAny P .any ops Q fuel listed a w := by
  have hedge : ∀ i o, ops[i]? = some o → ∀ e ∈ o.after, Region.binds .any e = true → e.on < i := fun i o hi e he hb => by
    have := edges_spec _ 0 hok i o (by simpa using hi) e (by simpa using he) hb
    simpa using this
  have hbits : ∀ i (X : Nat → Prop), (∀ k o, (X k ∨ k = i) → ops[k]? = some o → ∀ e ∈ o.after, Region.binds .any e = true → X e.on) → ∀ k, (X k ∨ k = i) → ∀ j, ((closure ops.toList []).getD k 0).testBit j = true → X j := by
    intro i X hX k
    induction k using Nat.strongRecOn with
    | _ k ih =>
      intro hk j hb
      obtain ⟨o, ho, e, he, h1⟩ := closure_spec ops.toList [] k (Nat.zero_le _) hb
      simp only [List.length_nil, Nat.sub_zero] at ho
      rw [List.mem_filter] at he
      have he' : X e.on := hX k o hk (by simpa using ho) e (by simpa using he.1) he.2
      rcases h1 with rfl | ⟨h1, h2⟩
      · exact he'
      · exact ih e.on h1 (.inl he') j h2
  -- all done
  have fin : ∀ (listed : Array Bool) (cur : ASt) (w : World) (S : Nat → Prop) (γ : Gam) (a : Act), Mid E ops as st0 st' listed cur → Good C w S γ cur a.tmps → a.tmps.size = E.nt → a.defers = [] →
      Region.ready .any ops listed = [] → Q .normal a w := by
    intro listed cur w S γ a hm hg hsz hd hr
    have hall : ∀ i, i < ops.size → listed.getD i true = true ∧ listed.getD i false = true := by
      intro i
      induction i using Nat.strongRecOn with
      | _ i ih =>
        intro hi
        have hi' : i < listed.size := by rw [hm.size]; exact hi
        cases hb : listed.getD i true with
        | true =>
          refine ⟨rfl, ?_⟩
          simp only [Array.getD_eq_getD_getElem?, Array.getElem?_eq_getElem hi', Option.getD_some] at hb ⊢
          exact hb
        | false =>
          have : i ∈ Region.ready .any ops listed := mem_ready.2 ⟨hb, ops[i], Array.getElem?_eq_getElem hi, fun e he hb => (ih e.on (hedge i _ (Array.getElem?_eq_getElem hi) e he hb) (by
            have := hedge i _ (Array.getElem?_eq_getElem hi) e he hb
            omega)).2⟩
          rw [hr] at this
          cases this
    have hrem : rem listed 0 (ops.toList.zip as) = [] := rem_none _ 0 (fun j _ hj => (hall j (by simp [hlen] at hj; omega)).1)
    have hruns := hm.runs
    rw [hrem] at hruns
    exact hQ a w S γ (Same.good hruns hg) hsz hd
  intro fuel
  induction fuel with
  | zero =>
    intro listed cur w S γ a hm hcnt hg hsz hd
    have hr : Region.ready .any ops listed = [] := by
      cases hr : Region.ready .any ops listed with
      | nil => rfl
      | cons i r =>
        have hi : i ∈ Region.ready .any ops listed := by rw [hr]; simp
        obtain ⟨h1, o, h2, _⟩ := mem_ready.1 hi
        have : 0 < (List.range ops.size).countP (fun j => !listed.getD j true) := List.countP_pos_iff.2 ⟨i, List.mem_range.2 (Array.getElem?_eq_some_iff.1 h2).1, by rw [h1]; rfl⟩
        omega
    exact ⟨hr, fin listed cur w S γ a hm hg hsz hd hr⟩
  | succ fuel ih =>
    intro listed cur w S γ a hm hcnt hg hsz hd
    refine ⟨fin listed cur w S γ a hm hg hsz hd, fun i hi => ?_⟩
    obtain ⟨hun, o, ho, hall⟩ := mem_ready.1 hi
    have hi1 : i < ops.size := (Array.getElem?_eq_some_iff.1 ho).1
    have hi2 : i < listed.size := by rw [hm.size]; exact hi1
    have hnl : ¬ listed.getD i false = true := fun h => by
      simp only [Array.getD_eq_getD_getElem?, Array.getElem?_eq_getElem hi2, Option.getD_some] at h hun
      rw [h] at hun
      cases hun
    have hai : i < as.length := by rw [hlen]; exact hi1
    have hget : (ops.toList.zip as)[i - 0]? = some (o, as[i]) := by
      rw [Nat.sub_zero, List.getElem?_zip_eq_some]
      exact ⟨by simpa using ho, List.getElem?_eq_getElem hai⟩
    obtain ⟨L1, L2, g1, g2, g3⟩ := rem_split hun hi2 (ops.toList.zip as) 0 (o, as[i]) (Nat.zero_le _) hget
    have hruns := hm.runs
    rw [g1] at hruns
    have hind : ∀ p ∈ L1, Indep p.2 (as[i]) := by
      intro p hp
      obtain ⟨j, _, j2, j3, j4⟩ := g3 p hp
      rw [Nat.sub_zero, List.getElem?_zip_eq_some] at j3
      have hbit : ((closure ops.toList []).getD i 0).testBit j = false := by
        cases hb : ((closure ops.toList []).getD i 0).testBit j with
        | false => rfl
        | true =>
          have hl := hbits i (fun j => listed.getD j false = true) (fun k o' hk ho' e he hbe => by
            rcases hk with hk | rfl
            · exact hm.closed k o' hk ho' e he hbe
            · rw [ho] at ho'
              cases ho'
              exact hall e he hbe) i (.inr rfl) j hb
          have hj : j < listed.size := by omega
          simp only [Array.getD_eq_getD_getElem?, Array.getElem?_eq_getElem hj, Option.getD_some] at hl j4
          rw [hl] at j4
          cases j4
      refine ⟨?_, fun s t hs ht hid => ?_⟩
      · cases hcf : p.2.conflict (as[i]) with
        | false => rfl
        | true =>
          have := ordered_spec as [] hord i j p.2 as[i] j2 (Nat.zero_le _) (by simpa using j3.2) (by simp [hai]) hcf
          rw [hbit] at this
          cases this
      · exact conds_spec as [] hcnd i j p.2 as[i] s t j2 (Nat.zero_le _) (by simpa using j3.2) (by simp [hai]) hs ht hid hbit
    obtain ⟨s, hstep, _, hrest⟩ := hruns.front hind
    have hfresh : ∀ x ∈ newIds o, x ∉ cur.refs := by
      intro x hx hxr
      rcases hm.refs x hxr with h | ⟨j, o', k1, k2, k3⟩
      · exact hnew x (List.mem_flatMap.2 ⟨o, by simpa using Array.mem_of_getElem? ho, hx⟩) h
      · have := nodup_flat hnd i j o o' x (by simpa using ho) (by simpa using k2) hx k3
        subst this
        exact hnl k1
    have hdo : dstOk E.nt o = true := List.all_eq_true.1 hdst o (by simpa using Array.mem_of_getElem? ho)
    have hmid : Mid E ops as st0 st' (listed.setIfInBounds i true) (stepSt o s cur) := by
      have hset : ∀ j, ((listed.setIfInBounds i true).getD j false = true) = (listed.getD j false = true ∨ j = i) := fun j => propext (getD_set hi2)
      refine ⟨by simp [hm.size], fun k o' hk ho' e he hb => ?_, by rw [g2]; exact hrest, fun x hx => ?_⟩
      · rw [hset] at hk ⊢
        left
        rcases hk with hk | rfl
        · exact hm.closed k o' hk ho' e he hb
        · rw [ho] at ho'
          cases ho'
          exact hall e he hb
      · rcases refs_step hstep x hx with h | h
        · rcases hm.refs x h with h | ⟨j, o', k1, k2, k3⟩
          · exact .inl h
          · exact .inr ⟨j, o', by rw [hset]; exact .inl k1, k2, k3⟩
        · exact .inr ⟨i, o, by rw [hset]; exact .inr rfl, ho, h⟩
    have hcnt' : (List.range ops.size).countP (fun j => !(listed.setIfInBounds i true).getD j true) ≤ fuel := by
      have := count_set (listed := listed) ops.size hi1 hun hm.size
      omega
    have := step_sound hT hC (K := wpAny P .any ops Q fuel (listed.setIfInBounds i true)) (Q := Q) (w := w) (ops := ops) hstep hg hsz hdo hfresh
      (fun a' w' S' γ' h4 h5 h6 => ih _ _ w' S' γ' a' hmid hcnt' h4 h5 (h6.trans hd))
    unfold wpOp
    simp only [ho]
    split
    · rename_i hw
      rw [if_pos hw] at this
      exact .inl this
    · rename_i hw
      rw [if_neg hw] at this
      exact this
theorem condAll_some {R : Type} {r : R} {k : Option R} : ∀ {l : List Bool}, condAll l k = some r → (∀ c ∈ l, c = true) ∧ k = some r := by
  intro l
  induction l with
  | nil => intro h; exact ⟨(fun c hc => by cases hc), h⟩
  | cons b l ih =>
    intro h
    simp only [condAll] at h
    cases b with
    | false => cases h
    | true =>
      obtain ⟨h1, h2⟩ := ih h
      refine ⟨fun c hc => ?_, h2⟩
      rcases List.mem_cons.1 hc with rfl | hc
      · rfl
      · exact h1 c hc
/-- A region, in whatever order its operations may run. -/
theorem region_sound (hm : P.follows .mixedOrders = true) (hT : TtOk P E.tt) (hC : EnvOk P E) {R : Type} {r : R} {C : Entry} {id : Nat} {ops : Array Oper} {draw : Bool} {Q : Exit → Act → World → Prop}
    {st : ASt} {c : ASt → Option R} {w : World} {S : Nat → Prop} {γ : Gam} {a : Act} (h : regionK E ops.toList draw st c = some r) (hg : Good C w S γ st a.tmps) (hsz : a.tmps.size = E.nt) (hd : a.defers = [])
    (hQ : ∀ st' a' w' S' γ', c st' = some r → Good C w' S' γ' st' a'.tmps → a'.tmps.size = E.nt → a'.defers = [] → Q .normal a' w') : (Code.region id ops draw).wp P Q a w := by
  unfold regionK at h
  cases hf : (freshB ops.toList st && ops.toList.all (dstOk E.nt)) with
  | false => rw [hf] at h; cases h
  | true =>
    rw [hf, cond_true] at h
    simp only [Bool.and_eq_true] at hf
    obtain ⟨hf1, hdst⟩ := hf
    unfold freshB at hf1
    simp only [Bool.and_eq_true, Bool.not_eq_true'] at hf1
    have hnd := distinctB_nodup hf1.1
    have hnew : ∀ i ∈ ops.toList.flatMap newIds, i ∉ st.refs := fun i hi hr => by
      rw [meets_of hi hr] at hf1
      cases hf1.2
    obtain ⟨ss, as, st', h1, h2⟩ := opsK_runs _ _ _ _ h
    rw [List.append_nil] at h2
    cases draw with
    | false =>
      simp only [Bool.not_false, Bool.true_or, cond_true, cond_false, condAll] at h2
      exact wp_region_list (seq_ok hT hC _ st ss as st' w S γ a h1 hg hsz hdst hnd hnew hd (fun a' w' S' γ' g1 g2 g3 => hQ st' a' w' S' γ' h2 g1 g2 g3))
    | true =>
      simp only [Bool.not_true, Bool.false_or, cond_true] at h2
      cases hdr : drawOk ops.toList as.reverse with
      | false => rw [hdr] at h2; cases h2
      | true =>
        rw [hdr, cond_true, List.reverse_reverse] at h2
        obtain ⟨hcnd, h2⟩ := condAll_some h2
        unfold drawOk at hdr
        simp only [Bool.and_eq_true, List.reverse_reverse] at hdr
        obtain ⟨hlen, hA⟩ := runs_A h1
        simp only [Array.length_toList] at hlen
        have hrem : rem (Array.replicate ops.size false) 0 (ops.toList.zip as) = ops.toList.zip as := by
          have key : ∀ (l : List (Oper × Acc)) (k : Nat), k + l.length ≤ ops.size → rem (Array.replicate ops.size false) k l = l := by
            intro l
            induction l with
            | nil => intro k _; rfl
            | cons x l ih =>
              intro k hk
              simp only [rem]
              have hlt : k < ops.size := by simp at hk; omega
              rw [if_neg (by simp [hlt]), ih (k + 1) (by simp at hk; omega)]
          exact key _ 0 (by simp [hlen])
        refine wp_region_any hm (any_ok hT hC (as := as) (st0 := st) (st' := st') hlen hdst hnd hnew hdr.1 hdr.2 hcnd
          (fun a' w' S' γ' g1 g2 g3 => hQ st' a' w' S' γ' h2 g1 g2 g3) ops.size _ st w.drew S γ a ⟨by simp, fun i o hi => ?_, by rw [hrem]; exact hA, fun x hx => .inl hx⟩ ?_ hg.drew hsz hd)
        · by_cases hi' : i < ops.size <;> simp [hi'] at hi
        · exact Nat.le_trans List.countP_le_length (by simp)
end Go.Lift
