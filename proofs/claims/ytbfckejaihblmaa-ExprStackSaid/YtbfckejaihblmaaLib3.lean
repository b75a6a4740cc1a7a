/- A library of my own: typed data, abstract runs of code, and their soundness. -/
import Derived.Test.YtbfckejaihblmaaLib2
import Derived.Orders
import Derived.Tactics

/- The lifting library, part J: regions, in the text's order and in any order. -/
namespace Go.Lift
open Go
variable {P : Program} {E : Env}

/-! ### What an operation names -/

theorem toPure_sub {rows : RT} {t : Ty} {s : SV} {x : t.den} {is : List Nat} (h : toPure rows t s = some (x, is)) : ∀ id ∈ is, id ∈ s.ids := toPure_ids h

theorem freeze_keys {rows : RT} : ∀ {is : List Nat} {fr : Upd}, freeze rows is = some fr → ∀ id ∈ fr.map (·.1), id ∈ is := by
  intro is
  induction is with
  | nil => intro fr h id hid; simp only [freeze, Option.some.injEq] at h; subst h; simp at hid
  | cons i is ih =>
    intro fr h id hid
    simp only [freeze] at h
    split at h
    · split at h
      · split at h
        · rename_i q hq
          simp only [Option.some.injEq] at h
          subst h
          simp only [List.map_cons, List.mem_cons] at hid ⊢
          exact hid.imp (fun h => h) (fun h => ih hq id h)
        · cases h
      · exact List.mem_cons_of_mem _ (ih h id hid)
      · cases h
    · cases h

theorem ones_ids : ∀ {avs : List (Option AV)} {vs : List SV}, ones avs = some vs → vs.flatMap SV.ids = idsOf avs := by
  intro avs
  induction avs with
  | nil => intro vs h; simp only [ones, Option.some.injEq] at h; subst h; rfl
  | cons x avs ih =>
    intro vs h
    cases x with
    | none => simp [ones] at h
    | some av =>
      cases av with
      | tup l => simp [ones] at h
      | one s =>
        simp only [ones] at h
        split at h
        · rename_i l hl
          simp only [Option.some.injEq] at h
          subst h
          simp only [List.flatMap_cons, ih hl]
          rfl
        · cases h

theorem fillP_ids {rows : RT} {t : Ty} : ∀ {ps : List (Nat × SV)} {x y : t.den} {is : List Nat}, fillP rows t x ps = some (y, is) → ∀ id ∈ is, ∃ p ∈ ps, id ∈ p.2.ids := by
  intro ps
  induction ps with
  | nil => intro x y is h id hid; simp only [fillP, Option.some.injEq, Prod.mk.injEq] at h; obtain ⟨_, rfl⟩ := h; cases hid
  | cons p ps ih =>
    intro x y is h id hid
    simp only [fillP] at h
    split at h
    · split at h
      · rename_i z i1 hz
        split at h
        · split at h
          · rename_i z' i2 hz'
            simp only [Option.some.injEq, Prod.mk.injEq] at h
            obtain ⟨_, rfl⟩ := h
            rcases List.mem_append.1 hid with hid | hid
            · exact ⟨p, by simp, toPure_sub hz id hid⟩
            · obtain ⟨q, h1, h2⟩ := ih hz' id hid
              exact ⟨q, by simp [h1], h2⟩
          · cases h
        · cases h
      · cases h
    · cases h

theorem fillL_ids {rows : RT} {t : Ty} : ∀ {ps : List (Nat × SV)} {x y : List t.den} {is : List Nat}, fillL rows t x ps = some (y, is) → ∀ id ∈ is, ∃ p ∈ ps, id ∈ p.2.ids := by
  intro ps
  induction ps with
  | nil => intro x y is h id hid; simp only [fillL, Option.some.injEq, Prod.mk.injEq] at h; obtain ⟨_, rfl⟩ := h; cases hid
  | cons p ps ih =>
    intro x y is h id hid
    obtain ⟨i, s⟩ := p
    simp only [fillL] at h
    split at h
    · rename_i z i1 hz
      by_cases hi : i < x.length
      · simp only [hi, decide_true, cond_true] at h
        split at h
        · rename_i z' i2 hz'
          simp only [Option.some.injEq, Prod.mk.injEq] at h
          obtain ⟨_, rfl⟩ := h
          rcases List.mem_append.1 hid with hid | hid
          · exact ⟨(i, s), by simp, toPure_sub hz id hid⟩
          · obtain ⟨q, h1, h2⟩ := ih hz' id hid
            exact ⟨q, by simp [h1], h2⟩
        · cases h
      · simp [hi] at h
    · cases h

theorem zip_ids {ps : List Nat} {vs : List SV} {id : Nat} (h : ∃ p ∈ ps.zip vs, id ∈ p.2.ids) : id ∈ vs.flatMap SV.ids := by
  obtain ⟨p, h1, h2⟩ := h
  exact List.mem_flatMap.2 ⟨p.2, (List.of_mem_zip h1).2, h2⟩

theorem bind_outs {rows : RT} : ∀ (ps : List PM) (args : List SV) (b : Bound (argTy ps)), bindL rows ps args = some b → ∀ id, id ∈ b.reads ∨ id ∈ b.outs → id ∈ args.flatMap SV.ids := by
  intro ps
  induction ps with
  | nil =>
    intro args b h id hid
    match args with
    | [] => simp only [bindL, Option.some.injEq] at h; subst h; simp at hid
    | _ :: _ => simp [bindL] at h
  | cons p ps ih =>
    intro args b h id hid
    match args with
    | [] => simp [bindL] at h
    | s :: args =>
      simp only [bindL] at h
      split at h
      · rename_i b1 hb1
        split at h
        · rename_i bs hbs
          simp only [Option.some.injEq] at h
          subst h
          have h1 : ∀ id, id ∈ b1.reads ∨ id ∈ b1.outs → id ∈ s.ids := by
            intro id hid
            cases p with
            | pure t =>
              simp only [bind1] at hb1
              split at hb1
              · rename_i x is hx
                simp only [Option.some.injEq] at hb1
                subst hb1
                rcases hid with hid | hid
                · exact toPure_sub hx id hid
                · cases hid
              · cases hb1
            | own t =>
              cases s with
              | own i =>
                simp only [bind1] at hb1
                split at hb1
                · split at hb1
                  · cases hb1
                  · simp only [Option.some.injEq] at hb1; subst hb1; simpa [SV.ids] using hid
                  · cases hb1
                · cases hb1
              | _ => simp [bind1] at hb1
            | ptr t =>
              cases s with
              | optr i j p =>
                simp only [bind1] at hb1
                split at hb1
                · split at hb1
                  · cases hb1
                  · simp only [Option.some.injEq] at hb1; subst hb1; simpa [SV.ids] using hid
                  · cases hb1
                · cases hb1
              | _ => simp [bind1] at hb1
            | fn f =>
              cases s with
              | fn g caps =>
                simp only [bind1] at hb1
                cases hcc : (Nat.beq f g && caps.isEmpty) with
                | false => rw [hcc] at hb1; cases hb1
                | true => rw [hcc] at hb1; simp only [cond_true, Option.some.injEq] at hb1; subst hb1; simp at hid
              | _ => simp [bind1] at hb1
          have h2 := ih args bs hbs id
          simp only [List.mem_append, List.flatMap_cons] at hid ⊢
          rcases hid with (hid | hid) | (hid | hid)
          · exact .inl (h1 id (.inl hid))
          · exact .inr (h2 (.inl hid))
          · exact .inl (h1 id (.inr hid))
          · exact .inr (h2 (.inr hid))
        · cases h
      · cases h

theorem outs_keys {rows : RT} : ∀ (ps : List PM) (z : (outTy ps).den) (os : List Nat) (o : Upd), outs1 rows ps z os = some o → ∀ id ∈ o.map (·.1), id ∈ os := by
  intro ps
  induction ps with
  | nil =>
    intro z os o h id hid
    cases os with
    | nil => simp only [outs1, Option.some.injEq] at h; subst h; simp at hid
    | cons _ _ => simp [outs1] at h
  | cons p ps ih =>
    intro z os o h id hid
    cases p with
    | pure t => exact ih z os o h id hid
    | fn f => exact ih z os o h id hid
    | own t =>
      cases os with
      | nil => simp [outs1] at h
      | cons i os =>
        simp only [outs1] at h
        split at h
        · split at h
          · split at h
            · rename_i u hu
              simp only [Option.some.injEq] at h
              subst h
              simp only [List.map_cons, List.mem_cons] at hid ⊢
              exact hid.imp (fun h => h) (fun h => ih z.2 os u hu id h)
            · cases h
          · cases h
        · cases h
    | ptr t =>
      cases os with
      | nil => simp [outs1] at h
      | cons i os =>
        simp only [outs1] at h
        split at h
        · split at h
          · split at h
            · rename_i u hu
              simp only [Option.some.injEq] at h
              subst h
              simp only [List.map_cons, List.mem_cons] at hid ⊢
              exact hid.imp (fun h => h) (fun h => ih z.2 os u hu id h)
            · cases h
          · cases h
        · cases h

theorem res_ids : ∀ (rs : List RM) (d i : Nat) (ps : List PM) (y : (resTy rs ps).den) (id : Nat), (id ∈ (res1 d i rs ps y).1.flatMap SV.ids ∨ id ∈ (res1 d i rs ps y).2.1.map (·.1)) → ∃ j, i ≤ j ∧ j < i + rs.length ∧ id = d + 4096 * j := by
  intro rs
  induction rs with
  | nil => intro d i ps y id h; simp [res1] at h
  | cons r rs ih =>
    intro d i ps y id h
    cases r with
    | pure t =>
      simp only [res1, List.flatMap_cons, SV.ids, List.nil_append] at h
      obtain ⟨j, h1, h2, h3⟩ := ih d (i + 1) ps y.2 id h
      exact ⟨j, by omega, by simp; omega, h3⟩
    | own t =>
      simp only [res1, List.flatMap_cons, SV.ids, List.map_cons, List.mem_cons, List.cons_append, List.nil_append] at h
      rcases h with (h | h) | (h | h)
      · exact ⟨i, Nat.le_refl _, by simp, h⟩
      · obtain ⟨j, h1, h2, h3⟩ := ih d (i + 1) ps y.2 id (.inl h)
        exact ⟨j, by omega, by simp; omega, h3⟩
      · exact ⟨i, Nat.le_refl _, by simp, h⟩
      · obtain ⟨j, h1, h2, h3⟩ := ih d (i + 1) ps y.2 id (.inr h)
        exact ⟨j, by omega, by simp; omega, h3⟩

theorem packAV_ids (l : List SV) : AV.ids (some (packAV l)) = l.flatMap SV.ids := by
  match l with
  | [] => rfl
  | [s] => simp [packAV, AV.ids]
  | _ :: _ :: _ => rfl

theorem new_mem {f : Oper} {d j : Nat} (h : j < 8) (hd : f.dst.getD 1000000 = d) {args : Array Operand} {tys : Array TypeId} {fo : Operand} (hop : f.op = .call ⟨.value fo, args, tys⟩) : d + 4096 * j ∈ newIds f := by
  simp only [newIds, hop, hd]
  have : j = 0 ∨ j = 1 ∨ j = 2 ∨ j = 3 ∨ j = 4 ∨ j = 5 ∨ j = 6 ∨ j = 7 := by omega
  rcases this with rfl | rfl | rfl | rfl | rfl | rfl | rfl | rfl <;> simp

theorem base_ids {rows : RT} {t : Ty} {s : SV} {l : List t.den} {u : Upd} (h : baseOf rows t s = some (l, u)) : ∀ id ∈ u.map (·.1), id ∈ s.ids := by
  intro id hid
  unfold baseOf at h
  split at h
  · simp only [Option.some.injEq, Prod.mk.injEq] at h
    obtain ⟨_, rfl⟩ := h
    simp at hid
  · split at h
    · split at h
      · simp only [Option.some.injEq, Prod.mk.injEq] at h
        obtain ⟨_, rfl⟩ := h
        simpa [SV.ids] using hid
      · cases h
    · cases h
  · split at h
    · split at h
      · simp only [Option.some.injEq, Prod.mk.injEq] at h
        obtain ⟨_, rfl⟩ := h
        simpa [SV.ids] using hid
      · cases h
    · cases h
  · cases h

/-- A value alone. -/
def Plain (v : AV) (u : Upd) : Prop := AV.ids (some v) = [] ∧ u = []

theorem arith_plain {op : BinOp} {k : IntKind} {a b : Int} {v : AV} {u : Upd} (h : (arithK op k a b fun v => Tree.ret (v, ([] : Upd))).val = some (v, u)) : Plain v u := by
  unfold arithK at h
  split at h <;> first
    | (simp only [Tree.val, Option.some.injEq, Prod.mk.injEq] at h; obtain ⟨rfl, rfl⟩ := h; exact ⟨rfl, rfl⟩)
    | (obtain ⟨_, h⟩ := br_val' h; simp only [Tree.val, Option.some.injEq, Prod.mk.injEq] at h; obtain ⟨rfl, rfl⟩ := h; exact ⟨rfl, rfl⟩)
    | (simp [Tree.val] at h; done)

theorem bin_ids {op : BinOp} {t id : Nat} {a b : SV} {v : AV} {u : Upd} (h : (binK E op t a b fun v => Tree.ret (v, ([] : Upd))).val = some (v, u)) : (id ∈ AV.ids (some v) ∨ id ∈ u.map (·.1)) = False := by
  have : Plain v u := by
    unfold binK at h
    split at h
    · split at h
      · unfold shiftK at h
        obtain ⟨_, h⟩ := br_val' h
        simp only [Tree.val, Option.some.injEq, Prod.mk.injEq] at h; obtain ⟨rfl, rfl⟩ := h; exact ⟨rfl, rfl⟩
      · unfold shiftK at h
        obtain ⟨_, h⟩ := br_val' h
        simp only [Tree.val, Option.some.injEq, Prod.mk.injEq] at h; obtain ⟨rfl, rfl⟩ := h; exact ⟨rfl, rfl⟩
      · obtain ⟨_, h⟩ := br_val h
        exact arith_plain h
    · unfold strK at h
      split at h <;> first
        | (simp only [Tree.val, Option.some.injEq, Prod.mk.injEq] at h; obtain ⟨rfl, rfl⟩ := h; exact ⟨rfl, rfl⟩)
        | (obtain ⟨_, h⟩ := br_val h; simp only [Tree.val, Option.some.injEq, Prod.mk.injEq] at h; obtain ⟨rfl, rfl⟩ := h; exact ⟨rfl, rfl⟩)
        | (simp [Tree.val] at h; done)
    · split at h <;> first
        | (simp only [Tree.val, Option.some.injEq, Prod.mk.injEq] at h; obtain ⟨rfl, rfl⟩ := h; exact ⟨rfl, rfl⟩)
        | (simp [Tree.val] at h; done)
    · split at h
      · obtain ⟨_, h⟩ := br_val h
        split at h <;> first
          | (simp only [Tree.val, Option.some.injEq, Prod.mk.injEq] at h; obtain ⟨rfl, rfl⟩ := h; exact ⟨rfl, rfl⟩)
          | (simp [Tree.val] at h; done)
      · simp [Tree.val] at h
    · simp [Tree.val] at h
  obtain ⟨h1, rfl⟩ := this
  simp [h1]

theorem sliceK_ids {rows : RT} {s : SV} {lo hi : Option Int} {v : AV} {u : Upd} (h : (sliceK rows s lo hi fun v => Tree.ret (v, ([] : Upd))).val = some (v, u)) : u = [] ∧ ∀ id ∈ AV.ids (some v), id ∈ s.ids := by
  unfold sliceK at h
  split at h
  · obtain ⟨_, h⟩ := br_val h
    split at h <;> first
      | (simp only [Tree.val, Option.some.injEq, Prod.mk.injEq] at h; obtain ⟨rfl, rfl⟩ := h; exact ⟨rfl, fun id hid => hid⟩)
      | (simp [Tree.val] at h; done)
  · simp [Tree.val] at h

theorem sliceOp_ids {rows : RT} {lo hi mx : Bool} {s : SV} {vs : List SV} {v : AV} {u : Upd} (h : (sliceOpK rows lo hi mx s vs fun v => Tree.ret (v, ([] : Upd))).val = some (v, u)) : u = [] ∧ ∀ id ∈ AV.ids (some v), id ∈ s.ids := by
  unfold sliceOpK at h
  split at h <;> first
    | exact sliceK_ids h
    | (obtain ⟨_, h⟩ := br_val h; simp only [Tree.val, Option.some.injEq, Prod.mk.injEq] at h; obtain ⟨rfl, rfl⟩ := h; exact ⟨rfl, fun id hid => by simp [AV.ids, SV.ids] at hid⟩)
    | (simp [Tree.val] at h; done)

/-- Whatever an operation names was named before, or is new. -/
theorem opT_refs {o : Oper} {avs : List (Option AV)} {rows : RT} {v : AV} {u : Upd} (h : (opT E o avs rows).val = some (v, u)) :
    ∀ id, (id ∈ AV.ids (some v) ∨ id ∈ u.map (·.1)) → id ∈ idsOf avs ∨ id ∈ newIds o := by
  obtain ⟨dst, op, ty, pos, af, gd⟩ := o
  intro id hid
  have nov : ∀ (t : Ty) (x : t.den), AV.ids (some (.one (.val t x))) = [] := fun _ _ => rfl
  cases op with
  | move x =>
    simp only [opT] at h
    split at h
    · simp only [Tree.val, Option.some.injEq, Prod.mk.injEq] at h
      obtain ⟨rfl, rfl⟩ := h
      left
      simpa [idsOf] using hid
    · simp [Tree.val] at h
  | assign x =>
    simp only [opT] at h
    split at h
    · simp only [Tree.val, Option.some.injEq, Prod.mk.injEq] at h
      obtain ⟨rfl, rfl⟩ := h
      left
      simpa [idsOf] using hid
    · simp [Tree.val] at h
  | pick c x y =>
    simp only [opT, pickK] at h
    split at h
    · simp only [Tree.val, Option.some.injEq, Prod.mk.injEq] at h
      obtain ⟨rfl, rfl⟩ := h
      simp [AV.ids, SV.ids] at hid
    · rename_i b p q _
      left
      cases b <;> simp only [Tree.val, cond_true, cond_false, Option.some.injEq, Prod.mk.injEq] at h <;> obtain ⟨rfl, rfl⟩ := h <;>
        simp only [List.map_nil, List.not_mem_nil, or_false] at hid <;> simp [idsOf, hid]
    · simp [Tree.val] at h
  | alloc t =>
    simp only [opT, allocK] at h
    split at h
    · simp only [Tree.val, Option.some.injEq, Prod.mk.injEq] at h
      obtain ⟨rfl, rfl⟩ := h
      right
      simpa [newIds, AV.ids, SV.ids] using hid
    · simp [Tree.val] at h
  | box t x =>
    simp only [opT, boxK] at h
    split at h
    · rename_i s _
      split at h
      · rename_i x is hx
        split at h
        · rename_i fr hfr
          simp only [Tree.val, Option.some.injEq, Prod.mk.injEq] at h
          obtain ⟨rfl, rfl⟩ := h
          simp only [AV.ids, SV.ids, List.map_cons, List.mem_cons] at hid
          rcases hid with hid | hid | hid
          · right; simpa [newIds] using hid
          · right; simpa [newIds] using hid
          · left
            simpa [idsOf, AV.ids] using toPure_sub hx id (freeze_keys hfr id hid)
        · simp [Tree.val] at h
      · simp [Tree.val] at h
    · simp [Tree.val] at h
  | load t x =>
    simp only [opT, one1] at h
    split at h
    · rename_i s
      unfold loadK at h
      split at h
      · obtain ⟨_, h⟩ := br_val h
        simp only [Tree.val, Option.some.injEq, Prod.mk.injEq] at h
        obtain ⟨rfl, rfl⟩ := h
        simp [AV.ids, SV.ids] at hid
      · split at h
        · split at h
          · obtain ⟨_, h⟩ := br_val h
            simp only [Tree.val, Option.some.injEq, Prod.mk.injEq] at h
            obtain ⟨rfl, rfl⟩ := h
            simp [AV.ids, SV.ids] at hid
          · simp [Tree.val] at h
        · simp [Tree.val] at h
      · simp [Tree.val] at h
    · simp [Tree.val] at h
  | store t x y =>
    simp only [opT, one2] at h
    split at h
    · rename_i s s'
      simp only [storeOpK] at h
      split at h
      · rename_i i0 j0 p0
        simp only [storeK] at h
        split at h
        · split at h
          · simp [Tree.val] at h
          · rename_i x is hx _
            split at h
            · obtain ⟨_, h⟩ := br_val' h
              split at h
              · rename_i fr hfr
                simp only [Tree.val, Option.some.injEq, Prod.mk.injEq] at h
                obtain ⟨rfl, rfl⟩ := h
                simp only [AV.ids, List.flatMap_nil, List.not_mem_nil, false_or, List.map_cons, List.mem_cons] at hid
                left
                rcases hid with hid | hid
                · simp [idsOf, AV.ids, SV.ids, hid]
                · simp [idsOf, AV.ids, toPure_sub hx id (freeze_keys hfr id hid)]
              · simp [Tree.val] at h
            · simp [Tree.val] at h
          · simp [Tree.val] at h
        · simp [Tree.val] at h
      · simp [Tree.val] at h
    · simp [Tree.val] at h
  | nilCheck x =>
    simp only [opT, one1] at h
    split at h
    · simp only [nilCheckK] at h
      split at h
      · simp only [Tree.val, Option.some.injEq, Prod.mk.injEq] at h
        obtain ⟨rfl, rfl⟩ := h
        simp [AV.ids, SV.ids] at hid
      · simp only [Tree.val, Option.some.injEq, Prod.mk.injEq] at h
        obtain ⟨rfl, rfl⟩ := h
        left; simpa [idsOf] using hid
      · split at h
        · simp only [Tree.val, Option.some.injEq, Prod.mk.injEq] at h
          obtain ⟨rfl, rfl⟩ := h
          left; simpa [idsOf] using hid
        · simp [Tree.val] at h
      · simp [Tree.val] at h
    · simp [Tree.val] at h
  | fieldAddr t x f =>
    simp only [opT, one1] at h
    split at h
    · simp only [fieldAddrK] at h
      split at h
      · obtain ⟨_, h⟩ := br_val h
        split at h
        · obtain ⟨_, h⟩ := br_val h
          simp only [Tree.val, Option.some.injEq, Prod.mk.injEq] at h
          obtain ⟨rfl, rfl⟩ := h
          simp [AV.ids, SV.ids] at hid
        · simp [Tree.val] at h
      · split at h
        · split at h
          · obtain ⟨_, h⟩ := br_val h
            split at h
            · obtain ⟨_, h⟩ := br_val h
              simp only [Tree.val, Option.some.injEq, Prod.mk.injEq] at h
              obtain ⟨rfl, rfl⟩ := h
              left
              simpa [idsOf, AV.ids, SV.ids] using hid
            · simp [Tree.val] at h
          · simp [Tree.val] at h
        · simp [Tree.val] at h
      · simp [Tree.val] at h
    · simp [Tree.val] at h
  | field t x f =>
    simp only [opT, fieldK] at h
    split at h
    · obtain ⟨_, h⟩ := br_val h
      split at h
      · simp only [Tree.val, Option.some.injEq, Prod.mk.injEq] at h
        obtain ⟨rfl, rfl⟩ := h
        simp [AV.ids, SV.ids] at hid
      · simp [Tree.val] at h
    · simp [Tree.val] at h
  | indexAddr t x y =>
    simp only [opT, one2] at h
    split at h
    · rename_i s s'
      simp only [intK] at h
      split at h
      · unfold indexAddrK at h
        split at h
        · obtain ⟨_, h⟩ := br_val h
          obtain ⟨_, _, h⟩ := bnd_val h
          simp only [Tree.val, Option.some.injEq, Prod.mk.injEq] at h
          obtain ⟨rfl, rfl⟩ := h
          simp [AV.ids, SV.ids] at hid
        · split at h
          · obtain ⟨_, h⟩ := br_val h
            obtain ⟨_, h⟩ := br_val h
            simp only [Tree.val, Option.some.injEq, Prod.mk.injEq] at h
            obtain ⟨rfl, rfl⟩ := h
            left
            simpa [idsOf, AV.ids, SV.ids] using hid
          · simp [Tree.val] at h
        · split at h
          · obtain ⟨_, h⟩ := br_val h
            obtain ⟨_, h⟩ := br_val h
            simp only [Tree.val, Option.some.injEq, Prod.mk.injEq] at h
            obtain ⟨rfl, rfl⟩ := h
            left
            simpa [idsOf, AV.ids, SV.ids] using hid
          · simp [Tree.val] at h
        · simp [Tree.val] at h
      · simp [Tree.val] at h
    · simp [Tree.val] at h
  | index t x y =>
    simp only [opT, indexK] at h
    split at h
    · obtain ⟨_, _, h⟩ := bnd_val h
      simp only [Tree.val, Option.some.injEq, Prod.mk.injEq] at h
      obtain ⟨rfl, rfl⟩ := h
      simp [AV.ids, SV.ids] at hid
    · simp [Tree.val] at h
  | extract x i =>
    simp only [opT, extractK] at h
    split at h
    · split at h
      · rename_i s hs
        simp only [Tree.val, Option.some.injEq, Prod.mk.injEq] at h
        obtain ⟨rfl, rfl⟩ := h
        left
        simp only [AV.ids, List.map_nil, List.not_mem_nil, or_false] at hid
        simp only [idsOf, List.flatMap_cons, List.flatMap_nil, List.append_nil, AV.ids]
        exact List.mem_flatMap.2 ⟨s, List.mem_of_getElem? hs, hid⟩
      · simp [Tree.val] at h
    · simp [Tree.val] at h
  | binOp op xT x y yT =>
    simp only [opT, one2] at h
    split at h
    · exact absurd hid (by rw [bin_ids h]; simp)
    · simp [Tree.val] at h
  | unOp op xT x =>
    simp only [opT, one1] at h
    split at h
    · simp only [unK] at h
      split at h <;> first
        | (simp only [Tree.val, Option.some.injEq, Prod.mk.injEq] at h; obtain ⟨rfl, rfl⟩ := h; simp [AV.ids, SV.ids] at hid; done)
        | simp [Tree.val] at h
    · simp [Tree.val] at h
  | convert s d x =>
    simp only [opT, one1] at h
    split at h
    · simp only [convK] at h
      split at h <;> first
        | (simp only [Tree.val, Option.some.injEq, Prod.mk.injEq] at h; obtain ⟨rfl, rfl⟩ := h; simp [AV.ids, SV.ids] at hid; done)
        | simp [Tree.val] at h
    · simp [Tree.val] at h
  | build t ps =>
    simp only [opT, buildK] at h
    split at h
    · rename_i vs _ ho
      obtain ⟨_, h⟩ := br_val h
      split at h
      · rename_i x is hx
        split at h
        · rename_i fr hfr
          simp only [Tree.val, Option.some.injEq, Prod.mk.injEq] at h
          obtain ⟨rfl, rfl⟩ := h
          simp only [AV.ids, SV.ids, List.not_mem_nil, false_or] at hid
          left
          rw [← ones_ids ho]
          exact zip_ids (fillP_ids hx id (freeze_keys hfr id hid))
        · simp [Tree.val] at h
      · simp [Tree.val] at h
    · simp [Tree.val] at h
  | buildSlice t n ps =>
    simp only [opT, buildSliceK] at h
    split at h
    · rename_i vs _ ho
      obtain ⟨_, h⟩ := br_val h
      split at h
      · rename_i x is hx
        split at h
        · rename_i fr hfr
          simp only [Tree.val, Option.some.injEq, Prod.mk.injEq] at h
          obtain ⟨rfl, rfl⟩ := h
          simp only [AV.ids, SV.ids, List.map_cons, List.mem_cons] at hid
          rcases hid with hid | hid | hid
          · right; simpa [newIds] using hid
          · right; simpa [newIds] using hid
          · left
            rw [← ones_ids ho]
            exact zip_ids (fillL_ids hx id (freeze_keys hfr id hid))
        · simp [Tree.val] at h
      · simp [Tree.val] at h
    · simp [Tree.val] at h
  | makeSlice t x y =>
    simp only [opT, one2] at h
    split at h
    · simp only [intK] at h
      split at h
      · split at h
        · simp only [makeSliceK] at h
          split at h
          · obtain ⟨_, h⟩ := br_val h
            simp only [Tree.val, Option.some.injEq, Prod.mk.injEq] at h
            obtain ⟨rfl, rfl⟩ := h
            right
            simpa [newIds, AV.ids, SV.ids] using hid
          · simp [Tree.val] at h
        · simp [Tree.val] at h
      · simp [Tree.val] at h
    · simp [Tree.val] at h
  | slice t x lo hi mx =>
    simp only [opT, sliceOpT] at h
    split at h
    · rename_i s vs ho
      obtain ⟨_, h⟩ := br_val h
      left
      rw [← ones_ids ho, List.flatMap_cons]
      obtain ⟨rfl, h1⟩ := sliceOp_ids h
      simp only [List.map_nil, List.not_mem_nil, or_false] at hid
      exact List.mem_append_left _ (h1 id hid)
    · simp [Tree.val] at h
  | call c =>
    obtain ⟨cal, args, tys⟩ := c
    cases cal with
    | invoke r n => simp [opT, callOpK, Tree.val] at h
    | builtin b =>
      cases b with
      | len =>
        simp only [opT, callOpK, one1] at h
        split at h
        · obtain ⟨_, h⟩ := br_val h
          simp only [lenK] at h
          split at h
          · simp only [Tree.val, Option.some.injEq, Prod.mk.injEq] at h
            obtain ⟨rfl, rfl⟩ := h
            simp [AV.ids, SV.ids] at hid
          · simp [Tree.val] at h
        · simp [Tree.val] at h
      | append =>
        simp only [opT, callOpK, one2] at h
        split at h
        · rename_i s x
          obtain ⟨_, h⟩ := br_val h
          simp only [appendK] at h
          split at h
          · split at h
            · rename_i xs l u0 hx hb
              obtain ⟨_, h⟩ := br_val h
              simp only [Tree.val, Option.some.injEq, Prod.mk.injEq] at h
              obtain ⟨rfl, rfl⟩ := h
              simp only [AV.ids, SV.ids, List.map_cons, List.mem_cons] at hid
              rcases hid with hid | hid | hid
              · right; simpa [newIds] using hid
              · right; simpa [newIds] using hid
              · left
                simp only [idsOf, List.flatMap_cons, AV.ids, List.mem_append]
                exact .inl (base_ids hb id hid)
            · simp [Tree.val] at h
          · simp [Tree.val] at h
        · simp [Tree.val] at h
      | _ => simp [opT, callOpK, Tree.val] at h
    | value fo =>
      simp only [opT, callOpK] at h
      split at h
      · rename_i f caps vs ho
        unfold callK at h
        split at h
        · rename_i sig hsig
          split at h
          · rename_i b hb
            obtain ⟨h0, h⟩ := br_val h
            simp only [Bool.and_eq_true, decide_eq_true_eq, List.all_eq_true, Bool.not_eq_true'] at h0
            split at h
            · rename_i fr hfr
              obtain ⟨y, hy, h⟩ := bnd_val h
              split at h
              · rename_i o' ho'
                simp only [Tree.val, Option.some.injEq, Prod.mk.injEq] at h
                obtain ⟨rfl, rfl⟩ := h
                have hargs : ∀ id, id ∈ b.reads ∨ id ∈ b.outs → id ∈ idsOf avs := by
                  intro id hid
                  have := bind_outs _ _ _ hb id hid
                  rw [← ones_ids ho, List.flatMap_cons]
                  rw [List.flatMap_append] at this
                  rcases List.mem_append.1 this with this | this
                  · exact List.mem_append_right _ this
                  · refine List.mem_append_left _ ?_
                    obtain ⟨s, h1, h2⟩ := List.mem_flatMap.1 this
                    obtain ⟨c, h3, rfl⟩ := List.mem_map.1 h1
                    simp only [SV.ids, List.mem_singleton] at h2
                    subst h2
                    exact h3
                have hnew : ∀ j, 0 ≤ j ∧ j < 0 + sig.rs.length → dst.getD 1000000 + 4096 * j ∈ newIds ⟨dst, .call ⟨.value fo, args, tys⟩, ty, pos, af, gd⟩ :=
                  fun j hj => new_mem (by omega) rfl rfl
                rw [packAV_ids] at hid
                simp only [List.map_append, List.mem_append] at hid
                rcases hid with hid | (hid | hid) | hid
                · obtain ⟨j, h1, h2, rfl⟩ := res_ids _ _ _ _ _ id (.inl hid)
                  exact .inr (hnew j ⟨h1, h2⟩)
                · obtain ⟨j, h1, h2, rfl⟩ := res_ids _ _ _ _ _ id (.inr hid)
                  exact .inr (hnew j ⟨h1, h2⟩)
                · exact .inl (hargs id (.inr (outs_keys _ _ _ _ ho' id hid)))
                · left
                  cases hal : sig.alias with
                  | true =>
                    rw [hal] at hfr
                    exact hargs id (.inl (freeze_keys hfr id hid))
                  | false =>
                    rw [hal] at hfr
                    simp only [cond_false, Option.some.injEq] at hfr
                    subst hfr
                    simp at hid
              · simp [Tree.val] at h
            · simp [Tree.val] at h
          · simp [Tree.val] at h
        · simp [Tree.val] at h
      · simp [Tree.val] at h
  | _ => simp [opT, Tree.val] at h

end Go.Lift

/- The lifting library, part K: regions, in the text's order and in any order. -/
namespace Go.Lift
open Go
variable {P : Program} {E : Env}

/-! ### States that answer alike -/

structure Same (st st' : ASt) : Prop where
  slot : ∀ i, st.slot i = st'.slot i
  row : ∀ id, st.row id = st'.row id

theorem Same.refl (st : ASt) : Same st st := ⟨fun _ => rfl, fun _ => rfl⟩
theorem Same.symm {a b : ASt} (h : Same a b) : Same b a := ⟨fun i => (h.slot i).symm, fun i => (h.row i).symm⟩
theorem Same.trans {a b c : ASt} (h : Same a b) (h' : Same b c) : Same a c := ⟨fun i => (h.slot i).trans (h'.slot i), fun i => (h.row i).trans (h'.row i)⟩

theorem Same.good {C : Entry} {w : World} {S : Nat → Prop} {γ : Gam} {st st' : ASt} {tmps : Array Value} (h : Same st st') (hg : Good C w S γ st tmps) : Good C w S γ st' tmps := by
  have hr : st'.row = st.row := funext fun id => (h.row id).symm
  refine ⟨⟨fun i av hi => ?_, fun id r hr' => hg.rel.rows id r (by rw [h.row]; exact hr'), fun i j r r' b p q h1 h2 => hg.rel.inj i j r r' b p q (by rw [h.row]; exact h1) (by rw [h.row]; exact h2), hg.rel.lt⟩,
    ⟨hg.fr.size, hg.fr.os, hg.fr.tape, hg.fr.output, hg.fr.block, hg.fr.blk, hg.fr.s1, hg.fr.s2, fun id r b p h1 => hg.fr.rows id r b p (by rw [h.row]; exact h1), fun id r h1 => hg.fr.fix id r (by rw [h.row]; exact h1)⟩⟩
  rw [hr]
  exact hg.rel.slots i av (by rw [h.slot]; exact hi)

theorem Same.put_same {st : ASt} {g : Nat} {v : AV} (h : st.slot g = some v) : Same (st.put (some g) v) st := by
  refine ⟨fun i => ?_, fun id => ASt.row_put _ _ _ _⟩
  rw [ASt.slot_put]
  split
  · rename_i e; rw [← e, h]
  · rfl

theorem Same.ev {st st' : ASt} (h : Same st st') (x : Operand) : st.ev x = st'.ev x := by
  cases x <;> simp [ASt.ev, h.slot]

theorem Same.avs {st st' : ASt} (h : Same st st') (o : Oper) : st.avs o = st'.avs o := by
  unfold ASt.avs
  exact List.map_congr_left fun x _ => h.ev x

theorem Same.rowsOf {st st' : ASt} (h : Same st st') (ids : List Nat) : rowsOf st ids = rowsOf st' ids := by
  funext id
  simp [Lift.rowsOf, h.row]

/-! ### What a region's operations did, in the text's order -/

structure Stp where
  v : AV
  u : Upd
  run : Bool

def stepSt (o : Oper) (s : Stp) (st : ASt) : ASt := (st.upd s.u).put o.dst s.v

theorem Same.step {st st' : ASt} (h : Same st st') (o : Oper) (s : Stp) : Same (stepSt o s st) (stepSt o s st') := by
  unfold stepSt
  refine ⟨fun i => ?_, fun id => ?_⟩
  · cases o.dst with
    | none => exact h.slot i
    | some d => simp only [ASt.slot_put, ASt.slot_upd, h.slot]
  · simp only [ASt.row_put, ASt.row_upd, h.row]

def WantedA (ops : List Oper) (o : Oper) (st : ASt) (b : Bool) : Prop :=
  match o.guard with
  | none => b = true
  | some (_, want) => ∃ g, guardTmp ops o = some g ∧ ((∃ x, st.slot g = some (.one (.val .bool x)) ∧ b = (x == want)) ∨ (st.slot g = some (.one .und) ∧ b = false))

def StepOk (E : Env) (ops : List Oper) (o : Oper) (st : ASt) (s : Stp) : Prop :=
  WantedA ops o st s.run ∧ ((s.run = true ∧ (opT E o (st.avs o) (rowsOf st (idsOf (st.avs o)))).val = some (s.v, s.u)) ∨ (s.run = false ∧ s.v = .one .und ∧ s.u = []))

def accOf (ops : List Oper) (o : Oper) (st : ASt) (s : Stp) : Acc :=
  cond s.run ⟨(guardTmp ops o).toList ++ tmpsOf (operandsL o.op), o.dst.toList, idsOf (st.avs o), s.u.map (·.1)⟩ ⟨(guardTmp ops o).toList, o.dst.toList, [], []⟩

theorem WantedA.same {ops : List Oper} {o : Oper} {st st' : ASt} {b : Bool} (h : Same st st') (hw : WantedA ops o st b) : WantedA ops o st' b := by
  unfold WantedA at *
  split at hw
  · exact hw
  · obtain ⟨g, h1, h2⟩ := hw
    exact ⟨g, h1, by rw [← h.slot]; exact h2⟩

theorem StepOk.same {ops : List Oper} {o : Oper} {st st' : ASt} {s : Stp} (h : Same st st') (hs : StepOk E ops o st s) : StepOk E ops o st' s := by
  refine ⟨hs.1.same h, ?_⟩
  rw [← h.avs, ← h.rowsOf]
  exact hs.2

theorem accOf_same {ops : List Oper} {o : Oper} {st st' : ASt} {s : Stp} (h : Same st st') : accOf ops o st s = accOf ops o st' s := by
  unfold accOf
  rw [h.avs]

def Runs (E : Env) (ops : List Oper) : List Oper → ASt → List Stp → List Acc → ASt → Prop
  | [], st, [], [], st' => Same st st'
  | o :: l, st, s :: ss, a :: as, st' => StepOk E ops o st s ∧ a = accOf ops o st s ∧ Runs E ops l (stepSt o s st) ss as st'
  | _, _, _, _, _ => False

theorem Runs.same {ops : List Oper} : ∀ {l : List Oper} {st st2 : ASt} {ss : List Stp} {as : List Acc} {st' : ASt}, Same st st2 → Runs E ops l st ss as st' → Runs E ops l st2 ss as st' := by
  intro l
  induction l with
  | nil =>
    intro st st2 ss as st' h hr
    match ss, as, hr with
    | [], [], hr => exact h.symm.trans hr
    | [], _ :: _, hr => exact hr.elim
    | _ :: _, _, hr => exact hr.elim
  | cons o l ih =>
    intro st st2 ss as st' h hr
    match ss, as, hr with
    | s :: ss, a :: as, ⟨h1, h2, h3⟩ => exact ⟨h1.same h, h2.trans (accOf_same h), ih (h.step o s) h3⟩
    | [], _, hr => exact hr.elim
    | _ :: _, [], hr => exact hr.elim

theorem opsK_runs {R : Type} {ops : List Oper} {r : R} : ∀ (l : List Oper) (st : ASt) (tr : List Acc) (c : ASt → List Acc → Option R), opsK E ops l st tr c = some r →
    ∃ ss as st', Runs E ops l st ss as st' ∧ c st' (as.reverse ++ tr) = some r := by
  intro l
  induction l with
  | nil => intro st tr c h; exact ⟨[], [], st, Same.refl st, h⟩
  | cons o l ih =>
    intro st tr c h
    simp only [opsK] at h
    have run : ∀ st0 : ASt, Same st0 st → WantedA ops o st true →
        (opT E o (st0.avs o) (rowsOf st0 (idsOf (st0.avs o)))).runK (fun p =>
          opsK E ops l ((st0.upd p.2).put o.dst p.1) (⟨(guardTmp ops o).toList ++ tmpsOf (operandsL o.op), o.dst.toList, idsOf (st0.avs o), p.2.map (·.1)⟩ :: tr) c) = some r →
        ∃ ss as st', Runs E ops (o :: l) st ss as st' ∧ c st' (as.reverse ++ tr) = some r := by
      intro st0 hs hw h
      rw [Tree.runK_eq] at h
      cases hv : (opT E o (st0.avs o) (rowsOf st0 (idsOf (st0.avs o)))).val with
      | none => rw [hv] at h; cases h
      | some p =>
        rw [hv] at h
        obtain ⟨v, u⟩ := p
        obtain ⟨ss, as, st', h1, h2⟩ := ih _ _ _ h
        refine ⟨⟨v, u, true⟩ :: ss, _ :: as, st', ⟨⟨hw, .inl ⟨rfl, ?_⟩⟩, rfl, h1.same (hs.step o ⟨v, u, true⟩)⟩, ?_⟩
        · rw [← hs.avs, ← hs.rowsOf]; exact hv
        · rw [List.reverse_cons, List.append_assoc]
          simp only [accOf, cond_true, List.cons_append, List.nil_append]
          rw [← hs.avs]
          exact h2
    have skip : ∀ st0 : ASt, Same st0 st → WantedA ops o st false → ∀ g, guardTmp ops o = some g →
        opsK E ops l (st0.put o.dst (.one .und)) (⟨[g], o.dst.toList, [], []⟩ :: tr) c = some r →
        ∃ ss as st', Runs E ops (o :: l) st ss as st' ∧ c st' (as.reverse ++ tr) = some r := by
      intro st0 hs hw g hg h
      obtain ⟨ss, as, st', h1, h2⟩ := ih _ _ _ h
      refine ⟨⟨.one .und, [], false⟩ :: ss, _ :: as, st', ⟨⟨hw, .inr ⟨rfl, rfl, rfl⟩⟩, rfl, h1.same (hs.step o ⟨.one .und, [], false⟩)⟩, ?_⟩
      rw [List.reverse_cons, List.append_assoc]
      simp only [accOf, cond_false, List.cons_append, List.nil_append, hg, Option.toList]
      exact h2
    cases hgd : o.guard with
    | none =>
      rw [hgd] at h
      exact run st (Same.refl st) (by simp [WantedA, hgd]) h
    | some gw =>
      obtain ⟨j, want⟩ := gw
      rw [hgd] at h
      simp only at h
      cases hgt : guardTmp ops o with
      | none => rw [hgt] at h; cases h
      | some g =>
        simp only [hgt] at h
        split at h
        · rename_i b hb
          have wa : ∀ x, x = (b == want) → WantedA ops o st x := fun x hx => by
            simp only [WantedA, hgd]
            exact ⟨g, hgt, .inl ⟨b, hb, hx⟩⟩
          cases want <;> cases b <;> simp only [cond_true, cond_false, Bool.not_true, Bool.not_false] at h
          · exact run _ (Same.put_same hb) (wa _ rfl) (by rw [hgt]; exact h)
          · exact skip _ (Same.put_same hb) (wa _ rfl) g hgt h
          · exact skip _ (Same.put_same hb) (wa _ rfl) g hgt h
          · exact run _ (Same.put_same hb) (wa _ rfl) (by rw [hgt]; exact h)
        · rename_i hb
          exact skip st (Same.refl st) (by simp only [WantedA, hgd]; exact ⟨g, hgt, .inr ⟨hb, trivial⟩⟩) g hgt h
        · cases h

/-! ### One operation -/

theorem avs_refs {st : ASt} {o : Oper} : ∀ id ∈ idsOf (st.avs o), id ∈ st.refs := by
  intro id hid
  unfold idsOf ASt.avs at hid
  obtain ⟨av, h1, h2⟩ := List.mem_flatMap.1 hid
  obtain ⟨x, _, rfl⟩ := List.mem_map.1 h1
  cases x with
  | tmp t =>
    cases hs : st.slot t with
    | none => simp [ASt.ev, hs, AV.ids] at h2
    | some v =>
      simp only [ASt.ev, hs] at h2
      exact ASt.named_refs ⟨t, v, hs, h2⟩
  | const c =>
    simp only [ASt.ev] at h2
    unfold constAV at h2
    split at h2
    · split at h2 <;> simp [AV.ids, SV.ids] at h2
    · simp [AV.ids, SV.ids] at h2
    · split at h2 <;> simp [AV.ids, SV.ids] at h2
    · simp [AV.ids, SV.ids] at h2
    · simp [AV.ids] at h2
  | func f => simp [ASt.ev, AV.ids, SV.ids] at h2
  | global g => simp [ASt.ev, AV.ids] at h2

theorem refs_step {ops : List Oper} {o : Oper} {st : ASt} {s : Stp} (h : StepOk E ops o st s) : ∀ id ∈ (stepSt o s st).refs, id ∈ st.refs ∨ id ∈ newIds o := by
  have key : ∀ id, (id ∈ AV.ids (some s.v) ∨ id ∈ s.u.map (·.1)) → id ∈ st.refs ∨ id ∈ newIds o := by
    intro id hid
    rcases h.2 with ⟨_, h1⟩ | ⟨_, h1, h2⟩
    · exact (opT_refs h1 id hid).imp (fun h => avs_refs id h) (fun h => h)
    · rw [h1, h2] at hid
      simp [AV.ids, SV.ids] at hid
  intro id hid
  unfold stepSt ASt.refs at hid
  rcases List.mem_append.1 hid with hid | hid
  · cases hd : o.dst with
    | none =>
      rw [hd] at hid
      exact .inl (List.mem_append_left _ hid)
    | some d =>
      rw [hd] at hid
      simp only [ASt.put, ASt.upd, List.flatMap_cons, List.mem_append] at hid
      rcases hid with hid | hid
      · exact key id (.inl hid)
      · exact .inl (List.mem_append_left _ hid)
  · have : ((st.upd s.u).put o.dst s.v).rows = s.u ++ st.rows := by cases o.dst <;> rfl
    rw [this, List.map_append, List.mem_append] at hid
    rcases hid with hid | hid
    · exact key id (.inr hid)
    · exact .inl (List.mem_append_right _ hid)

theorem wanted_ok {C : Entry} {w : World} {S : Nat → Prop} {γ : Gam} {st : ASt} {a : Act} {ops : Array Oper} {o : Oper} {b : Bool} (hg : Good C w S γ st a.tmps) (h : WantedA ops.toList o st b) :
    Region.wanted o (yielded ops a.tmps) = b := by
  unfold WantedA at h
  unfold Region.wanted
  cases hgd : o.guard with
  | none => rw [hgd] at h; exact h.symm
  | some gw =>
    obtain ⟨j, want⟩ := gw
    rw [hgd] at h
    obtain ⟨g, h1, h2⟩ := h
    simp only
    unfold guardTmp at h1
    rw [hgd] at h1
    simp only at h1
    split at h1
    · rename_i go hgo
      have hgo' : ops[j]? = some go := by simpa using hgo
      unfold yielded
      rcases h2 with ⟨x, h2, rfl⟩ | ⟨h2, rfl⟩
      · obtain ⟨v, hv, cs, hr, hp⟩ := hg.rel.slots g _ h2
        have : cs = [.bool x] := hr
        subst this
        have : v = .bool x := hp
        subst this
        simp only [hgo', h1, Option.bind_some, hv]
        cases x <;> cases want <;> rfl
      · obtain ⟨v, hv, hr⟩ := hg.rel.slots g _ h2
        have : v = undef := hr
        subst this
        simp only [hgo', h1, Option.bind_some, hv]
        cases want <;> rfl
    · cases h1

theorem put_size (a : Act) (d : Option Nat) (v : Value) : (a.put d v).tmps.size = a.tmps.size := by cases d <;> simp [Act.put]
theorem put_defers (a : Act) (d : Option Nat) (v : Value) : (a.put d v).defers = a.defers := by cases d <;> rfl

/-- An operation of a region, in a state in which it reads what it read in the text's order. -/
theorem step_sound (hT : TtOk P E.tt) (hC : CtxOk P E.ctx) {C : Entry} {w : World} {S : Nat → Prop} {γ : Gam} {st : ASt} {a : Act} {ops : Array Oper} {o : Oper} {s : Stp} {K : Act → World → Prop}
    {Q : Exit → Act → World → Prop} (hs : StepOk E ops.toList o st s) (hg : Good C w S γ st a.tmps) (hsz : a.tmps.size = E.nt) (hdst : dstOk E.nt o = true) (hnew : ∀ i ∈ newIds o, i ∉ st.refs)
    (hK : ∀ a' w' S' γ', Good C w' S' γ' (stepSt o s st) a'.tmps → a'.tmps.size = E.nt → a'.defers = a.defers → K a' w') :
    if Region.wanted o (yielded ops a.tmps) then o.wp P a w K Q else K (a.put o.dst undef) w := by
  rw [wanted_ok hg hs.1]
  have put : ∀ (w' : World) (S' : Nat → Prop) (γ' : Gam) (st' : ASt) (av : AV) (v : Value), Good C w' S' γ' st' a.tmps → RepA w' S' γ' st'.row av v → Good C w' S' γ' (st'.put o.dst av) (a.put o.dst v).tmps := by
    intro w' S' γ' st' av v h1 h2
    cases hd : o.dst with
    | none => exact h1
    | some d =>
      refine ⟨Rel.put h1.rel d av v ?_ h2, h1.fr.put _ _⟩
      rw [hsz]
      unfold dstOk at hdst
      rw [hd] at hdst
      simpa using hdst
  rcases hs.2 with ⟨h1, h2⟩ | ⟨h1, h2, h3⟩
  · rw [h1, if_pos rfl]
    refine OpRes.wp (op_sound hT hC hg hnew h2) ?_
    rintro v w' ⟨S', γ', h3, h4⟩
    exact hK _ _ S' γ' (put w' S' γ' _ _ _ h3 h4) (by rw [put_size]; exact hsz) (put_defers _ _ _)
  · rw [h1]
    refine hK _ _ S γ ?_ (by rw [put_size]; exact hsz) (put_defers _ _ _)
    unfold stepSt
    rw [h2, h3]
    exact put w S γ (st.upd []) _ _ hg rfl

/-! ### The text's order -/

theorem seq_ok (hT : TtOk P E.tt) (hC : CtxOk P E.ctx) {C : Entry} {ops : Array Oper} {Q : Exit → Act → World → Prop} : ∀ (l : List Oper) (st : ASt) (ss : List Stp) (as : List Acc) (st' : ASt)
    (w : World) (S : Nat → Prop) (γ : Gam) (a : Act), Runs E ops.toList l st ss as st' → Good C w S γ st a.tmps → a.tmps.size = E.nt → l.all (dstOk E.nt) = true →
    (l.flatMap newIds).Nodup → (∀ i ∈ l.flatMap newIds, i ∉ st.refs) → a.defers = [] →
    (∀ a' w' S' γ', Good C w' S' γ' st' a'.tmps → a'.tmps.size = E.nt → a'.defers = [] → Q .normal a' w') → wpList P ops Q l a w := by
  intro l
  induction l with
  | nil =>
    intro st ss as st' w S γ a hr hg hsz _ _ _ hd hQ
    match ss, as, hr with
    | [], [], hr => exact hQ a w S γ (Same.good hr hg) hsz hd
    | [], _ :: _, hr => exact hr.elim
    | _ :: _, _, hr => exact hr.elim
  | cons o l ih =>
    intro st ss as st' w S γ a hr hg hsz hdst hnd hnew hd hQ
    match ss, as, hr with
    | [], _, hr => exact hr.elim
    | _ :: _, [], hr => exact hr.elim
    | s :: ss, _ :: as, ⟨h1, _, h3⟩ =>
      simp only [List.all_cons, Bool.and_eq_true] at hdst
      simp only [List.flatMap_cons] at hnd hnew
      refine wpList_step fun K hK => step_sound hT hC h1 hg hsz hdst.1 (fun i hi => hnew i (List.mem_append_left _ hi)) ?_
      intro a' w' S' γ' h4 h5 h6
      refine hK _ _ (ih _ ss as st' w' S' γ' a' h3 h4 h5 hdst.2 (List.nodup_append.1 hnd).2.1 ?_ (h6.trans hd) hQ)
      intro i hi hri
      rcases refs_step h1 i hri with h | h
      · exact hnew i (List.mem_append_right _ hi) h
      · exact (List.nodup_append.1 hnd).2.2 i h i hi rfl

/-! ### Any order -/

section cells
variable {β : Type} {n : Nat} {W : Nat → Prop} {get : ASt → β} {T : Nat → ASt}

def CellOk (W : Nat → Prop) (get : ASt → β) (T : Nat → ASt) (X : Nat → Prop) (cur : ASt) : Prop :=
  (∃ k, X k ∧ W k ∧ (∀ j, X j → W j → j ≤ k) ∧ get cur = get (T (k + 1))) ∨ ((∀ j, X j → ¬ W j) ∧ get cur = get (T 0))

theorem keepR (hk : ∀ i, i < n → ¬ W i → get (T (i + 1)) = get (T i)) (a : Nat) : ∀ d, a + d ≤ n → (∀ j, a ≤ j → j < a + d → ¬ W j) → get (T (a + d)) = get (T a) := by
  intro d
  induction d with
  | zero => intro _ _; rfl
  | succ d ih =>
    intro h1 h2
    rw [← Nat.add_assoc, hk (a + d) (by omega) (h2 (a + d) (by omega) (by omega))]
    exact ih (by omega) (fun j h3 h4 => h2 j h3 (by omega))

theorem cell_read (hk : ∀ i, i < n → ¬ W i → get (T (i + 1)) = get (T i)) {X : Nat → Prop} {cur : ASt} (h : CellOk W get T X cur) {i : Nat} (hi : i ≤ n)
    (h1 : ∀ j, X j → W j → j < i) (h2 : ∀ j, j < i → W j → X j) : get cur = get (T i) := by
  rcases h with ⟨k, k1, k2, k3, k4⟩ | ⟨k1, k2⟩
  · have := h1 k k1 k2
    have e := keepR hk (k + 1) (i - (k + 1)) (by omega) (fun j j1 j2 hw => by
      have := k3 j (h2 j (by omega) hw) hw
      omega)
    rw [show k + 1 + (i - (k + 1)) = i by omega] at e
    rw [k4, e]
  · have e := keepR hk 0 i (by omega) (fun j _ j2 hw => k1 j (h2 j (by omega) hw) hw)
    rw [Nat.zero_add] at e
    rw [k2, e]

theorem cell_step {X : Nat → Prop} {cur cur' : ASt} (h : CellOk W get T X cur) {i : Nat} (h1 : W i → get cur' = get (T (i + 1)) ∧ ∀ j, X j → W j → j ≤ i) (h2 : ¬ W i → get cur' = get cur) :
    CellOk W get T (fun j => X j ∨ j = i) cur' := by
  by_cases hw : W i
  · obtain ⟨h3, h4⟩ := h1 hw
    refine .inl ⟨i, .inr rfl, hw, fun j hj hwj => ?_, h3⟩
    rcases hj with hj | rfl
    · exact h4 j hj hwj
    · exact Nat.le_refl _
  · rcases h with ⟨k, k1, k2, k3, k4⟩ | ⟨k1, k2⟩
    · refine .inl ⟨k, .inl k1, k2, fun j hj hwj => ?_, (h2 hw).trans k4⟩
      rcases hj with hj | rfl
      · exact k3 j hj hwj
      · exact absurd hwj hw
    · refine .inr ⟨fun j hj hwj => ?_, (h2 hw).trans k2⟩
      rcases hj with hj | rfl
      · exact k1 j hj hwj
      · exact hw hwj
end cells

theorem runs_T {ops : List Oper} : ∀ {l : List Oper} {st : ASt} {ss : List Stp} {as : List Acc} {st' : ASt}, Runs E ops l st ss as st' →
    as.length = l.length ∧ ∃ T : Nat → ASt, T 0 = st ∧ Same (T l.length) st' ∧ ∀ i o, l[i]? = some o → ∃ s, as[i]? = some (accOf ops o (T i) s) ∧ StepOk E ops o (T i) s ∧ T (i + 1) = stepSt o s (T i) := by
  intro l
  induction l with
  | nil =>
    intro st ss as st' hr
    match ss, as, hr with
    | [], [], hr => exact ⟨rfl, fun _ => st, rfl, hr, fun i o h => by simp at h⟩
    | [], _ :: _, hr => exact hr.elim
    | _ :: _, _, hr => exact hr.elim
  | cons o l ih =>
    intro st ss as st' hr
    match ss, as, hr with
    | [], _, hr => exact hr.elim
    | _ :: _, [], hr => exact hr.elim
    | s :: ss, _ :: as, ⟨h1, rfl, h3⟩ =>
      obtain ⟨h4, T, t0, t1, t2⟩ := ih h3
      refine ⟨by simp [h4], fun i => match i with | 0 => st | i + 1 => T i, rfl, t1, fun i o' hi => ?_⟩
      match i with
      | 0 =>
        simp only [List.getElem?_cons_zero, Option.some.injEq] at hi
        subst hi
        exact ⟨s, rfl, h1, t0⟩
      | i + 1 => exact t2 i o' (by simpa using hi)

theorem foldl_bits {acc : List Nat} {j : Nat} : ∀ (es : List Edge) (s0 : Nat), (es.foldl (fun s e => s ||| (1 <<< e.on) ||| acc.getD e.on 0) s0).testBit j = true →
    s0.testBit j = true ∨ ∃ e ∈ es, j = e.on ∨ (acc.getD e.on 0).testBit j = true := by
  intro es
  induction es with
  | nil => intro s0 h; exact .inl h
  | cons e es ih =>
    intro s0 h
    rw [List.foldl_cons] at h
    rcases ih _ h with h | ⟨e', h1, h2⟩
    · rw [Nat.testBit_or, Nat.testBit_or] at h
      simp only [Bool.or_eq_true] at h
      rcases h with (h | h) | h
      · exact .inl h
      · refine .inr ⟨e, by simp, .inl ?_⟩
        rw [Nat.one_shiftLeft, Nat.testBit_two_pow] at h
        exact (of_decide_eq_true h).symm
      · exact .inr ⟨e, by simp, .inr h⟩
    · exact .inr ⟨e', by simp [h1], h2⟩

theorem closure_lt : ∀ (l : List Oper) (acc : List Nat) (i : Nat), i < acc.length → (closure l acc).getD i 0 = acc.getD i 0 := by
  intro l
  induction l with
  | nil => intro acc i _; rfl
  | cons o l ih =>
    intro acc i hi
    simp only [closure]
    rw [ih _ i (by simp; omega)]
    simp only [List.getD_eq_getElem?_getD]
    rw [List.getElem?_append_left hi]

theorem closure_spec {j : Nat} : ∀ (l : List Oper) (acc : List Nat) (i : Nat), acc.length ≤ i → ((closure l acc).getD i 0).testBit j = true →
    ∃ o, l[i - acc.length]? = some o ∧ ∃ e ∈ o.after.toList.filter (Region.binds .any), j = e.on ∨ (e.on < i ∧ ((closure l acc).getD e.on 0).testBit j = true) := by
  intro l
  induction l with
  | nil =>
    intro acc i hi h
    simp only [closure, List.getD_eq_getElem?_getD] at h
    rw [List.getElem?_eq_none hi] at h
    simp at h
  | cons o l ih =>
    intro acc i hi h
    by_cases e : i = acc.length
    · subst e
      refine ⟨o, by simp, ?_⟩
      simp only [closure] at h ⊢
      rw [closure_lt _ _ _ (by simp)] at h
      simp only [List.getD_eq_getElem?_getD, List.getElem?_concat_length, Option.getD_some] at h
      rcases foldl_bits (acc := acc) _ _ (by simpa only [List.getD_eq_getElem?_getD] using h) with h | ⟨e, h1, h2⟩
      · simp at h
      · refine ⟨e, h1, h2.imp (fun h => h) fun h => ?_⟩
        have hlt : e.on < acc.length := by
          rcases Nat.lt_or_ge e.on acc.length with h' | h'
          · exact h'
          · rw [List.getD_eq_getElem?_getD, List.getElem?_eq_none h'] at h
            simp at h
        refine ⟨hlt, ?_⟩
        rw [closure_lt _ _ _ (by simp; omega), List.getD_eq_getElem?_getD, List.getElem?_append_left hlt, ← List.getD_eq_getElem?_getD]
        exact h
    · simp only [closure] at h
      obtain ⟨o', h1, e', h2, h3⟩ := ih _ i (by simp; omega) h
      refine ⟨o', ?_, e', h2, by simpa only [closure] using h3⟩
      rw [List.length_append] at h1
      simp only [List.length_cons, List.length_nil] at h1
      rw [show i - acc.length = (i - (acc.length + (0 + 1))) + 1 by omega]
      simpa using h1

theorem ordered_spec {cl : List Nat} : ∀ (rest before : List Acc), orderedFrom cl before.length before rest = true → ∀ (i j : Nat) (x y : Acc), j < i → before.length ≤ i →
    (before ++ rest)[j]? = some x → (before ++ rest)[i]? = some y → x.conflict y = true → (cl.getD i 0).testBit j = true := by
  intro rest
  induction rest with
  | nil =>
    intro before _ i j x y _ hi _ hy
    rw [List.append_nil, List.getElem?_eq_none hi] at hy
    cases hy
  | cons z rest ih =>
    intro before h i j x y hj hi hx hy hc
    simp only [orderedFrom, Bool.and_eq_true] at h
    by_cases e : i = before.length
    · subst e
      rw [List.getElem?_append_right (Nat.le_refl _)] at hy
      simp only [Nat.sub_self, List.getElem?_cons_zero, Option.some.injEq] at hy
      subst hy
      rw [List.getElem?_append_left hj] at hx
      have := List.all_eq_true.1 h.1 (x, j) (by
        rw [List.mem_iff_getElem?]
        refine ⟨j, ?_⟩
        rw [List.getElem?_zipIdx, hx]
        simp)
      simpa [hc] using this
    · refine ih (before ++ [z]) (by simpa using h.2) i j x y hj (by simp; omega) ?_ ?_ hc
      · simpa using hx
      · simpa using hy

theorem edges_spec : ∀ (l : List Oper) (k : Nat), edgesOk k l = true → ∀ i o, l[i]? = some o → ∀ e ∈ o.after.toList, Region.binds .any e = true → e.on < k + i := by
  intro l
  induction l with
  | nil => intro k _ i o h; simp at h
  | cons x l ih =>
    intro k h i o hi e he hb
    simp only [edgesOk, Bool.and_eq_true] at h
    match i with
    | 0 =>
      simp only [List.getElem?_cons_zero, Option.some.injEq] at hi
      subst hi
      have := List.all_eq_true.1 h.1 e he
      simp only [hb, Bool.not_true, Bool.false_or, decide_eq_true_eq] at this
      omega
    | i + 1 =>
      have := ih (k + 1) h.2 i o (by simpa using hi) e he hb
      omega

theorem meets_of {a b : List Nat} {x : Nat} (h1 : x ∈ a) (h2 : x ∈ b) : meets a b = true := by
  unfold meets
  rw [List.any_eq_true]
  exact ⟨x, h1, by simpa using h2⟩

theorem step_slot_keep {o : Oper} {s : Stp} {st : ASt} {t : Nat} (h : t ∉ o.dst.toList) : (stepSt o s st).slot t = st.slot t := by
  unfold stepSt
  cases hd : o.dst with
  | none => rfl
  | some d =>
    rw [hd] at h
    rw [ASt.slot_put]
    simp only [Option.toList, List.mem_singleton] at h
    rw [if_neg (fun e => h e.symm)]
    rfl

theorem step_slot_set {o : Oper} {s : Stp} {st st' : ASt} {t : Nat} (h : t ∈ o.dst.toList) : (stepSt o s st).slot t = (stepSt o s st').slot t := by
  unfold stepSt
  cases hd : o.dst with
  | none => rw [hd] at h; cases h
  | some d =>
    rw [hd] at h
    simp only [Option.toList, List.mem_singleton] at h
    rw [ASt.slot_put, ASt.slot_put, if_pos h.symm, if_pos h.symm]

theorem look_none {α : Type} {l : List (Nat × α)} {i : Nat} (h : i ∉ l.map (·.1)) : look l i = none := by
  cases hl : look l i with
  | none => rfl
  | some a => exact absurd (List.mem_map.2 ⟨_, look_mem hl, rfl⟩) h

theorem look_key {α : Type} {l : List (Nat × α)} {i : Nat} (h : i ∈ l.map (·.1)) : ∃ a, look l i = some a := by
  induction l with
  | nil => cases h
  | cons x l ih =>
    simp only [look]
    cases hb : Nat.beq x.1 i with
    | true => exact ⟨_, rfl⟩
    | false =>
      simp only [List.map_cons, List.mem_cons] at h
      rcases h with h | h
      · subst h; simp at hb
      · exact ih h

theorem step_row_keep {o : Oper} {s : Stp} {st : ASt} {id : Nat} (h : id ∉ s.u.map (·.1)) : (stepSt o s st).row id = st.row id := by
  unfold stepSt
  rw [ASt.row_put, ASt.row_upd, look_none h]

theorem step_row_set {o : Oper} {s : Stp} {st st' : ASt} {id : Nat} (h : id ∈ s.u.map (·.1)) : (stepSt o s st).row id = (stepSt o s st').row id := by
  unfold stepSt
  obtain ⟨a, ha⟩ := look_key h
  rw [ASt.row_put, ASt.row_upd, ASt.row_put, ASt.row_upd, ha]

theorem mem_tmps {t : Nat} : ∀ {l : List Operand}, Operand.tmp t ∈ l → t ∈ tmpsOf l := by
  intro l
  induction l with
  | nil => intro h; cases h
  | cons y l ih =>
    intro h
    rcases List.mem_cons.1 h with rfl | h1
    · simp [tmpsOf]
    · cases y <;> simp [tmpsOf, ih h1]

theorem StepOk.congr {ops : List Oper} {o : Oper} {st st' : ASt} {s : Stp} (h1 : ∀ t ∈ (accOf ops o st s).rs, st'.slot t = st.slot t) (h2 : ∀ id ∈ (accOf ops o st s).rr, st'.row id = st.row id)
    (h : StepOk E ops o st s) : StepOk E ops o st' s := by
  have hw : WantedA ops o st' s.run := by
    have := h.1
    unfold WantedA at this ⊢
    split at this
    · exact this
    · obtain ⟨g, e1, e2⟩ := this
      refine ⟨g, e1, ?_⟩
      rw [h1 g (by unfold accOf; cases s.run <;> simp [e1])]
      exact e2
  refine ⟨hw, ?_⟩
  rcases h.2 with ⟨e1, e2⟩ | e
  · refine .inl ⟨e1, ?_⟩
    have hr : ∀ t ∈ tmpsOf (operandsL o.op), st'.slot t = st.slot t := fun t ht => h1 t (by unfold accOf; rw [e1]; simp [ht])
    have hav : st'.avs o = st.avs o := by
      unfold ASt.avs
      apply List.map_congr_left
      intro x hx
      cases x with
      | tmp t =>
        exact hr t (mem_tmps hx)
      | _ => rfl
    rw [hav]
    have hrow : rowsOf st' (idsOf (st.avs o)) = rowsOf st (idsOf (st.avs o)) := by
      funext id
      unfold rowsOf
      cases he : (idsOf (st.avs o)).elem id with
      | false => rfl
      | true => exact h2 id (by unfold accOf; rw [e1]; simpa using he)
    rw [hrow]
    exact e2
  · exact .inr e

theorem getD_set {listed : Array Bool} {i j : Nat} (hi : i < listed.size) : ((listed.setIfInBounds i true).getD j false = true) ↔ (listed.getD j false = true ∨ j = i) := by
  by_cases e : i = j
  · subst e; simp [hi]
  · rw [getD_set_ne false e]
    constructor
    · exact .inl
    · rintro (h | h)
      · exact h
      · exact absurd h.symm e

theorem count_set {listed : Array Bool} {i : Nat} : ∀ (n : Nat), i < n → listed.getD i true = false → listed.size = n →
    (List.range n).countP (fun j => !(listed.setIfInBounds i true).getD j true) + 1 = (List.range n).countP (fun j => !listed.getD j true) := by
  have gen : ∀ m, i < listed.size → listed.getD i true = false → (List.range m).countP (fun j => !(listed.setIfInBounds i true).getD j true) + (if i < m then 1 else 0) = (List.range m).countP (fun j => !listed.getD j true) := by
    intro m hs hi
    induction m with
    | zero => simp
    | succ m ih =>
      rw [List.range_succ, List.countP_append, List.countP_append, ← ih]
      simp only [List.countP_cons, List.countP_nil]
      by_cases e : i = m
      · subst e
        have h1 : (listed.setIfInBounds i true).getD i true = true := by simp [hs]
        simp only [h1, hi, Bool.not_true, Bool.not_false, Bool.false_eq_true, if_false, if_true, Nat.lt_irrefl, Nat.lt_succ_self, Nat.add_zero]
      · rw [getD_set_ne true e]
        have : (i < m + 1) ↔ i < m := by omega
        simp only [this]
        omega
  intro n hn hi hs
  have := gen n (by omega) hi
  rw [if_pos hn] at this
  exact this

/-- What holds while the operations run in any order. -/
structure Mid (E : Env) (C : Entry) (ops : Array Oper) (as : List Acc) (T : Nat → ASt) (listed : Array Bool) (cur : ASt) : Prop where
  size : listed.size = ops.size
  closed : ∀ i o, listed.getD i false = true → ops[i]? = some o → ∀ e ∈ o.after, Region.binds .any e = true → listed.getD e.on false = true
  slots : ∀ t, CellOk (fun i => ∃ a, as[i]? = some a ∧ t ∈ a.ws) (fun st => st.slot t) T (fun i => listed.getD i false = true) cur
  rows : ∀ id, CellOk (fun i => ∃ a, as[i]? = some a ∧ id ∈ a.rw) (fun st => st.row id) T (fun i => listed.getD i false = true) cur
  refs : ∀ id ∈ cur.refs, id ∈ (T 0).refs ∨ ∃ j o, listed.getD j false = true ∧ ops[j]? = some o ∧ id ∈ newIds o

theorem conf_or {a b c d : Bool} (h : a = true ∨ b = true ∨ c = true ∨ d = true) : (a || b || c || d) = true := by
  cases a <;> cases b <;> cases c <;> cases d <;> simp_all

theorem nodup_flat {f : Oper → List Nat} : ∀ {l : List Oper}, (l.flatMap f).Nodup → ∀ (i j : Nat) (a b : Oper) (x : Nat), l[i]? = some a → l[j]? = some b → x ∈ f a → x ∈ f b → i = j := by
  intro l
  induction l with
  | nil => intro _ i j a b x h; simp at h
  | cons o l ih =>
    intro h i j a b x hi hj ha hb
    rw [List.flatMap_cons] at h
    obtain ⟨_, h2, h3⟩ := List.nodup_append.1 h
    match i, j with
    | 0, 0 => rfl
    | 0, j + 1 =>
      simp only [List.getElem?_cons_zero, Option.some.injEq] at hi
      simp only [List.getElem?_cons_succ] at hj
      subst hi
      exact absurd rfl (h3 x ha x (List.mem_flatMap.2 ⟨b, List.mem_of_getElem? hj, hb⟩))
    | i + 1, 0 =>
      simp only [List.getElem?_cons_zero, Option.some.injEq] at hj
      simp only [List.getElem?_cons_succ] at hi
      subst hj
      exact absurd rfl (h3 x hb x (List.mem_flatMap.2 ⟨a, List.mem_of_getElem? hi, ha⟩))
    | i + 1, j + 1 =>
      have := ih h2 i j a b x (by simpa using hi) (by simpa using hj) ha hb
      omega

set_option maxHeartbeats 1000000 in
theorem any_ok (hT : TtOk P E.tt) (hC : CtxOk P E.ctx) {C : Entry} {ops : Array Oper} {Q : Exit → Act → World → Prop} {as : List Acc} {T : Nat → ASt} {st' : ASt}
    (hend : Same (T ops.size) st')
    (hrun : ∀ i o, ops[i]? = some o → ∃ s, as[i]? = some (accOf ops.toList o (T i) s) ∧ StepOk E ops.toList o (T i) s ∧ T (i + 1) = stepSt o s (T i))
    (hdst : ops.toList.all (dstOk E.nt) = true) (hnd : (ops.toList.flatMap newIds).Nodup) (hnew : ∀ i ∈ ops.toList.flatMap newIds, i ∉ (T 0).refs)
    (hok : edgesOk 0 ops.toList = true) (hord : orderedFrom (closure ops.toList []) 0 [] as = true)
    (hQ : ∀ a' w' S' γ', Good C w' S' γ' st' a'.tmps → a'.tmps.size = E.nt → a'.defers = [] → Q .normal a' w') :
    ∀ (fuel : Nat) (listed : Array Bool) (cur : ASt) (w : World) (S : Nat → Prop) (γ : Gam) (a : Act), Mid E C ops as T listed cur →
      (List.range ops.size).countP (fun j => !listed.getD j true) ≤ fuel → Good C w S γ cur a.tmps → a.tmps.size = E.nt → a.defers = [] → wpAny P .any ops Q fuel listed a w := by
  -- what the edges say
  have hedge : ∀ i o, ops[i]? = some o → ∀ e ∈ o.after, Region.binds .any e = true → e.on < i := fun i o hi e he hb => by
    have := edges_spec _ 0 hok i o (by simpa using hi) e (by simpa using he) hb
    simpa using this
  have hconf : ∀ i j x y, j < i → as[j]? = some x → as[i]? = some y → x.conflict y = true → ((closure ops.toList []).getD i 0).testBit j = true := fun i j x y hj hx hy hc =>
    ordered_spec as [] hord i j x y hj (Nat.zero_le _) (by simpa using hx) (by simpa using hy) hc
  have hbits : ∀ i (X : Nat → Prop), (∀ k o, (X k ∨ k = i) → ops[k]? = some o → ∀ e ∈ o.after, Region.binds .any e = true → X e.on) → ∀ k, (X k ∨ k = i) → ∀ j, ((closure ops.toList []).getD k 0).testBit j = true → X j := by
    intro i X hX k
    induction k using Nat.strongRecOn with
    | _ k ih =>
      intro hk j hb
      obtain ⟨o, ho, e, he, h1⟩ := closure_spec ops.toList [] k (Nat.zero_le _) hb
      simp only [List.length_nil, Nat.sub_zero] at ho
      rw [List.mem_filter] at he
      have he' : X e.on := hX k o hk (by simpa using ho) e (by simpa using he.1) he.2
      rcases h1 with rfl | ⟨h1, h2⟩
      · exact he'
      · exact ih e.on h1 (.inl he') j h2
  have hlisted : ∀ (listed : Array Bool) i, listed.getD i false = true → i < listed.size := fun listed i h => by
    rcases Nat.lt_or_ge i listed.size with h' | h'
    · exact h'
    · simp [Array.getElem?_eq_none h'] at h
  -- all done
  have fin : ∀ (listed : Array Bool) (cur : ASt) (w : World) (S : Nat → Prop) (γ : Gam) (a : Act), Mid E C ops as T listed cur → Good C w S γ cur a.tmps → a.tmps.size = E.nt → a.defers = [] →
      Region.ready .any ops listed = [] → Q .normal a w := by
    intro listed cur w S γ a hm hg hsz hd hr
    have hall : ∀ i, i < ops.size → listed.getD i false = true := by
      intro i
      induction i using Nat.strongRecOn with
      | _ i ih =>
        intro hi
        cases hb : listed.getD i true with
        | true =>
          have hi' : i < listed.size := by rw [hm.size]; exact hi
          simp only [Array.getD_eq_getD_getElem?, Array.getElem?_eq_getElem hi', Option.getD_some] at hb ⊢
          exact hb
        | false =>
          have : i ∈ Region.ready .any ops listed := mem_ready.2 ⟨hb, ops[i], Array.getElem?_eq_getElem hi, fun e he hb => ih e.on (hedge i _ (Array.getElem?_eq_getElem hi) e he hb) (by
            have := hedge i _ (Array.getElem?_eq_getElem hi) e he hb
            omega)⟩
          rw [hr] at this
          cases this
    refine hQ a w S γ (Same.good (Same.trans ⟨fun t => ?_, fun id => ?_⟩ hend) hg) hsz hd
    · refine cell_read (n := ops.size) (fun i hi hw => ?_) (hm.slots t) (Nat.le_refl _) (fun j hj _ => hm.size ▸ hlisted _ _ hj) (fun j hj _ => hall j hj)
      obtain ⟨s, h1, h2, h3⟩ := hrun i _ (Array.getElem?_eq_getElem hi)
      rw [h3, step_slot_keep]
      intro h
      exact hw ⟨_, h1, by unfold accOf; cases s.run <;> exact h⟩
    · refine cell_read (n := ops.size) (fun i hi hw => ?_) (hm.rows id) (Nat.le_refl _) (fun j hj _ => hm.size ▸ hlisted _ _ hj) (fun j hj _ => hall j hj)
      obtain ⟨s, h1, h2, h3⟩ := hrun i _ (Array.getElem?_eq_getElem hi)
      rw [h3, step_row_keep]
      intro h
      refine hw ⟨_, h1, ?_⟩
      rcases h2.2 with ⟨e, _⟩ | ⟨_, _, e⟩
      · unfold accOf; rw [e]; exact h
      · rw [e] at h; cases h
  intro fuel
  induction fuel with
  | zero =>
    intro listed cur w S γ a hm hcnt hg hsz hd
    have hr : Region.ready .any ops listed = [] := by
      cases hr : Region.ready .any ops listed with
      | nil => rfl
      | cons i r =>
        have hi : i ∈ Region.ready .any ops listed := by rw [hr]; simp
        obtain ⟨h1, o, h2, _⟩ := mem_ready.1 hi
        have : 0 < (List.range ops.size).countP (fun j => !listed.getD j true) := List.countP_pos_iff.2 ⟨i, List.mem_range.2 (Array.getElem?_eq_some_iff.1 h2).1, by rw [h1]; rfl⟩
        omega
    exact ⟨hr, fin listed cur w S γ a hm hg hsz hd hr⟩
  | succ fuel ih =>
    intro listed cur w S γ a hm hcnt hg hsz hd
    refine ⟨fin listed cur w S γ a hm hg hsz hd, fun i hi => ?_⟩
    obtain ⟨hun, o, ho, hall⟩ := mem_ready.1 hi
    have hi1 : i < ops.size := (Array.getElem?_eq_some_iff.1 ho).1
    have hi2 : i < listed.size := by rw [hm.size]; exact hi1
    have hnl : ¬ listed.getD i false = true := fun h => by
      simp only [Array.getD_eq_getD_getElem?, Array.getElem?_eq_getElem hi2, Option.getD_some] at h hun
      rw [h] at hun
      cases hun
    obtain ⟨s, h1, h2, h3⟩ := hrun i o ho
    have hpre : ∀ j, ((closure ops.toList []).getD i 0).testBit j = true → listed.getD j false = true := fun j hj =>
      hbits i (fun j => listed.getD j false = true) (fun k o' hk ho' e he hb => by
        rcases hk with hk | rfl
        · exact hm.closed k o' hk ho' e he hb
        · rw [ho] at ho'
          cases ho'
          exact hall e he hb) i (.inr rfl) j hj
    have hpost : ∀ j, listed.getD j false = true → ∀ y, as[j]? = some y → ((accOf ops.toList o (T i) s).conflict y = true ∨ y.conflict (accOf ops.toList o (T i) s) = true) → (i < j → (accOf ops.toList o (T i) s).conflict y = true) → j < i := by
      intro j hj y hy hc hc'
      rcases Nat.lt_trichotomy j i with h | h | h
      · exact h
      · subst h; exact absurd hj hnl
      · exact absurd (hbits j (fun j => listed.getD j false = true) (fun k o' hk ho' e he hb => by
          rcases hk with hk | rfl
          · exact hm.closed k o' hk ho' e he hb
          · exact hm.closed k o' hj ho' e he hb) j (.inr rfl) i (hconf j i _ y h h1 hy (hc' h))) hnl
    -- what it reads
    have rslot : ∀ t ∈ (accOf ops.toList o (T i) s).rs, cur.slot t = (T i).slot t := by
      intro t ht
      refine cell_read (n := ops.size) (get := fun st => st.slot t) (W := fun i => ∃ a, as[i]? = some a ∧ t ∈ a.ws) (fun k hk hw => ?_) (hm.slots t) (Nat.le_of_lt hi1) (fun j hj hw => ?_) (fun j hj hw => ?_)
      · obtain ⟨s', g1, g2, g3⟩ := hrun k _ (Array.getElem?_eq_getElem hk)
        rw [g3, step_slot_keep]
        intro h
        exact hw ⟨_, g1, by unfold accOf; cases s'.run <;> exact h⟩
      · obtain ⟨y, g1, g2⟩ := hw
        have : (accOf ops.toList o (T i) s).conflict y = true := conf_or (.inr (.inl (meets_of g2 ht)))
        exact hpost j hj y g1 (.inl this) (fun _ => this)
      · obtain ⟨y, g1, g2⟩ := hw
        exact hpre j (hconf i j y _ hj g1 h1 (conf_or (.inl (meets_of g2 (List.mem_append_left _ ht)))))
    have rrow : ∀ id ∈ (accOf ops.toList o (T i) s).rr, cur.row id = (T i).row id := by
      intro id ht
      refine cell_read (n := ops.size) (get := fun st => st.row id) (W := fun i => ∃ a, as[i]? = some a ∧ id ∈ a.rw) (fun k hk hw => ?_) (hm.rows id) (Nat.le_of_lt hi1) (fun j hj hw => ?_) (fun j hj hw => ?_)
      · obtain ⟨s', g1, g2, g3⟩ := hrun k _ (Array.getElem?_eq_getElem hk)
        rw [g3, step_row_keep]
        intro h
        refine hw ⟨_, g1, ?_⟩
        rcases g2.2 with ⟨e, _⟩ | ⟨_, _, e⟩
        · unfold accOf; rw [e]; exact h
        · rw [e] at h; cases h
      · obtain ⟨y, g1, g2⟩ := hw
        have : (accOf ops.toList o (T i) s).conflict y = true := conf_or (.inr (.inr (.inr (meets_of g2 ht))))
        exact hpost j hj y g1 (.inl this) (fun _ => this)
      · obtain ⟨y, g1, g2⟩ := hw
        exact hpre j (hconf i j y _ hj g1 h1 (conf_or (.inr (.inr (.inl (meets_of g2 (List.mem_append_left _ ht)))))))
    have hstep : StepOk E ops.toList o cur s := h2.congr rslot rrow
    have hfresh : ∀ x ∈ newIds o, x ∉ cur.refs := by
      intro x hx hxr
      rcases hm.refs x hxr with h | ⟨j, o', g1, g2, g3⟩
      · exact hnew x (List.mem_flatMap.2 ⟨o, by simpa using Array.mem_of_getElem? ho, hx⟩) h
      · have := nodup_flat hnd i j o o' x (by simpa using ho) (by simpa using g2) hx g3
        subst this
        exact hnl g1
    have hdo : dstOk E.nt o = true := List.all_eq_true.1 hdst o (by simpa using Array.mem_of_getElem? ho)
    have hmid : Mid E C ops as T (listed.setIfInBounds i true) (stepSt o s cur) := by
      have hset : ∀ j, ((listed.setIfInBounds i true).getD j false = true) = (listed.getD j false = true ∨ j = i) := fun j => propext (getD_set hi2)
      refine ⟨by simp [hm.size], fun k o' hk ho' e he hb => ?_, fun t => ?_, fun id => ?_, fun x hx => ?_⟩
      · rw [hset] at hk ⊢
        left
        rcases hk with hk | rfl
        · exact hm.closed k o' hk ho' e he hb
        · rw [ho] at ho'
          cases ho'
          exact hall e he hb
      · simp only [hset]
        refine cell_step (hm.slots t) (fun hw => ?_) (fun hw => ?_)
        · obtain ⟨y, g1, g2⟩ := hw
          rw [h1] at g1
          cases g1
          have hws : t ∈ o.dst.toList := by unfold accOf at g2; cases hr : s.run <;> rw [hr] at g2 <;> exact g2
          refine ⟨?_, fun j hj hw' => ?_⟩
          · rw [h3]
            exact step_slot_set hws
          · obtain ⟨y, g3, g4⟩ := hw'
            have c1 : (accOf ops.toList o (T i) s).conflict y = true := conf_or (.inl (meets_of g2 (List.mem_append_right _ g4)))
            exact Nat.le_of_lt (hpost j hj y g3 (.inl c1) (fun _ => c1))
        · rw [step_slot_keep]
          intro h
          exact hw ⟨_, h1, by unfold accOf; cases s.run <;> exact h⟩
      · simp only [hset]
        refine cell_step (hm.rows id) (fun hw => ?_) (fun hw => ?_)
        · obtain ⟨y, g1, g2⟩ := hw
          rw [h1] at g1
          cases g1
          have hws : id ∈ s.u.map (·.1) := by unfold accOf at g2; cases hr : s.run <;> rw [hr] at g2 <;> first | exact g2 | cases g2
          refine ⟨?_, fun j hj hw' => ?_⟩
          · rw [h3]
            exact step_row_set hws
          · obtain ⟨y, g3, g4⟩ := hw'
            have c1 : (accOf ops.toList o (T i) s).conflict y = true := conf_or (.inr (.inr (.inl (meets_of g2 (List.mem_append_right _ g4)))))
            exact Nat.le_of_lt (hpost j hj y g3 (.inl c1) (fun _ => c1))
        · rw [step_row_keep]
          intro h
          refine hw ⟨_, h1, ?_⟩
          rcases h2.2 with ⟨e, _⟩ | ⟨_, _, e⟩
          · unfold accOf; rw [e]; exact h
          · rw [e] at h; cases h
      · rcases refs_step hstep x hx with h | h
        · rcases hm.refs x h with h | ⟨j, o', g1, g2, g3⟩
          · exact .inl h
          · exact .inr ⟨j, o', by rw [hset]; exact .inl g1, g2, g3⟩
        · exact .inr ⟨i, o, by rw [hset]; exact .inr rfl, ho, h⟩
    have hcnt' : (List.range ops.size).countP (fun j => !(listed.setIfInBounds i true).getD j true) ≤ fuel := by
      have := count_set (listed := listed) ops.size hi1 hun hm.size
      omega
    have := step_sound hT hC (K := wpAny P .any ops Q fuel (listed.setIfInBounds i true)) (Q := Q) (w := w) (ops := ops) hstep hg hsz hdo hfresh
      (fun a' w' S' γ' h4 h5 h6 => ih _ _ w' S' γ' a' hmid hcnt' h4 h5 (h6.trans hd))
    unfold wpOp
    simp only [ho]
    split
    · rename_i hw
      rw [if_pos hw] at this
      exact .inl this
    · rename_i hw
      rw [if_neg hw] at this
      exact this

/-- A region, in whatever order its operations may run. -/
theorem region_sound (hm : P.follows .mixedOrders = true) (hT : TtOk P E.tt) (hC : CtxOk P E.ctx) {R : Type} {r : R} {C : Entry} {id : Nat} {ops : Array Oper} {draw : Bool} {Q : Exit → Act → World → Prop}
    {st : ASt} {c : ASt → Option R} {w : World} {S : Nat → Prop} {γ : Gam} {a : Act} (h : regionK E ops.toList draw st c = some r) (hg : Good C w S γ st a.tmps) (hsz : a.tmps.size = E.nt) (hd : a.defers = [])
    (hQ : ∀ st' a' w' S' γ', c st' = some r → Good C w' S' γ' st' a'.tmps → a'.tmps.size = E.nt → a'.defers = [] → Q .normal a' w') : (Code.region id ops draw).wp P Q a w := by
  unfold regionK at h
  cases hf : (freshB ops.toList st && ops.toList.all (dstOk E.nt)) with
  | false => rw [hf] at h; cases h
  | true =>
    rw [hf, cond_true] at h
    simp only [Bool.and_eq_true] at hf
    obtain ⟨hf1, hdst⟩ := hf
    unfold freshB at hf1
    simp only [Bool.and_eq_true, Bool.not_eq_true'] at hf1
    have hnd := distinctB_nodup hf1.1
    have hnew : ∀ i ∈ ops.toList.flatMap newIds, i ∉ st.refs := fun i hi hr => by
      rw [meets_of hi hr] at hf1
      cases hf1.2
    obtain ⟨ss, as, st', h1, h2⟩ := opsK_runs _ _ _ _ h
    rw [List.append_nil] at h2
    cases draw with
    | false =>
      simp only [Bool.not_false, Bool.true_or, cond_true] at h2
      exact wp_region_list (seq_ok hT hC _ st ss as st' w S γ a h1 hg hsz hdst hnd hnew hd (fun a' w' S' γ' g1 g2 g3 => hQ st' a' w' S' γ' h2 g1 g2 g3))
    | true =>
      simp only [Bool.not_true, Bool.false_or] at h2
      cases hdr : drawOk ops.toList as.reverse with
      | false => rw [hdr] at h2; cases h2
      | true =>
        rw [hdr, cond_true] at h2
        unfold drawOk at hdr
        simp only [Bool.and_eq_true, List.reverse_reverse] at hdr
        obtain ⟨_, T, t0, t1, t2⟩ := runs_T h1
        simp only [Array.length_toList] at t1
        refine wp_region_any hm (any_ok hT hC (as := as) (T := T) (st' := st') t1 (fun i o hi => t2 i o (by simpa using hi)) hdst hnd (by rw [t0]; exact hnew) hdr.1 hdr.2
          (fun a' w' S' γ' g1 g2 g3 => hQ st' a' w' S' γ' h2 g1 g2 g3) ops.size _ st w.drew S γ a ⟨by simp, fun i o hi => ?_, fun t => .inr ⟨fun j hj => ?_, by rw [t0]⟩, fun t => .inr ⟨fun j hj => ?_, by rw [t0]⟩, fun x hx => .inl (by rw [t0]; exact hx)⟩ ?_ hg.drew hsz hd)
        · by_cases hi' : i < ops.size <;> simp [hi'] at hi
        · by_cases hi' : j < ops.size <;> simp [hi'] at hj
        · by_cases hi' : j < ops.size <;> simp [hi'] at hj
        · exact Nat.le_trans List.countP_le_length (by simp)

end Go.Lift
