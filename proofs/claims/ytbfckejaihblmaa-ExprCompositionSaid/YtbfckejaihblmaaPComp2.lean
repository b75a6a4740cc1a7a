/- Plain laws of the lifted functions. -/
import Derived.Test.YtbfckejaihblmaaPComp
set_option maxRecDepth 100000
set_option linter.unusedVariables false
set_option linter.unusedSimpArgs false
namespace Go.Proofs.Ytbfckejaihblmaa
open Go Go.Lift

theorem comp_loop {e : List api_TypeV} {s : api_SignatureV} {t x : api_TypeV} {starts ops : List Int} {last : Nat} (he : e.length ≤ 48) (hlast : last < e.length) (hops : ops.length ≤ 3) (hsl : starts.length = e.length) (hs : s.1.length ≤ 10)
    (hok : ∀ x ∈ e, -9223372036854775808 ≤ x.2.1 ∧ x.2.1 ≤ 9223372036854775807) :
    ∀ (gs : List (List api_TypeV)) (j frm : Nat) (inputs short ts : List api_TypeV), j ≤ ops.length → ops.drop j = endsOf frm gs → e.drop frm = gs.flatten ++ [x] → frm + gs.flatten.length = last → Comps s j gs ts →
    (∀ (m : Nat) y s', (endsOf frm gs)[m]? = some y → (offs frm gs)[m]? = some s' → starts[y.toNat]? = some s') → inputs.length ≤ j → short.length ≤ j →
    law10_ExprComposition.L2 e s t starts last ops frm inputs short j = law10_ExprComposition.L2 e s t starts last ops last (inputs ++ ts) (short ++ (List.range' j gs.length).map fun (k : Nat) => ((7, (k : Int), ()) : api_TypeV)) ops.length := by
  intro gs
  induction gs with
  | nil =>
    intro j frm inputs short ts hj h1 h2 h3 h4 _ _ _
    have : j = ops.length := by
      have := congrArg List.length h1
      simp [endsOf] at this
      omega
    subst this
    cases ts with
    | cons t ts => simp [Comps] at h4
    | nil =>
      simp only [List.flatten_nil, List.length_nil, Nat.add_zero] at h3
      subst h3
      simp
  | cons g gs ih =>
    intro j frm inputs short ts hj h1 h2 h3 h4 h5 h6 h7
    have hjl : j < ops.length := by
      have := congrArg List.length h1
      simp [endsOf] at this
      omega
    cases ts with
    | nil => simp [Comps] at h4
    | cons u ts =>
      obtain ⟨c1, c2⟩ := h4
      have hg1 : 1 ≤ g.length := List.length_pos_iff.2 c1.1
      rw [List.drop_eq_getElem_cons hjl, endsOf] at h1
      obtain ⟨k1, k2⟩ := List.cons.inj h1
      have hgd : ops.getD j 0 = (frm : Int) + g.length - 1 := by rw [List.getD_eq_getElem?_getD, List.getElem?_eq_getElem hjl]; exact k1
      have hst := h5 0 _ _ rfl rfl
      simp only [List.flatten_cons, List.length_append] at h3
      have hsd : starts.getD ((frm : Int) + g.length - 1).toNat 0 = (frm : Int) := by rw [List.getD_eq_getElem?_getD, hst]; rfl
      have hsub : ((e.drop frm).take (frm + g.length - frm)) = g := by
        rw [h2, Nat.add_sub_cancel_left, List.flatten_cons, List.append_assoc, List.take_left]
      have hroom : room = 140737488355328 := rfl
      have hgm : ∀ y ∈ g, y ∈ e := by
        intro y hy
        rw [← hsub] at hy
        exact List.mem_of_mem_drop (List.mem_of_mem_take hy)
      have hgl : g.length ≤ 48 := by omega
      have hwrap : IntKind.i64.wrap ((frm : Int) + g.length - 1 + 1) = ((frm + g.length : Nat) : Int) := by rw [wrap64 (by omega) (by omega)]; omega
      rw [law10_ExprComposition.L2_eq, law10_ExprComposition.SL2]
      simp only [Int.toNat_natCast, hgd, hsd, hwrap]
      rw [decide_eq_true (show (j : Int) < (ops.length : Int) by omega), decide_eq_true (show (0 : Int) ≤ (j : Int) by omega), decide_eq_false (show ¬ (frm : Int) + g.length - 1 < (frm : Int) by omega), decide_eq_false (show ¬ (frm : Int) + g.length - 1 ≥ (last : Int) by omega),
        decide_eq_true (show (0 : Int) ≤ (frm : Int) + g.length - 1 by omega), decide_eq_true (show (frm : Int) + g.length - 1 < (starts.length : Int) by omega)]
      simp only [Bool.and_self, cond_true, cond_false, bne_self_eq_false]
      rw [law10_ExprComposition.J3_eq, law10_ExprComposition.SJ3]
      simp only [Int.toNat_natCast, hgd, hwrap, hsub]
      rw [decide_eq_true (show (j : Int) < (ops.length : Int) by omega), decide_eq_true (show (0 : Int) ≤ (j : Int) by omega), decide_eq_true (show (0 : Int) ≤ (frm : Int) by omega), decide_eq_true (show (frm : Int) ≤ ((frm + g.length : Nat) : Int) by omega),
        decide_eq_true (show ((frm + g.length : Nat) : Int) ≤ (e.length : Int) by omega), (typeOf_spec hs (fun y hy => hok y (hgm y hy))).1, comp_spec hgl c1,
        decide_eq_true (show (inputs.length + 1) * 16 ≤ room by rw [hroom]; omega), decide_eq_true (show (short.length + 1) * 16 ≤ room by rw [hroom]; omega), wrap_succ (by omega), show decide (0 < Ty.nc (.pair (.int .i64) (.pair (.int .i64) .unit))) = true from rfl]
      simp only [Bool.and_self, cond_true, cond_false, bne_self_eq_false, Option.bind_some]
      rw [ih (j + 1) (frm + g.length) (inputs ++ [u]) (short ++ [(7, (j : Int), ())]) ts hjl k2 (by
        rw [← List.drop_drop, h2, List.flatten_cons, List.append_assoc, List.drop_left]) (by omega) c2 (fun m y s' p1 p2 => h5 (m + 1) y s' p1 p2) (by simp; omega) (by simp; omega)]
      simp [List.range'_succ]

theorem comp_final {s : api_SignatureV} {x t : api_TypeV} {inp : List api_TypeV} (n : Nat) (hn : n = inp.length) (h1 : 1 ≤ n) (h3 : n ≤ 3) (ha : arity x.1 = n) (hv : ∀ u ∈ inp, validT u s.1.length = true) (hx : ∃ z, expr_typeOf x inp s = some (t, 0, z)) :
    typeSpec ((List.range' 0 n).map (fun (k : Nat) => ((7, (k : Int), ()) : api_TypeV)) ++ [x]) (s.1, s.2.1, inp, s.2.2.2.1, s.2.2.2.2.1, s.2.2.2.2.2.1, ()) = (t, 0, 0, ()) := by
  obtain ⟨z, hx⟩ := hx
  have hne : inp ≠ [] := by intro e; rw [e] at hn; simp at hn; omega
  have a7 : arity 7 = 0 := rfl
  rw [← typeOf_inputs x inp s inp hne] at hx
  subst hn
  have hty : ∀ (k : Nat) u, inp[k]? = some u → expr_typeOf (7, (k : Int), ()) [] (s.1, s.2.1, inp, s.2.2.2.1, s.2.2.2.2.1, s.2.2.2.2.2.1, ()) = some (u, 0, ()) := fun k u h => input_type h (hv u (List.mem_of_getElem? h))
  generalize hS : (s.1, s.2.1, inp, s.2.2.2.1, s.2.2.2.2.1, s.2.2.2.2.2.1, ()) = S at *
  match inp, h1, h3 with
  | [u0], _, _ =>
    have t0 := hty 0 u0 rfl
    simp only [List.length_singleton, show ((1 : Nat) : Int) = 1 from rfl] at ha
    simp only [Int.ofNat_zero, show ((0 : Nat) : Int) = 0 from rfl] at t0
    simp [typeSpec, startsSpec, runE, finE, tyRun, finT, top, a7, ha, List.range', t0, hx]
  | [u0, u1], _, _ =>
    have t0 := hty 0 u0 rfl
    have t1 := hty 1 u1 rfl
    simp only [List.length_cons, List.length_nil, show ((0 + 1 + 1 : Nat) : Int) = 2 from rfl] at ha
    simp only [show ((0 : Nat) : Int) = 0 from rfl, show ((1 : Nat) : Int) = 1 from rfl] at t0 t1
    simp [typeSpec, startsSpec, runE, finE, tyRun, finT, top, a7, ha, List.range', t0, t1, hx]
  | [u0, u1, u2], _, _ =>
    have t0 := hty 0 u0 rfl
    have t1 := hty 1 u1 rfl
    have t2 := hty 2 u2 rfl
    simp only [List.length_cons, List.length_nil, show ((0 + 1 + 1 + 1 : Nat) : Int) = 3 from rfl] at ha
    simp only [show ((0 : Nat) : Int) = 0 from rfl, show ((1 : Nat) : Int) = 1 from rfl, show ((2 : Nat) : Int) = 2 from rfl] at t0 t1 t2
    simp [typeSpec, startsSpec, runE, finE, tyRun, finT, top, a7, ha, List.range', t0, t1, t2, hx]

theorem endsOf_at : ∀ (gs : List (List api_TypeV)) (i : Nat), (endsOf i gs).length = (offs i gs).length := fun gs i => by rw [endsOf_length, offs_length]

theorem exprComposition_true (awake : law10_awake = some (true, ())) (e : List api_TypeV) (s : api_SignatureV) (he : Ty.okv (.sl api_Type) e) : law10_ExprComposition e s = some (true, ()) := by
  have hok : ∀ x ∈ e, -9223372036854775808 ≤ x.2.1 ∧ x.2.1 ≤ 9223372036854775807 := fun x hx => okv_i64.1 (he.2 x hx).2.1
  unfold law10_ExprComposition
  rw [law10_ExprComposition.Se, awake]
  obtain ⟨b, hb, hbs⟩ := small_val s
  rw [hb]
  simp only [Option.bind_some]
  by_cases hlong : (e.length : Int) > 100
  · rw [decide_eq_true hlong]; rfl
  rw [decide_eq_false hlong, cond_false]
  cases b
  · rfl
  have hs := hbs rfl
  simp only [Bool.not_true, cond_false]
  rw [law10_ExprComposition.J0_eq, law10_ExprComposition.SJ0, (typeOf_spec hs hok).1, awake]
  simp only [Option.bind_some]
  by_cases herr : (typeSpec e s).2.2.1 ≠ 0
  · rw [show ((typeSpec e s).2.2.1 != 0) = true from bne_iff_ne.2 herr]; rfl
  replace herr := Decidable.not_not.1 herr
  rw [herr]
  simp only [bne_self_eq_false, cond_false]
  -- the expression is valid, and has a type
  have hst : (startsSpec e).2.2.1 = 0 := by
    unfold typeSpec at herr
    split at herr
    · assumption
    · rename_i h; exact absurd herr h
  obtain ⟨h1, h2, h3, h4⟩ := spec_ok hst
  obtain ⟨pre, x, rfl⟩ : ∃ pre x, e = pre ++ [x] := ⟨e.dropLast, e.getLast h1, (List.dropLast_concat_getLast h1).symm⟩
  have hlen : (pre ++ [x]).length = pre.length + 1 := by simp
  generalize hl : (startsSpec (pre ++ [x])).1 = l at h3 h4
  obtain ⟨t, hts⟩ : ∃ t, tyRun s (pre ++ [x]) 0 [] = .inr t := by
    unfold typeSpec at herr
    rw [if_pos hst] at herr
    have noerr : ∀ (e : List api_TypeV) (i : Nat) (st : List api_TypeV) (j : Int), tyRun s e i st ≠ .inl (j, 0) := by
      intro e
      induction e with
      | nil => intro i st j h; cases h
      | cons y e ih =>
        intro i st j h
        simp only [tyRun] at h
        split at h
        · split at h
          · exact ih _ _ _ h
          · rename_i hne
            simp only [Sum.inl.injEq, Prod.mk.injEq] at h
            exact hne h.2
        · simp at h
    cases hr : tyRun s (pre ++ [x]) 0 [] with
    | inr t => exact ⟨t, rfl⟩
    | inl p =>
      obtain ⟨j, err⟩ := p
      rw [hr] at herr
      simp only [finT] at herr
      subst herr
      exact absurd hr (noerr _ _ _ _)
  have hspec : typeSpec (pre ++ [x]) s = (t.getD 0 (0, 0, ()), 0, 0, ()) := by
    unfold typeSpec
    rw [if_pos hst, hts]
    rfl
  have h3' := h3
  rw [runE_append] at h3'
  have hts' := hts
  rw [tyRun_append] at hts'
  cases hp : runE pre 0 [] [] with
  | inl p => rw [hp] at h3'; cases h3'
  | inr p =>
    obtain ⟨o1, st1⟩ := p
    cases hpt : tyRun s pre 0 [] with
    | inl p => rw [hpt] at hts'; cases hts'
    | inr t1 =>
      rw [hp] at h3'
      rw [hpt] at hts'
      simp only [Nat.zero_add] at h3' hts'
      obtain ⟨gs, q1, q2, q3⟩ := segs_run (s := s) pre [] [] [] o1 st1 t1 trivial hp hpt
      simp only [List.flatten_nil, List.nil_append] at q3
      obtain ⟨new, r1, r2, r3, r4⟩ := runE_ok pre 0 [] [] o1 st1 hp rfl (show (((0 : Nat) : Int) - 1) = -1 by omega)
      have hval := tyRun_valid hs pre 0 [] [] o1 st1 [] t1 (fun y hy => hok y (by simp [hy])) hp rfl hpt (by simp)
      -- the last node
      obtain ⟨a1, a2⟩ := arity_le x.1
      simp only [runE] at h3'
      split at h3'
      · cases h3'
      · split at h3'
        · cases h3'
        · split at h3'
          · cases h3'
          · rename_i g1 g2 g3
            obtain ⟨n, hn⟩ : ∃ n : Nat, arity x.1 = n := ⟨(arity x.1).toNat, by omega⟩
            simp only [hn, Int.toNat_natCast, Sum.inr.injEq, Prod.mk.injEq] at h3' g3
            obtain ⟨s1, s2⟩ := h3'
            have hsl : st1.length = n := by
              have := congrArg List.length s2
              simp at this
              omega
            have hgl : gs.length = n := by rw [← hsl, q1, offs_length]
            have htl : t1.length = n := by rw [← hgl]; exact q2.length.symm
            rw [hsl, Nat.sub_self, List.take_zero, List.nil_append, List.cons.injEq] at s2
            have htop := s2.1
            -- its type
            simp only [tyRun, hn, Int.toNat_natCast, htl, Nat.sub_self, List.drop_zero, List.take_zero, List.nil_append] at hts'
            have hxt : ∃ u z, expr_typeOf x t1 s = some (u, 0, z) ∧ t = [u] := by
              split at hts'
              · rename_i u err z hu
                split at hts'
                · rename_i he0
                  subst he0
                  simp only [Sum.inr.injEq] at hts'
                  exact ⟨u, z, hu, hts'.symm⟩
                · cases hts'
              · cases hts'
            obtain ⟨u, z, hu, rfl⟩ := hxt
            have hlast : (pre ++ [x])[pre.length]? = some x := by simp
            have hl1 : l = o1 ++ [(0 : Int)] := by rw [← s1, htop]
            have ho1 : o1.length = pre.length := by rw [r1, List.nil_append, r2]
            have hwl : IntKind.i64.wrap (((pre ++ [x]).length : Int) - 1) = (pre.length : Int) := by rw [hlen, wrap64 (by omega) (by omega)]; omega
            have hcl : Chain l st1.reverse ((pre.length : Int) - 1) := by
              rw [hl1]
              refine Chain.more ?_
              simpa using r3
            -- Operands
            have hops : expr_Operands (pre ++ [x]) pre.length = some (endsOf 0 gs, ()) := by
              unfold expr_Operands
              rw [expr_Operands.Se, expr_Starts_val]
              simp only [Option.bind_some, hst, hl, bne_self_eq_false, cond_false]
              rw [decide_eq_false (by omega), decide_eq_false (by omega), cond_false, cond_false, expr_operands_val (stk := st1.reverse) (by omega) (by omega) hcl (by simp [hn]) (by simp [hn, hsl]) h2]
              simp only [Option.bind_some, List.getElem_concat_length, hn, Int.toNat_natCast]
              have e1 := (ends_offs gs 0).1
              rw [q3, ← q1] at e1
              rw [show (pre.length : Int) - 1 = ((0 : Nat) : Int) + pre.length - 1 by omega, e1, List.take_of_length_le (by simp [endsOf_length, hgl]), List.reverse_reverse]
            rw [hwl, hops, expr_Starts_val, hspec]
            simp only [Option.bind_some, hst, hl, bne_self_eq_false, cond_false, List.getD_cons_zero]
            rw [h4, show (((pre ++ [x]).length : Int) != ((pre ++ [x]).length : Int)) = false from bne_self_eq_false _, cond_false, decide_eq_true (by omega), decide_eq_true (by omega), Bool.and_self, cond_true, idx_nat, hlast]
            have hl0 : l.getD (pre.length : Int).toNat 0 = 0 := by
              rw [Int.toNat_natCast, List.getD_eq_getElem?_getD, hl1, ← ho1]
              simp
            simp only [hl0, bne_self_eq_false, cond_false, Option.bind_some, expr_Arity_val, hn, endsOf_length, hgl]
            rw [law10_ExprComposition.J1_eq, law10_ExprComposition.SJ1, awake]
            simp only [endsOf_length, hgl, Option.bind_some]
            by_cases hn0 : n = 0
            · subst hn0
              have : gs = [] := List.length_eq_zero_iff.1 hgl
              subst this
              simp only [List.flatten_nil] at q3
              subst q3
              rfl
            · rw [show ((n : Int) == 0) = false from beq_eq_false_iff_ne.2 (by omega), cond_false]
              have hloop := comp_loop (e := pre ++ [x]) (s := s) (t := u) (x := x) (starts := l) (ops := endsOf 0 gs) (last := pre.length) h2 (by omega) (by rw [endsOf_length]; omega) h4 hs hok gs 0 0 [] [] t1 (by omega) rfl (by rw [List.drop_zero, q3]) (by rw [q3]; omega) q2 (fun m y s' p1 p2 => by
                have hm : m < gs.length := by
                  have := (List.getElem?_eq_some_iff.1 p1).1
                  rwa [endsOf_length] at this
                have e1 := (ends_offs gs 0).1
                rw [q3, ← q1, show ((0 : Nat) : Int) + pre.length - 1 = (pre.length : Int) - 1 by omega] at e1
                have e2 : (ends st1.reverse ((pre.length : Int) - 1))[gs.length - 1 - m]? = some y := by
                  rw [e1, List.getElem?_reverse (by rw [endsOf_length]; omega), endsOf_length, ← p1]
                  congr 1
                  omega
                obtain ⟨s'', f1, f2⟩ := hcl.at _ _ e2
                rw [List.getElem?_reverse (by rw [hsl]; omega), q1, offs_length, show gs.length - 1 - (gs.length - 1 - m) = m by omega, p2] at f1
                rw [f2, f1]) (by simp) (by simp)
              rw [show ((0 : Nat) : Int) = 0 from rfl] at hloop
              rw [hloop, law10_ExprComposition.L2_eq, law10_ExprComposition.SL2, decide_eq_false (by omega), cond_false, idx_nat, hlast]
              have hroom : room = 140737488355328 := rfl
              simp only [Option.bind_some, List.nil_append]
              rw [hgl, decide_eq_true (show (((List.range' 0 n).map fun (k : Nat) => ((7, (k : Int), ()) : api_TypeV)).length + 1) * 16 ≤ room by rw [hroom]; simp; omega), show decide (0 < Ty.nc (.pair (.int .i64) (.pair (.int .i64) .unit))) = true from rfl, Bool.and_self, cond_true]
              have hfin := comp_final (s := s) (x := x) (t := u) (inp := t1) n htl.symm (by omega) (by omega) hn hval ⟨z, hu⟩
              rw [(typeOf_spec (s := (s.1, s.2.1, t1, s.2.2.2.1, s.2.2.2.2.1, s.2.2.2.2.2.1, ())) hs (fun y hy => by
                rcases List.mem_append.1 hy with hy | hy
                · obtain ⟨k, hk, rfl⟩ := List.mem_map.1 hy
                  have := List.mem_range'_1.1 hk
                  simp only
                  omega
                · exact hok y (by simp at hy; simp [hy]))).1, hfin, awake]
              simp only [Option.bind_some, beq_self_eq_true, cond_true, eqT, decide_true]

end Go.Proofs.Ytbfckejaihblmaa
