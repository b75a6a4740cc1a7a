/- Plain laws of the lifted functions. -/
import Derived.Test.YtmkkdjnojcmihaaPTypes2
set_option maxRecDepth 100000
set_option linter.unusedVariables false
set_option linter.unusedSimpArgs false
namespace Go.Proofs.Ytmkkdjnojcmihaa
open Go Go.Lift

/-! ### TypeOf -/

def ends : List Int → Int → List Int
  | [], _ => []
  | s :: r, k => k :: ends r (s - 1)

theorem ends_length : ∀ (r : List Int) (k : Int), (ends r k).length = r.length := by
  intro r
  induction r with
  | nil => intro k; rfl
  | cons s r ih => intro k; simp [ends, ih]

theorem Chain.ends_le {l : List Int} : ∀ {r : List Int} {k : Int}, Chain l r k → ∀ x ∈ ends r k, 0 ≤ x ∧ x ≤ k := by
  intro r
  induction r with
  | nil => intro k _ x hx; cases hx
  | cons s r ih =>
    intro k ⟨h1, h2, h3, h4, h5⟩ x hx
    rcases List.mem_cons.1 hx with rfl | hx
    · omega
    · have := ih h5 x hx; omega

theorem Chain.ends_drop {l : List Int} : ∀ (n : Nat) {r : List Int} {k : Int}, Chain l r k → n < r.length → ∃ s, r[n]? = some s ∧ (ends r k).drop (n + 1) = ends (r.drop (n + 1)) (s - 1) := by
  intro n
  induction n with
  | zero =>
    intro r k h hn
    match r, hn with
    | s :: r, _ => exact ⟨s, rfl, rfl⟩
  | succ n ih =>
    intro r k h hn
    match r, hn with
    | s :: r, hn =>
      obtain ⟨h1, h2, h3, h4, h5⟩ := h
      obtain ⟨t, g1, g2⟩ := ih h5 (by simpa using hn)
      exact ⟨t, by simpa using g1, by simpa [ends] using g2⟩

theorem ops_val {l : List Int} (hl : l.length ≤ 48) : ∀ (n : Nat) (stk : List Int) (last : Int) (out : List Int), Chain l stk last → n ≤ stk.length → n ≤ out.length → out.length ≤ 3 →
    expr_operands.L0 l out last ((n : Int) - 1) = some (((ends stk last).take n).reverse ++ out.drop n, ()) := by
  intro n
  induction n with
  | zero =>
    intro stk last out _ _ _ _
    rw [expr_operands.L0_eq, expr_operands.SL0, decide_eq_false (by omega)]
    rfl
  | succ n ih =>
    intro stk last out hc hn ho ho3
    match stk, hn with
    | s :: stk, hn =>
      obtain ⟨h1, h2, h3, h4, h5⟩ := hc
      rw [expr_operands.L0_eq, expr_operands.SL0, show ((n + 1 : Nat) : Int) - 1 = (n : Int) by omega]
      have hlast : idx l last = some s := by rw [idx_of last.toNat (by omega)]; exact h4
      simp only [decide_eq_true (show (n : Int) ≥ 0 by omega), decide_eq_true (show (n : Int) < (out.length : Int) by omega), 
        Bool.and_self, cond_true, hlast, Option.bind_some, Int.toNat_natCast]
      rw [wrap64 (n := s - 1) (by omega) (by omega), wrap64 (n := (n : Int) - 1) (by omega) (by omega), ih stk (s - 1) (out.set n last) h5 (by simpa using hn) (by simp; omega) (by simpa using ho3), drop_set_self (by omega)]
      simp [ends]

theorem expr_operands_val {e : List api_TypeV} {l stk : List Int} {j : Nat} (hl : l.length ≤ 48) (hj : j < e.length) (hc : Chain l stk ((j : Int) - 1)) (h0 : 0 ≤ arity e[j].1) (h1 : (arity e[j].1).toNat ≤ stk.length) (he : e.length ≤ 48) :
    expr_operands e l j = some (((ends stk ((j : Int) - 1)).take (arity e[j].1).toNat).reverse, ()) := by
  unfold expr_operands
  rw [expr_operands.Se, idx_nat, List.getElem?_eq_getElem hj]
  simp only [Option.bind_some, expr_Arity_val]
  obtain ⟨a1, a2⟩ := arity_le e[j].1
  obtain ⟨n, hn⟩ : ∃ n : Nat, arity e[j].1 = n := ⟨(arity e[j].1).toNat, by omega⟩
  rw [hn] at h1 a2 ⊢
  have hroom : room = 140737488355328 := rfl
  simp only [decide_eq_true (show (0 : Int) ≤ (n : Int) by omega), decide_eq_true (show (n : Int) ≤ (n : Int) by omega), decide_eq_true (show (n : Int) * 8 ≤ (room : Int) by rw [hroom]; omega),
    decide_eq_true (show (n : Int) ≤ (maxLen : Int) by rw [maxLen_eq]; omega), show decide (0 < Ty.nc (.int .i64)) = true from rfl, Bool.and_self, cond_true, Int.toNat_natCast]
  rw [wrap64 (n := (j : Int) - 1) (by omega) (by omega), wrap64 (n := (n : Int) - 1) (by omega) (by omega), ops_val hl n stk ((j : Int) - 1) (List.replicate n 0) hc (by simpa using h1) (by simp) (by simp; omega)]
  simp

def tget (types : List api_TypeV) (k : Int) : api_TypeV := types.getD k.toNat (0, 0, ())

theorem args_loop {e : List api_TypeV} {s : api_SignatureV} {z n : api_TypeV} {l : List Int} {types : List api_TypeV} {i : Int} {v32 : List api_TypeV} {v33 v34 : Int} {ops : List Int} (ho : ops.length ≤ 3)
    (hr : ∀ x ∈ ops, 0 ≤ x ∧ x < types.length) : ∀ (d k : Nat) (args : List api_TypeV), k + d = ops.length → args.length ≤ k →
    expr_TypeOf.L1 e s z l types i n args v32 v33 v34 ops ops.length k = expr_TypeOf.L1 e s z l types i n (args ++ (ops.drop k).map (tget types)) v32 v33 v34 ops ops.length ops.length := by
  intro d
  induction d with
  | zero =>
    intro k args hk ha
    have : k = ops.length := by omega
    subst this
    simp
  | succ d ih =>
    intro k args hk ha
    have hk' : k < ops.length := by omega
    obtain ⟨r1, r2⟩ := hr ops[k] (List.getElem_mem hk')
    have hg : ops.getD k 0 = ops[k] := by rw [List.getD_eq_getElem?_getD, List.getElem?_eq_getElem hk']; rfl
    have hroom : room = 140737488355328 := rfl
    rw [expr_TypeOf.L1_eq, expr_TypeOf.SL1]
    simp only [Int.toNat_natCast, hg]
    rw [decide_eq_true (show (k : Int) < (ops.length : Int) by omega), decide_eq_true (show (0 : Int) ≤ (k : Int) by omega), decide_eq_true r1, decide_eq_true r2,
      decide_eq_true (show (args.length + 1) * 16 ≤ room by rw [hroom]; omega), wrap_succ (by omega), show decide (0 < Ty.nc (.pair (.int .i64) (.pair (.int .i64) .unit))) = true from rfl]
    simp only [Bool.and_self, cond_true]
    rw [ih (k + 1) _ (by omega) (by simp; omega), List.append_assoc, show ops.drop k = ops[k] :: ops.drop (k + 1) from List.drop_eq_getElem_cons hk']
    rfl

noncomputable def tyRun (s : api_SignatureV) : List api_TypeV → Nat → List api_TypeV → (Int × Int) ⊕ List api_TypeV
  | [], _, st => .inr st
  | x :: e, i, st =>
    match expr_typeOf x (st.drop (st.length - (arity x.1).toNat)) s with
    | some (t, err, _) => if err = 0 then tyRun s e (i + 1) (st.take (st.length - (arity x.1).toNat) ++ [t]) else .inl (i, err)
    | none => .inl (i, 99)

def finT : (Int × Int) ⊕ List api_TypeV → api_TypeV × Int × Int × Unit
  | .inl (i, err) => ((0, 0, ()), i, err, ())
  | .inr st => (st.getD 0 (0, 0, ()), 0, 0, ())

theorem node_agree (x : api_TypeV) (args : List api_TypeV) (s : api_SignatureV) (h0 : 0 ≤ arity x.1) (h : args.length = (arity x.1).toNat) (hN : -9223372036854775808 ≤ x.2.1 ∧ x.2.1 ≤ 9223372036854775807)
    (hs : s.1.length ≤ 1000) (hv : ∀ t ∈ args, validT t s.1.length = true) : Agree (expr_typeOf x args s) (ref10_Result x args s) s.1.length := by
  obtain ⟨op, N, u⟩ := x
  rcases arity_cases op with ⟨g, e⟩ | ⟨g, e⟩ | ⟨g, e⟩ | ⟨g, e⟩ | ⟨g, g', e⟩ | ⟨g, g', e⟩ | ⟨g, g', g1, g2, e⟩
  · simp only [e] at h0; omega
  · simp only [e] at h0; omega
  · simp only [e] at h
    subst g
    match args, h with
    | [a, b, c], _ => exact if_agree N a b c s (hv a (by simp)) (hv b (by simp))
  · simp only [e] at h
    match args, h with
    | [a], _ => exact single_agree op N a s g hN (hv a (by simp))
  · simp only [e] at h
    match args, h with
    | [], _ => exact leaf_agree op N s (by omega) hN hs
  · simp only [e] at h
    match args, h with
    | [], _ => exact leaf_agree op N s (by omega) hN hs
  · simp only [e] at h
    match args, h with
    | [a, b], _ => exact double_agree op N a b s g g' g1 g2 (hv a (by simp)) (hv b (by simp))

theorem types_loop {e : List api_TypeV} {s : api_SignatureV} {z z' : api_TypeV} {l : List Int} (hs : s.1.length ≤ 1000) (he : e.length ≤ 48) (he0 : e ≠ []) (hok : ∀ x ∈ e, -9223372036854775808 ≤ x.2.1 ∧ x.2.1 ≤ 9223372036854775807) (hl : l.length = e.length) :
    ∀ (rest : List api_TypeV) (i : Nat) (out st : List Int) (types tstk : List api_TypeV), i ≤ e.length → e.drop i = rest → runE rest i out st = .inr (l, [0]) → out.length = i → Chain out st.reverse ((i : Int) - 1) → types.length = e.length →
    (ends st.reverse ((i : Int) - 1)).map (tget types) = tstk.reverse → (∀ t ∈ tstk, validT t s.1.length = true) → tstk.length ≤ 12 →
    expr_TypeOf.L0 e s z l types e e.length i = some (finT (tyRun s rest i tstk)) ∧ ref10_TypeOf.L0 e s z' tstk i = some (finT (tyRun s rest i tstk)) := by
  intro rest
  induction rest with
  | nil =>
    intro i out st types tstk hi hd hr ho hc ht hm hv h12
    have hie : i = e.length := by
      have := congrArg List.length hd
      simp at this
      omega
    have hpos : 0 < e.length := List.length_pos_iff.2 he0
    simp only [runE, Sum.inr.injEq, Prod.mk.injEq] at hr
    obtain ⟨rfl, rfl⟩ := hr
    rw [expr_TypeOf.L0_eq, expr_TypeOf.SL0, ref10_TypeOf.L0_eq, ref10_TypeOf.SL0]
    subst hie
    have hlen : tstk.length = 1 := by
      have := congrArg List.length hm
      simp [ends] at this
      omega
    match tstk, hlen with
    | [t], _ =>
      simp only [List.reverse_cons, List.reverse_nil, List.nil_append, ends, List.map_cons, List.map_nil, List.cons.injEq, and_true] at hm
      rw [wrap64 (by omega) (by omega), decide_eq_false (by omega), cond_false, cond_false, decide_eq_true (by omega), decide_eq_true (by omega), Bool.and_self, cond_true, decide_eq_true (by omega), decide_eq_true (by simp), Bool.and_self, cond_true]
      simp only [tyRun, finT, List.getD_cons_zero, and_true]
      rw [← hm]
      rfl
  | cons x rest ih =>
    intro i out st types tstk hi hd hr ho hc ht hm hv h12
    have hie : i < e.length := by
      have := congrArg List.length hd
      simp at this
      omega
    have hx : e[i] = x := by
      rw [List.drop_eq_getElem_cons hie] at hd
      exact (List.cons.inj hd).1
    have hd' : e.drop (i + 1) = rest := by
      rw [List.drop_eq_getElem_cons hie] at hd
      exact (List.cons.inj hd).2
    obtain ⟨new, ex1, -, -, -⟩ := runE_ok (x :: rest) i out st l [0] hr ho hc
    have hr0 := hr
    simp only [runE] at hr
    obtain ⟨a1, a2⟩ := arity_le x.1
    split at hr
    · cases hr
    · split at hr
      · cases hr
      · split at hr
        · cases hr
        · rename_i g1 g2 g3
          have hlen : tstk.length = st.length := by
            have := congrArg List.length hm
            simp [ends_length] at this
            omega
          have hcl : Chain l st.reverse ((i : Int) - 1) := by rw [ex1]; exact hc.more
          rw [expr_TypeOf.L0_eq, expr_TypeOf.SL0, ref10_TypeOf.L0_eq, ref10_TypeOf.SL0]
          rw [decide_eq_true (show (i : Int) < (e.length : Int) by omega), cond_true, cond_true, idx_nat, List.getElem?_eq_getElem hie, Option.bind_some, Option.bind_some,
            expr_operands_val (by omega) hie hcl (by rw [hx]; omega) (by rw [hx]; simp; omega) he, hx]
          simp only [Option.bind_some, ref10_Arity_val]
          obtain ⟨n, hn⟩ : ∃ n : Nat, arity x.1 = n := ⟨(arity x.1).toNat, by omega⟩
          rw [hn, Int.toNat_natCast]
          have hnl : n ≤ st.length := by omega
          have hopl : (((ends st.reverse ((i : Int) - 1)).take n).reverse).length = n := by simp [ends_length]; omega
          have hroom : room = 140737488355328 := rfl
          have hargs : (((ends st.reverse ((i : Int) - 1)).take n).reverse).map (tget types) = tstk.drop (tstk.length - n) := by
            rw [List.map_reverse, List.map_take, hm, List.take_reverse, List.reverse_reverse]
          have e1 := args_loop (e := e) (s := s) (z := z) (n := x) (l := l) (types := types) (i := i) (v32 := e) (v33 := e.length) (v34 := i) (ops := ((ends st.reverse ((i : Int) - 1)).take n).reverse) (by omega)
            (fun y hy => by
              have := hcl.ends_le y (List.mem_of_mem_take (List.mem_reverse.1 hy))
              omega) n 0 [] (by omega) (by simp)
          rw [List.drop_zero, List.nil_append, hargs, show ((0 : Nat) : Int) = 0 from rfl] at e1
          rw [e1, expr_TypeOf.L1_eq, expr_TypeOf.SL1, decide_eq_false (by omega), cond_false]
          have hwr : IntKind.i64.wrap ((tstk.length : Int) - (n : Int)) = ((tstk.length - n : Nat) : Int) := by rw [wrap64 (by omega) (by omega)]; omega
          rw [hwr]
          simp only [Int.toNat_natCast]
          have hdt : (tstk.drop (tstk.length - n)).take (tstk.length - (tstk.length - n)) = tstk.drop (tstk.length - n) := List.take_of_length_le (by simp)
          rw [decide_eq_true (show (0 : Int) ≤ ((tstk.length - n : Nat) : Int) by omega), decide_eq_true (show ((tstk.length - n : Nat) : Int) ≤ (tstk.length : Int) by omega), decide_eq_true (show (tstk.length : Int) ≤ (tstk.length : Int) by omega), hdt]
          simp only [Bool.and_self, cond_true]
          have hag := node_agree x (tstk.drop (tstk.length - n)) s (by omega) (by rw [hn]; simp; omega) (hok x (by rw [← hx]; exact List.getElem_mem hie)) hs (fun t ht => hv t (List.mem_of_mem_drop ht))
          obtain ⟨t, t', err, p1, p2, p3⟩ := hag
          rw [p1, p2]
          simp only [Option.bind_some, tyRun, hn, Int.toNat_natCast, p1]
          by_cases herr : err = 0
          · subst herr
            obtain ⟨rfl, hvt⟩ := p3 rfl
            rw [if_pos rfl]
            simp only [bne_self_eq_false, cond_false]
            rw [decide_eq_true (show (0 : Int) ≤ (i : Int) by omega), decide_eq_true (show (i : Int) < (types.length : Int) by omega), decide_eq_true (show (0 : Int) ≤ 0 by omega), wrap_succ (by omega),
              decide_eq_true (show ((tstk.take (tstk.length - n)).length + 1) * 16 ≤ room by rw [hroom]; simp; omega), show decide (0 < Ty.nc (.pair (.int .i64) (.pair (.int .i64) .unit))) = true from rfl]
            simp only [Bool.and_self, cond_true]
            -- the new chain
            obtain ⟨new2, f1, f2, f3, f4⟩ := runE_ok [x] i out st (out ++ [top i x.1 st]) (st.take (st.length - (arity x.1).toNat) ++ [top i x.1 st]) (by simp only [runE, if_neg g1, if_neg g2, if_neg g3]) ho hc
            simp only [List.length_cons, List.length_nil, Nat.zero_add] at f3
            refine ih (i + 1) _ _ (types.set i t) (tstk.take (tstk.length - n) ++ [t]) (by omega) hd' hr (by simp [ho]) f3 (by simp [ht]) ?_ ?_ ?_
            · rw [hn, Int.toNat_natCast, List.reverse_append, List.reverse_singleton, List.singleton_append, show ((i + 1 : Nat) : Int) - 1 = i by omega, ends, List.map_cons, List.reverse_append, List.reverse_singleton, List.singleton_append]
              have e2 : tget (types.set i t) (i : Int) = t := by
                unfold tget
                rw [Int.toNat_natCast, List.getD_eq_getElem?_getD, List.getElem?_set_self (by omega)]
                rfl
              have e3 : ends (st.take (st.length - n)).reverse (top i x.1 st - 1) = (ends st.reverse ((i : Int) - 1)).drop n := by
                by_cases hn0 : n = 0
                · subst hn0
                  rw [Nat.sub_zero, List.take_length, List.drop_zero, top, hn, if_neg (by omega)]
                · obtain ⟨q, q1, q2⟩ := hcl.ends_drop (n - 1) (by simp; omega)
                  rw [show n - 1 + 1 = n by omega] at q2
                  rw [q2, List.reverse_take, show st.length - (st.length - n) = n by omega]
                  congr 2
                  unfold top
                  rw [hn, if_pos (by omega), Int.toNat_natCast]
                  rw [List.getElem?_reverse (by omega)] at q1
                  rw [List.getD_eq_getElem?_getD, show st.length - n = st.length - 1 - (n - 1) by omega, q1]
                  rfl
              rw [e2, e3]
              congr 1
              rw [List.reverse_take, show tstk.length - (tstk.length - n) = n by omega, ← hm, List.map_drop]
              congr 1
              refine List.map_congr_left fun y hy => ?_
              have := hcl.ends_le y hy
              unfold tget
              rw [List.getD_eq_getElem?_getD, List.getD_eq_getElem?_getD, List.getElem?_set_ne (by omega)]
            · intro y hy
              rcases List.mem_append.1 hy with hy | hy
              · exact hv y (List.mem_of_mem_take hy)
              · rw [List.mem_singleton] at hy; rw [hy]; exact hvt
            · simp; omega
          · rw [if_neg herr]
            simp only [show (err != 0) = true from bne_iff_ne.2 herr, cond_true, finT, and_self]

/-- What TypeOf returns. -/
noncomputable def typeSpec (e : List api_TypeV) (s : api_SignatureV) : api_TypeV × Int × Int × Unit :=
  if (startsSpec e).2.2.1 = 0 then finT (tyRun s e 0 []) else ((0, 0, ()), (startsSpec e).2.1, (startsSpec e).2.2.1, ())

theorem typeOf_spec {e : List api_TypeV} {s : api_SignatureV} (hs : s.1.length ≤ 1000) (hok : ∀ x ∈ e, -9223372036854775808 ≤ x.2.1 ∧ x.2.1 ≤ 9223372036854775807) :
    expr_TypeOf e s = some (typeSpec e s) ∧ ref10_TypeOf e s = some (typeSpec e s) := by
  unfold expr_TypeOf ref10_TypeOf typeSpec
  rw [expr_TypeOf.Se, ref10_TypeOf.Se, (starts_spec e).1, (starts_spec e).2]
  simp only [Option.bind_some]
  by_cases h : (startsSpec e).2.2.1 = 0
  · obtain ⟨h1, h2, h3, h4⟩ := spec_ok h
    have hroom : room = 140737488355328 := rfl
    rw [if_pos h, h]
    simp only [bne_self_eq_false, cond_false]
    rw [decide_eq_true (show (0 : Int) ≤ ((e.length : Int) : Int) by omega), decide_eq_true (show ((e.length : Int) : Int) ≤ (e.length : Int) by omega), decide_eq_true (show ((e.length : Int) : Int) * 16 ≤ (room : Int) by rw [hroom]; omega),
      decide_eq_true (show ((e.length : Int) : Int) ≤ (maxLen : Int) by rw [maxLen_eq]; omega), show decide (0 < Ty.nc (.pair (.int .i64) (.pair (.int .i64) .unit))) = true from rfl]
    simp only [Bool.and_self, cond_true]
    exact types_loop hs h2 h1 hok h4 e 0 [] [] (List.replicate e.length (0, 0, ())) [] (by omega) rfl h3 rfl (show (((0 : Nat) : Int) - 1) = -1 by omega) (by simp) rfl (by simp) (by simp)
  · rw [if_neg h]
    simp only [show ((startsSpec e).2.2.1 != 0) = true from bne_iff_ne.2 h, cond_true, and_self]

/-- Types of the parts are valid. -/
theorem tyRun_valid {s : api_SignatureV} (hs : s.1.length ≤ 1000) : ∀ (e : List api_TypeV) (i : Nat) (out st o sf : List Int) (tst tf : List api_TypeV), (∀ x ∈ e, -9223372036854775808 ≤ x.2.1 ∧ x.2.1 ≤ 9223372036854775807) → runE e i out st = .inr (o, sf) →
    tst.length = st.length → tyRun s e i tst = .inr tf → (∀ t ∈ tst, validT t s.1.length = true) → ∀ t ∈ tf, validT t s.1.length = true := by
  intro e
  induction e with
  | nil =>
    intro i out st o sf tst tf _ _ _ h hv
    simp only [tyRun, Sum.inr.injEq] at h
    exact h ▸ hv
  | cons x e ih =>
    intro i out st o sf tst tf hok hr hl h hv
    obtain ⟨a1, a2⟩ := arity_le x.1
    simp only [runE] at hr
    split at hr
    · cases hr
    · split at hr
      · cases hr
      · split at hr
        · cases hr
        · rename_i g1 g2 g3
          simp only [tyRun] at h
          obtain ⟨t, t', err, p1, p2, p3⟩ := node_agree x (tst.drop (tst.length - (arity x.1).toNat)) s (by omega) (by simp; omega) (hok x (by simp)) hs (fun t ht => hv t (List.mem_of_mem_drop ht))
          rw [p1] at h
          simp only at h
          split at h
          · rename_i herr
            refine ih _ _ _ _ _ _ _ (fun y hy => hok y (List.mem_cons_of_mem _ hy)) hr (by simp; omega) h ?_
            intro y hy
            rcases List.mem_append.1 hy with hy | hy
            · exact hv y (List.mem_of_mem_take hy)
            · rw [List.mem_singleton] at hy; rw [hy]; exact (p3 herr).2
          · cases h

end Go.Proofs.Ytmkkdjnojcmihaa
