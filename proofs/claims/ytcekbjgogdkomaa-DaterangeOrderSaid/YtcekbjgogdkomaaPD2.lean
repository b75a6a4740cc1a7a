/- Plain laws of the lifted functions. -/
import Derived.Test.YtcekbjgogdkomaaPD1
set_option maxRecDepth 100000
set_option linter.unusedVariables false
set_option linter.unusedSimpArgs false
namespace Go.Proofs.Ytcekbjgogdkomaa
open Go Go.Lift

/-! ### Union -/
theorem union_L0 : ∀ (rest pre acc : List api_DateRangeV), (pre ++ rest).length ≤ 200000 → acc.length + rest.length ≤ 200000 →
    daterange_Union.L0 acc (pre ++ rest) ((pre ++ rest).length : Int) (pre.length : Int) = Option.bind (slices_SortFunc_api_DateRange_api_DateRange_daterange_Union_1 (acc ++ rest.filter prp)) fun x3 => daterange_Union.L1 [] x3.1 (x3.1.length : Int) 0
  | [], pre, acc, h1, h2 => by
    rw [daterange_Union.L0_eq, daterange_Union.SL0, cd_f (by simp)]
    simp
  | x :: rest, pre, acc, h1, h2 => by
    rw [len_mid] at h1
    simp only [List.length_cons] at h2
    rw [daterange_Union.L0_eq, daterange_Union.SL0, cd_t (by rw [len_mid]; omega), idx_mid]
    simp only [bind_some', proper_val]
    rw [wrap_succ (by omega), mid_shift pre x rest, ← len_snoc pre x]
    cases e : prp x with
    | true =>
      rw [cond_true, rm16 (by omega), cond_true, union_L0 rest (pre ++ [x]) (acc ++ [x]) (by simp; omega) (by simp; omega)]
      simp [e]
    | false =>
      rw [cond_false, union_L0 rest (pre ++ [x]) acc (by simp; omega) (by omega)]
      simp [e]

theorem union_L1 : ∀ (rest pre out : List api_DateRangeV), (pre ++ rest).length ≤ 200000 → out.length ≤ pre.length → Nrm out → (∀ r ∈ rest, prp r = true) → rest.Pairwise (fun x y => x.1 ≤ y.1) → (∀ e ∈ out, ∀ r ∈ rest, e.1 ≤ r.1) →
    ∃ u, daterange_Union.L1 out (pre ++ rest) ((pre ++ rest).length : Int) (pre.length : Int) = some (u, ()) ∧ Nrm u ∧ (∀ t, cov u t ↔ cov out t ∨ cov rest t)
  | [], pre, out, h1, h2, hn, hp, hs, hr => by
    rw [daterange_Union.L1_eq, daterange_Union.SL1, cd_f (by simp)]
    exact ⟨out, rfl, hn, fun t => by simp [cov_nil]⟩
  | x :: rest, pre, out, h1, h2, hn, hp, hs, hr => by
    rw [len_mid] at h1
    have hx := hp x (List.mem_cons_self ..)
    have px := prp_iff.1 hx
    rw [daterange_Union.L1_eq, daterange_Union.SL1, cd_t (by rw [len_mid]; omega), cd_b (by omega) (by rw [len_mid]; omega), Int.toNat_natCast, getD_mid]
    have put : ∃ u, daterange_Union.J2 out x (out.length : Int) (pre ++ x :: rest) ((pre ++ x :: rest).length : Int) (pre.length : Int) false = some (u, ()) ∧ Nrm u ∧ (∀ t, cov u t ↔ cov out t ∨ cov (x :: rest) t) ∨ ∃ e ∈ out, x.1 ≤ e.2.1 := by
      by_cases c : ∃ e ∈ out, x.1 ≤ e.2.1
      · exact ⟨[], .inr c⟩
      · rw [daterange_Union.J2_eq, daterange_Union.SJ2, cond_false, rm16 (by omega), cond_true, wrap_succ (by omega), mid_shift pre x rest, ← len_snoc pre x]
        obtain ⟨u, u1, u2, u3⟩ := union_L1 rest (pre ++ [x]) (out ++ [x]) (by simp; omega) (by simp; omega) (Nrm_snoc.2 ⟨hn, hx, fun y hy => Decidable.byContradiction fun g => c ⟨y, hy, by omega⟩⟩) (fun r h => hp r (List.mem_cons_of_mem _ h)) (List.pairwise_cons.1 hs).2 (fun e he r h => by
            rcases List.mem_append.1 he with he | he
            · exact hr e he r (List.mem_cons_of_mem _ h)
            · rw [List.mem_singleton.1 he]; exact (List.pairwise_cons.1 hs).1 r h)
        refine ⟨u, .inl ⟨u1, u2, fun t => ?_⟩⟩
        rw [u3 t, cov_append, cov_cons, cov_cons, or_assoc]
        simp [cov_nil]
    rcases List.eq_nil_or_concat out with e | ⟨o, l, e⟩
    · obtain ⟨u, ⟨u1, u2, u3⟩ | ⟨y, hy, _⟩⟩ := put
      · subst e
        rw [cd_f (by simp)]
        exact ⟨u, u1, u2, u3⟩
      · rw [e] at hy; cases hy
    · rw [List.concat_eq_append] at e
      have ol : out.length = o.length + 1 := by rw [e]; simp
      have n1 := Nrm_snoc.1 (e ▸ hn)
      rw [cd_t (by omega)]
      have e1 : IntKind.i64.wrap ((out.length : Int) - 1) = (o.length : Int) := by rw [wrap64 (by omega) (by omega)]; omega
      rw [e1, cd_b (by omega) (by omega), Int.toNat_natCast]
      have e2 : out.getD o.length (0, 0, ()) = l := by rw [e]; exact getD_mid o l _ []
      rw [e2]
      by_cases c : x.1 ≤ l.2.1
      · rw [decide_eq_true c, daterange_Union.J2_eq, daterange_Union.SJ2, cond_true, e1, cd_b (by omega) (by omega), cd_b (by omega) (by omega), Int.toNat_natCast, e2, wrap_succ (by omega), mid_shift pre x rest, ← len_snoc pre x]
        have e3 : ∀ v, out.set o.length v = o ++ [v] := fun v => by rw [e]; simp
        rw [e3]
        have hl : l.1 ≤ x.1 := hr l (by rw [e]; simp) x (List.mem_cons_self ..)
        have pl := prp_iff.1 n1.2.1
        have em : ∀ (P : Int → Prop), P (cond (decide (x.2.1 > l.2.1)) x.2.1 l.2.1) ↔ P (max x.2.1 l.2.1) := fun P => by
          by_cases g : x.2.1 > l.2.1
          · rw [decide_eq_true g, cond_true, Int.max_eq_left (by omega)]
          · rw [decide_eq_false g, cond_false, Int.max_eq_right (by omega)]
        obtain ⟨u, u1, u2, u3⟩ := union_L1 rest (pre ++ [x]) (o ++ [(l.1, cond (decide (x.2.1 > l.2.1)) x.2.1 l.2.1, ())]) (by simp; omega) (by simp; omega) (Nrm_snoc.2 ⟨n1.1, by
            rw [prp_iff]
            show _ ∧ l.1 < cond (decide (x.2.1 > l.2.1)) x.2.1 l.2.1 ∧ cond (decide (x.2.1 > l.2.1)) x.2.1 l.2.1 ≤ 109573
            rw [em (fun v => l.1 < v), em (fun v => v ≤ 109573)]
            exact ⟨pl.1, by omega, by omega⟩, fun y hy => n1.2.2 y hy⟩) (fun r h => hp r (List.mem_cons_of_mem _ h)) (List.pairwise_cons.1 hs).2 (fun e' he r h => by
            rcases List.mem_append.1 he with he | he
            · exact hr e' (by rw [e]; simp [he]) r (List.mem_cons_of_mem _ h)
            · rw [List.mem_singleton.1 he]; exact hr l (by rw [e]; simp) r (List.mem_cons_of_mem _ h))
        refine ⟨u, u1, u2, fun t => ?_⟩
        rw [u3 t, cov_append, cov_cons, cov_cons, e, cov_append, cov_cons]
        have : inr (l.1, cond (decide (x.2.1 > l.2.1)) x.2.1 l.2.1, ()) t ↔ inr l t ∨ inr x t := by
          show l.1 ≤ t ∧ t < cond (decide (x.2.1 > l.2.1)) x.2.1 l.2.1 ↔ _
          rw [em (fun v => t < v)]
          unfold inr
          omega
        rw [this]
        have n0 := cov_nil t
        constructor
        · rintro ((h | (h | h) | h) | h)
          · exact .inl (.inl h)
          · exact .inl (.inr (.inl h))
          · exact .inr (.inl h)
          · exact absurd h n0
          · exact .inr (.inr h)
        · rintro ((h | h | h) | h | h)
          · exact .inl (.inl h)
          · exact .inl (.inr (.inl (.inl h)))
          · exact absurd h n0
          · exact .inl (.inr (.inl (.inr h)))
          · exact .inr h
      · rw [decide_eq_false c]
        obtain ⟨u, ⟨u1, u2, u3⟩ | ⟨y, hy, hy2⟩⟩ := put
        · exact ⟨u, u1, u2, u3⟩
        · rw [e] at hy
          rcases List.mem_append.1 hy with hy | hy
          · have := n1.2.2 y hy
            have := hr l (by rw [e]; simp) x (List.mem_cons_self ..)
            omega
          · rw [List.mem_singleton.1 hy] at hy2
            omega

/-- The dates of the proper ranges of a list. -/
def covp (l : List api_DateRangeV) (t : Int) : Prop := ∃ r ∈ l, prp r = true ∧ inr r t

/-- Union: in order, apart, covering the same dates. -/
theorem union_val (l : List api_DateRangeV) (h : l.length ≤ 200000) : ∃ u, daterange_Union l = some (u, ()) ∧ Nrm u ∧ ∀ t, cov u t ↔ covp l t := by
  simp only [daterange_Union, daterange_Union.Se]
  have := union_L0 l [] [] (by simpa using h) (by simpa using h)
  simp only [List.nil_append, List.length_nil] at this
  rw [show (0 : Int) = ((0 : Nat) : Int) from rfl, this]
  have hl := List.length_filter_le prp l
  obtain ⟨d, e, p, s⟩ := sort_dr (l.filter prp) (by omega)
  rw [e, bind_some']
  have hm : ∀ r, r ∈ d ↔ r ∈ l ∧ prp r = true := fun r => by rw [p.mem_iff, List.mem_filter]
  obtain ⟨u, u1, u2, u3⟩ := union_L1 d [] [] (by have := p.length_eq; simp; omega) (by simp) Nrm_nil (fun r hr => ((hm r).1 hr).2) s (fun e he => by cases he)
  refine ⟨u, by simpa using u1, u2, fun t => ?_⟩
  rw [u3 t]
  constructor
  · rintro (h | ⟨r, hr, i⟩)
    · exact absurd h (cov_nil t)
    · exact ⟨r, ((hm r).1 hr).1, ((hm r).1 hr).2, i⟩
  · rintro ⟨r, hr, q, i⟩
    exact .inr ⟨r, (hm r).2 ⟨hr, q⟩, i⟩

end Go.Proofs.Ytcekbjgogdkomaa
