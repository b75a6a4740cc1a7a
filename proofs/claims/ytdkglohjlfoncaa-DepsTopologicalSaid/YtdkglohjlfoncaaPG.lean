import Derived.Test.YtdkglohjlfoncaaPF
set_option maxRecDepth 100000
set_option linter.unusedVariables false
set_option linter.unusedSimpArgs false
namespace Go.Proofs.Ytdkglohjlfoncaa
open Go Go.Lift
theorem topo_before {s : api_ScopeV} {l : List Int} (h : Topo s l) {x y : Int} (hr : Rch s x y) : ∀ p q, l = p ++ x :: q → y ∈ p := by
  induction hr with
  | base h1 => intro p q e; exact h.2.2 p _ q e _ h1
  | @step b c h1 h2 ih =>
    intro p q e
    obtain ⟨p1, p2, e2⟩ := List.append_of_mem (ih p q e)
    have := h.2.2 p1 b (p2 ++ x :: q) (by rw [e, e2]; simp) c h2
    rw [e2]
    exact List.mem_append_left _ this
theorem topo_all {s : api_ScopeV} {l : List Int} (h : Topo s l) (hl : l.length = nD s) {d : Int} (hd : okD s d) : d ∈ l := by
  apply Classical.byContradiction
  intro hn
  have := nodup_le (d :: l) ((List.range (nD s)).map (fun (i : Nat) => (i : Int))) (List.nodup_cons.2 ⟨hn, h.1⟩) (fun x hx => by
    have hx' : okD s x := by
      rcases List.mem_cons.1 hx with e | e
      · subst e; exact hd
      · exact h.2.1 x e
    obtain ⟨h1, h2⟩ := hx'
    exact List.mem_map.2 ⟨x.toNat, List.mem_range.2 (by omega), by omega⟩)
  simp at this
  omega
theorem topo_acyclic {s : api_ScopeV} (hs : Sm s) {l : List Int} (h : Topo s l) (hl : l.length = nD s) (d : Int) : ¬ Rch s d d := by
  intro hr
  obtain ⟨p, q, e⟩ := List.append_of_mem (topo_all h hl (Rch.ok hs hr))
  have h1 := topo_before h hr p q e
  have h2 := h.1
  rw [e, List.nodup_append] at h2
  exact h2.2.2 d h1 d List.mem_cons_self rfl
theorem Rch.trans {s : api_ScopeV} {a b c : Int} (h1 : Rch s a b) (h2 : Rch s b c) : Rch s a c := by
  induction h2 with
  | base h => exact .step h1 h
  | step _ h ih => exact .step ih h
theorem stuck_cycle {s : api_ScopeV} (hs : Sm s) {l : List Int} (hl : l.length < nD s) (h : ∀ d, okD s d → d ∈ l ∨ ∃ y ∈ dir s d, y ∉ l) : ∃ d, Rch s d d := by
  apply Classical.byContradiction
  intro hno
  have hno' : ∀ d, ¬ Rch s d d := fun d q => hno ⟨d, q⟩
  -- a definition outside
  have st : ∃ d, okD s d ∧ d ∉ l := by
    apply Classical.byContradiction
    intro hn
    have := nodup_le ((List.range (nD s)).map (fun (i : Nat) => (i : Int))) l (by
      rw [List.nodup_iff_pairwise_ne, List.pairwise_map]
      exact List.Pairwise.imp (fun h e => h (by omega)) List.nodup_range) (fun x hx => by
      obtain ⟨i, h1, h2⟩ := List.mem_map.1 hx
      have := List.mem_range.1 h1
      apply Classical.byContradiction
      intro q
      exact hn ⟨x, ⟨by omega, by omega⟩, q⟩)
    simp at this
    omega
  have chain : ∀ n : Nat, ∃ (z : Int) (L : List Int), L.length = n ∧ okD s z ∧ z ∉ l ∧ (z :: L).Nodup ∧ ∀ x ∈ L, Rch s x z := by
    intro n
    induction n with
    | zero =>
      obtain ⟨d, d1, d2⟩ := st
      exact ⟨d, [], rfl, d1, d2, by simp, fun x hx => by cases hx⟩
    | succ n ih =>
      obtain ⟨z, L, h1, h2, h3, h4, h5⟩ := ih
      obtain ⟨y, y1, y2⟩ := (h z h2).resolve_left h3
      refine ⟨y, z :: L, by rw [List.length_cons, h1], ((direct_val hs z).2.2.2 y y1).1, y2, List.nodup_cons.2 ⟨fun q => ?_, h4⟩, fun x hx => ?_⟩
      · rcases List.mem_cons.1 q with e | e
        · subst e; exact hno' _ (.base y1)
        · exact hno' _ (.step (h5 y e) y1)
      · rcases List.mem_cons.1 hx with e | e
        · subst e; exact .base y1
        · exact .step (h5 x e) y1
  obtain ⟨z, L, h1, h2, h3, h4, h5⟩ := chain (nD s)
  have := nodup_le (z :: L) ((List.range (nD s)).map (fun (i : Nat) => (i : Int))) h4 (fun x hx => by
    have hx' : okD s x := by
      rcases List.mem_cons.1 hx with e | e
      · subst e; exact h2
      · exact Rch.ok' hs (h5 x e)
    obtain ⟨h1, h2⟩ := hx'
    exact List.mem_map.2 ⟨x.toNat, List.mem_range.2 (by omega), by omega⟩)
  simp at this
  omega
theorem topo_L0 {s : api_ScopeV} (hs : Sm s) (l : List Int) (e : Int) (c : List Int) : ∀ (k d : Nat) (own : Bool), d + k = nD s →
    ∃ own', law16_DepsTopological.L0 s l e c own (d : Int) = (cond (!((e != 0) == own')) (some (false, ())) (cond (!(own' == (decide ((c.length : Int) > 0)))) (some (false, ())) (law16_DepsTopological.J1 s l e c own'))) ∧
      (own' = true ↔ own = true ∨ ∃ x, okD s x ∧ (d : Int) ≤ x ∧ Rch s x x) := by
  have hN := hs.d
  have en : (s.2.2.2.1.length : Int) = (nD s : Int) := rfl
  intro k
  induction k with
  | zero =>
    intro d own h
    rw [law16_DepsTopological.L0_eq, law16_DepsTopological.SL0, en, cd_f (by omega)]
    exact ⟨own, rfl, fun q => .inl q, fun q => q.elim id (fun ⟨x, h1, h2, _⟩ => by have := h1.2; omega)⟩
  | succ k ih =>
    intro d own h
    rw [law16_DepsTopological.L0_eq, law16_DepsTopological.SL0, en, cd_t (by omega), wrap_succ (by omega)]
    cases own with
    | true =>
      rw [cond_true]
      obtain ⟨o, h1, h2⟩ := ih (d + 1) true (by omega)
      exact ⟨o, h1, fun _ => .inl rfl, fun _ => h2.2 (.inl rfl)⟩
    | false =>
      obtain ⟨t1, t2, t3, t4⟩ := trans_val hs (d : Int)
      have tl := trs_le hs (d : Int)
      rw [cond_false, t1, bind_some']
      dsimp only
      rw [in_val _ _ (by omega), bind_some']
      obtain ⟨o, h1, h2⟩ := ih (d + 1) (decide ((d : Int) ∈ trs s (d : Int))) (by omega)
      refine ⟨o, h1, h2.trans ?_⟩
      rw [decide_eq_true_iff, t4]
      constructor
      · rintro (q | ⟨x, q1, q2, q3⟩)
        · exact .inr ⟨(d : Int), ⟨by omega, by omega⟩, by omega, q⟩
        · exact .inr ⟨x, q1, by omega, q3⟩
      · rintro (q | ⟨x, q1, q2, q3⟩)
        · cases q
        · by_cases e : x = (d : Int)
          · subst e; exact .inl q3
          · exact .inr ⟨x, q1, by omega, q3⟩
theorem topo_L5 (s : api_ScopeV) (l p q : List Int) (x : Int) (hl : l = p ++ x :: q) (hn : x ∉ p) (hlen : l.length ≤ 100) : ∀ (rest pre : List Int), (pre ++ rest).length ≤ 1000 → (∀ y ∈ rest, y ∈ p) →
    law16_DepsTopological.L5 s l (p.length : Int) (pre ++ rest) (pre.length : Int) = law16_DepsTopological.L3 s l ((p.length + 1 : Nat) : Int) := by
  have ll : l.length = p.length + (q.length + 1) := by rw [hl]; exact len_mid _ _ _
  have tk : l.take p.length = p := by rw [hl]; simp
  have gx : l.getD p.length 0 = x := by rw [hl]; exact getD_mid _ _ _ _
  intro rest
  induction rest with
  | nil =>
    intro pre h1 h2
    rw [law16_DepsTopological.L5_eq, law16_DepsTopological.SL5, cd_f (by simp), cd_3 (by omega) (by omega) (by omega), cd_b (by omega) (by omega), Int.toNat_natCast, tk, gx, in_val _ _ (by omega), bind_some', decide_eq_false hn, cond_false, wrap_succ (by omega)]
  | cons y rest ih =>
    intro pre h1 h2
    have hl' := len_mid pre y rest
    rw [law16_DepsTopological.L5_eq, law16_DepsTopological.SL5, cd_t (by rw [hl']; omega), cd_3 (by omega) (by omega) (by omega), cd_b (by omega) (by rw [hl']; omega), Int.toNat_natCast, Int.toNat_natCast, getD_mid, tk, in_val _ _ (by omega), bind_some', decide_eq_true (h2 y List.mem_cons_self), Bool.not_true, cond_false, wrap_succ (by omega)]
    have := ih (pre ++ [y]) (by rw [← mid_shift]; exact h1) (fun z hz => h2 z (List.mem_cons_of_mem _ hz))
    rw [len_snoc, ← mid_shift] at this
    exact this
theorem topo_L3 (hA : law16_awake = some (true, ())) {s : api_ScopeV} (hs : Sm s) (l : List Int) (ht : Topo s l) (hlen : l.length ≤ 100) : ∀ (rest pre : List Int), l = pre ++ rest → law16_DepsTopological.L3 s l (pre.length : Int) = some (true, ()) := by
  intro rest
  induction rest with
  | nil =>
    intro pre e
    rw [List.append_nil] at e
    rw [law16_DepsTopological.L3_eq, law16_DepsTopological.SL3, e, cd_f (by omega), hA, bind_some']
  | cons x rest ih =>
    intro pre e
    have ll : l.length = pre.length + (rest.length + 1) := by rw [e]; exact len_mid _ _ _
    have gx : l.getD pre.length 0 = x := by rw [e]; exact getD_mid _ _ _ _
    obtain ⟨t1, t2, t3, t4⟩ := trans_val hs x
    have tl := trs_le hs x
    have hn : x ∉ pre := fun q => by
      have h2 := ht.1
      rw [e, List.nodup_append] at h2
      exact h2.2.2 x q x List.mem_cons_self rfl
    rw [law16_DepsTopological.L3_eq, law16_DepsTopological.SL3, cd_t (by omega), cd_b (by omega) (by omega), Int.toNat_natCast, gx, t1, bind_some']
    have h5 := topo_L5 s l pre rest x e hn hlen (trs s x) [] (by simp; omega) (fun y hy => topo_before ht ((t4 y).1 hy) pre rest e)
    have h5' : law16_DepsTopological.L5 s l (pre.length : Int) (trs s x) 0 = _ := h5
    rw [h5']
    have := ih (pre ++ [x]) (by rw [e, mid_shift])
    rwa [len_snoc] at this
theorem topo_J4 {s : api_ScopeV} (hs : Sm s) (c p q : List Int) (x y : Int) (hc : c = p ++ x :: q) (hlen : c.length ≤ 100) (hn : x ∉ p) (hy : y ∈ dir s x) : law16_DepsTopological.J4 s [] 9 c (p.length : Int) y = law16_DepsTopological.L2 s [] 9 c ((p.length + 1 : Nat) : Int) := by
  have ll : c.length = p.length + (q.length + 1) := by rw [hc]; exact len_mid _ _ _
  have tk : c.take p.length = p := by rw [hc]; simp
  have gx : c.getD p.length 0 = x := by rw [hc]; exact getD_mid _ _ _ _
  obtain ⟨d1, d2, d3, d4⟩ := direct_val hs x
  have dl := dir_le hs x
  rw [law16_DepsTopological.J4_eq, law16_DepsTopological.SJ4, cd_b (by omega) (by omega), Int.toNat_natCast, gx, d1, bind_some']
  dsimp only
  rw [in_val _ _ (by omega), bind_some', decide_eq_true hy, Bool.not_true, cond_false, cd_3 (by omega) (by omega) (by omega), cd_b (by omega) (by omega), tk, in_val _ _ (by omega), bind_some', decide_eq_false hn, cond_false, wrap_succ (by omega)]
theorem topo_L2 (hA : law16_awake = some (true, ())) {s : api_ScopeV} (hs : Sm s) {n : Nat} {a : Int} (c : List Int) (hc : Cyc s n a c) (hl : c.length = n + 1) (hlen : c.length ≤ 100) : ∀ (rest pre : List Int), c = pre ++ rest → law16_DepsTopological.L2 s [] 9 c (pre.length : Int) = some (true, ()) := by
  intro rest
  induction rest with
  | nil =>
    intro pre e
    rw [List.append_nil] at e
    rw [law16_DepsTopological.L2_eq, law16_DepsTopological.SL2, e, cd_f (by omega), beq_self_eq_true, cond_true, hA]
    rfl
  | cons x rest ih =>
    intro pre e
    have ll : c.length = pre.length + (rest.length + 1) := by rw [e]; exact len_mid _ _ _
    have hn : x ∉ pre := fun q => by
      have h2 := hc.nod
      rw [e, List.nodup_append] at h2
      exact h2.2.2 x q x List.mem_cons_self rfl
    have nx := ih (pre ++ [x]) (by rw [e, mid_shift])
    rw [len_snoc] at nx
    rw [law16_DepsTopological.L2_eq, law16_DepsTopological.SL2, cd_t (by omega), cd_b (by omega) (by omega), wrap_succ (by omega)]
    cases rest with
    | nil =>
      rw [cd_f (by simp at ll; omega)]
      have h0 : c.getD 0 0 = a := by
        have := hc.fst
        cases c with
        | nil => cases this
        | cons z c => simp at this; exact this
      have b := hc.bac pre x e
      have e1 : n + 1 - pre.length = 1 := by simp at ll; omega
      rw [e1] at b
      obtain ⟨y, b1, b2⟩ := b
      have : y = a := b2
      subst this
      rw [h0, topo_J4 hs c pre [] x y e hlen hn b1]
      exact nx
    | cons y q =>
      have ll' : c.length = pre.length + (q.length + 1 + 1) := ll
      rw [cd_t (by omega), cd_b (by omega) (by omega)]
      have gy : c.getD ((pre.length + 1 : Nat) : Int).toNat 0 = y := by
        rw [Int.toNat_natCast, e, mid_shift pre x (y :: q)]
        simp
      rw [gy, topo_J4 hs c pre (y :: q) x y e hlen hn (hc.cha pre x y q e)]
      exact nx
theorem depsTopological_true (hA : law16_awake = some (true, ())) (s : api_ScopeV) : law16_DepsTopological s = some (true, ()) := by
  simp only [law16_DepsTopological, law16_DepsTopological.Se]
  obtain ⟨b, e, hb⟩ := small_val s
  rw [e, bind_some']
  cases b with
  | false => simp only [Bool.not_false, cond_true, hA, bind_some']
  | true =>
    have hs := hb rfl
    have hN := hs.d
    have en : (s.2.2.2.1.length : Int) = (nD s : Int) := rfl
    simp only [Bool.not_true, cond_false]
    rcases cycle_val hs with ⟨a1, _, a3⟩ | ⟨n, a, c, a1, _, a2, a3, a4, a5, a6⟩
    · have hno : ∀ d, ¬ Rch s d d := fun d q => by
        obtain ⟨m, hw⟩ := Rch.wk q
        exact a3 d (Rch.ok hs q) m hw
      rcases order_val hs with ⟨l, b1, _, b3, b4⟩ | ⟨_, _, l, b3, b4⟩
      · rw [a1, b1]
        simp only [bind_some']
        obtain ⟨own, h1, h2⟩ := topo_L0 hs l 0 [] (nD s) 0 false (by omega)
        have ho : own = false := Bool.eq_false_iff.2 (fun q => by
          rcases h2.1 q with q | ⟨x, _, _, q⟩
          · cases q
          · exact hno x q)
        subst ho
        have h1' : law16_DepsTopological.L0 s l 0 [] false 0 = _ := h1
        rw [h1']
        have x1 : (!(((0 : Int) != 0) == false)) = false := rfl
        have x2 : (!(false == (decide ((([] : List Int).length : Int) > 0)))) = false := by decide
        have x3 : ((l.length : Int) != (s.2.2.2.1.length : Int)) = false := by rw [en, b4]; simp
        rw [x1, cond_false, x2, cond_false, law16_DepsTopological.J1_eq, law16_DepsTopological.SJ1, cond_false, x3, cond_false]
        exact topo_L3 hA hs l b3 (by omega) l [] rfl
      · obtain ⟨d, q⟩ := stuck_cycle hs b3 b4
        exact absurd q (hno d)
    · have hr : Rch s a a := Wk.rch a6
      rcases order_val hs with ⟨l, _, _, b3, b4⟩ | ⟨b1, _, _⟩
      · exact absurd hr (topo_acyclic hs b3 b4 a)
      · rw [a1, b1]
        simp only [bind_some']
        obtain ⟨own, h1, h2⟩ := topo_L0 hs [] 9 c (nD s) 0 false (by omega)
        have ho : own = true := h2.2 (.inr ⟨a, a2, a2.1, hr⟩)
        subst ho
        have h1' : law16_DepsTopological.L0 s [] 9 c false 0 = _ := h1
        rw [h1']
        have x1 : (!(((9 : Int) != 0) == true)) = false := rfl
        have x2 : (!(true == (decide ((c.length : Int) > 0)))) = false := by rw [decide_eq_true (by omega)]; rfl
        rw [x1, cond_false, x2, cond_false, law16_DepsTopological.J1_eq, law16_DepsTopological.SJ1, cond_true]
        exact topo_L2 hA hs c a3 a4 (by omega) c [] rfl
end Go.Proofs.Ytdkglohjlfoncaa
