import Derived.Test.YtojafdgkcamliaaPC
set_option maxRecDepth 100000
set_option linter.unusedVariables false
set_option linter.unusedSimpArgs false
namespace Go.Proofs.Ytojafdgkcamliaa
open Go Go.Lift
theorem inD_all {t : Int} (h0 : 0 ≤ t) (h1 : t ≤ 109572) : inD ((0, 109573, ()) : api_DateRangeV) t = true := by
  have hv : vld ((0, 109573, ()) : api_DateRangeV) = true := by decide
  simp only [inD, hv, Bool.true_and, decide_eq_true_eq]
  omega
theorem sel_all {α : Type} {p : α → Bool} : ∀ (l : List α) (n : Nat), (∀ x ∈ l, p x = true) → sel p n l = (List.range' n l.length).map fun k : Nat => (k : Int)
  | [], n, _ => rfl
  | x :: l, n, h => by
    rw [sel, h x List.mem_cons_self, cond_true, sel_all l (n + 1) (fun y hy => h y (List.mem_cons_of_mem _ hy))]
    rfl
theorem rowsNow_idem {a b : Int} (h0 : 0 ≤ b) (h1 : b ≤ 109572) (l : List api_RowV) : rowsNow b (rowsNow a l) = rowsNow a l := by
  unfold rowsNow
  rw [List.filter_eq_self.2 (fun y hy => ?_)]
  · rw [List.map_map]
    exact List.map_congr_left fun x _ => rfl
  · obtain ⟨x, _, rfl⟩ := List.mem_map.1 hy
    exact inD_all h0 h1
theorem pos_mem {v : Int} {l : List Int} (hs : l.Pairwise (· < ·)) {k : Nat} (hk : l[k]? = some v) (n : Nat) : pos v n l = ((n + k : Nat) : Int) := by
  rcases pos_spec v l n with ⟨_, h⟩ | ⟨j, h1, h2, _⟩
  · exact absurd (List.mem_of_getElem? hk) h
  · have : j = k := by
      obtain ⟨j1, j2⟩ := List.getElem?_eq_some_iff.1 h1
      obtain ⟨k1, k2⟩ := List.getElem?_eq_some_iff.1 hk
      rcases Nat.lt_trichotomy j k with g | g | g
      · have := List.pairwise_iff_getElem.1 hs j k j1 k1 g; omega
      · exact g
      · have := List.pairwise_iff_getElem.1 hs k j k1 j1 g; omega
    rw [h2, this]
theorem range_pair (m : Nat) : ((List.range' 0 m).map fun k : Nat => (k : Int)).Pairwise (· < ·) := by
  rw [List.pairwise_map]
  have := List.pairwise_lt_range' (s := 0) (n := m) (step := 1)
  exact this.imp (fun h => by omega)
theorem range_get {m k : Nat} (h : k < m) : ((List.range' 0 m).map fun k : Nat => (k : Int))[k]? = some (k : Int) := by
  rw [List.getElem?_map, List.getElem?_range' (by omega)]
  simp
/-- A scope restricted once has all its rules in force, and each knows its ancestor. -/
theorem scpOn_idem {a b : Int} (h0 : 0 ≤ b) (h1 : b ≤ 109572) (s : api_ScopeV) : scpOn b (scpOn a s) = scpOn a s := by
  obtain ⟨K, hK⟩ : ∃ K, keptOf a s = K := ⟨_, rfl⟩
  obtain ⟨k1, k2, k3⟩ := keptOf_bd a s
  rw [hK] at k1 k2 k3
  have hR : (scpOn a s).2.2.2.2.1 = K.map (ruleNow s K) := by simp only [scpOn, hK]
  have hk : keptOf b (scpOn a s) = (List.range' 0 K.length).map fun k : Nat => (k : Int) := by
    unfold keptOf
    rw [hR, sel_all _ _ (fun r hr => ?_), List.length_map]
    obtain ⟨k, _, rfl⟩ := List.mem_map.1 hr
    exact inD_all h0 h1
  have key : (keptOf b (scpOn a s)).map (ruleNow (scpOn a s) (keptOf b (scpOn a s))) = (scpOn a s).2.2.2.2.1 := by
    rw [hk]
    refine List.ext_getElem? fun k => ?_
    by_cases hlt : k < K.length
    · rw [List.getElem?_map, range_get hlt, hR, List.getElem?_map, List.getElem?_eq_getElem hlt]
      simp only [Option.map_some, Option.some.injEq]
      have hg : (scpOn a s).2.2.2.2.1[k]? = some (ruleNow s K K[k]) := by rw [hR, List.getElem?_map, List.getElem?_eq_getElem hlt]; rfl
      have hgD : (scpOn a s).2.2.2.2.1.getD k rule0 = ruleNow s K K[k] := by rw [List.getD_eq_getElem?_getD, hg]; rfl
      have hm := k1 K[k] (List.getElem_mem hlt)
      have hj : K[k]? = some (((K[k]).toNat : Nat) : Int) := by
        rw [List.getElem?_eq_getElem hlt]; congr 1; omega
      obtain ⟨a1, a2⟩ := anc_lt s k2 s.2.2.2.2.1.length hj
      have hp : (ruleNow s K K[k]).2.2.1 = anc s.2.2.2.2.1 K s.2.2.2.2.1.length (K[k]).toNat := rfl
      have hlen : (scpOn a s).2.2.2.2.1.length = K.length := by rw [hR, List.length_map]
      have hanc : anc (scpOn a s).2.2.2.2.1 ((List.range' 0 K.length).map fun k : Nat => (k : Int)) (scpOn a s).2.2.2.2.1.length k = (ruleNow s K K[k]).2.2.1 := by
        rw [hlen]
        obtain ⟨m, hm'⟩ : ∃ m, K.length = m + 1 := ⟨K.length - 1, by omega⟩
        rw [hm', anc, hg]
        simp only
        by_cases hneg : (ruleNow s K K[k]).2.2.1 < 0
        · rw [if_pos (.inl hneg)]
          rw [hp] at hneg ⊢
          omega
        · rw [if_neg (by rw [hp] at hneg ⊢; omega)]
          obtain ⟨q, hq⟩ : ∃ q : Nat, (ruleNow s K K[k]).2.2.1 = (q : Int) := ⟨(ruleNow s K K[k]).2.2.1.toNat, by omega⟩
          have hqk : q < m + 1 := by rw [hp] at hq; omega
          rw [hq, pos_mem (range_pair (m + 1)) (range_get hqk) 0]
          rw [if_pos (by omega)]
          simp
      unfold ruleNow
      simp only [Int.toNat_natCast]
      rw [hgD, hanc]
      rfl
    · rw [List.getElem?_eq_none (by simp; omega), List.getElem?_eq_none (by rw [hR]; simp; omega)]
  show (_, _, _, _, (keptOf b (scpOn a s)).map (ruleNow (scpOn a s) (keptOf b (scpOn a s))), _) = scpOn a s
  rw [key]
theorem lawOn_idem {a b : Int} (h0 : 0 ≤ b) (h1 : b ≤ 109572) (l : api_LawV) : lawOn b (lawOn a l) = lawOn a l := by
  have ht : (l.2.1.map (tabOn a)).map (tabOn b) = l.2.1.map (tabOn a) := by
    rw [List.map_map]
    refine List.map_congr_left fun t _ => ?_
    show (_, _, _, rowsNow b (rowsNow a _), _) = (_, _, _, rowsNow a _, _)
    rw [rowsNow_idem h0 h1]
    rfl
  have hs : (l.2.2.1.map (scpOn a)).map (scpOn b) = l.2.2.1.map (scpOn a) := by
    rw [List.map_map]
    exact List.map_congr_left fun s _ => scpOn_idem h0 h1 s
  show (_, (l.2.1.map (tabOn a)).map (tabOn b), (l.2.2.1.map (scpOn a)).map (scpOn b), _) = _
  rw [ht, hs]
  rfl
theorem ranges_now (a : Int) (l : api_LawV) : ∀ r ∈ rangesOf (lawOn a l), r = (0, 109573, ()) := by
  intro r hr
  rcases List.mem_append.1 hr with h | h
  · obtain ⟨t, ht, h⟩ := List.mem_flatMap.1 h
    obtain ⟨t', _, rfl⟩ := List.mem_map.1 ht
    obtain ⟨x, hx, rfl⟩ := List.mem_map.1 h
    obtain ⟨y, _, rfl⟩ := List.mem_map.1 hx
    rfl
  · obtain ⟨s, hs, h⟩ := List.mem_flatMap.1 h
    obtain ⟨s', _, rfl⟩ := List.mem_map.1 hs
    obtain ⟨x, hx, rfl⟩ := List.mem_map.1 h
    obtain ⟨y, _, rfl⟩ := List.mem_map.1 hx
    rfl
theorem effectiveIdempotent_true (aw : law15_awake = some (true, ())) {l : api_LawV} (o : Ty.szd api_Law l) (a b : Int) : law15_EffectiveIdempotent l a b = some (true, ()) := by
  obtain ⟨z, b1, b2⟩ := smallLaw_val o
  simp only [law15_EffectiveIdempotent, law15_EffectiveIdempotent.Se, b1, aw, bind_some']
  cases z with
  | false => rfl
  | true =>
    have h := b2 rfl
    simp only [Bool.not_true, cond_false]
    by_cases g1 : b < 0
    · rw [cd_t g1]
    by_cases g3 : b > 109572
    · rw [cd_f g1, cd_t g3]
    rw [cd_f g1, cd_f g3, law15_EffectiveIdempotent.J0_eq, law15_EffectiveIdempotent.SJ0]
    obtain ⟨u, _, u2, u3, u4, _⟩ := changeDates_val (lawOn_S a h)
    have hnil : u.filter (fun x => !outd x) = [] := by
      rw [List.filter_eq_nil_iff]
      intro x hx
      obtain ⟨r, hr, _, hx'⟩ := (u2 x).1 hx
      have := ranges_now a l r hr
      subst this
      simp only at hx'
      rcases hx' with rfl | rfl <;> decide
    rw [hnil] at u4
    simp only [lawOn_small h, lawOn_small (lawOn_S a h), u4, bind_some', lawOn_idem (show 0 ≤ b by omega) (show b ≤ 109572 by omega), law_refl _ (lawB_of (lawOn_S a h)), cond_true, aw]
    rfl
end Go.Proofs.Ytojafdgkcamliaa
