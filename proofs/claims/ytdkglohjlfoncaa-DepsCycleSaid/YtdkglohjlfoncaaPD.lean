import Derived.Test.YtdkglohjlfoncaaPC
set_option maxRecDepth 100000
set_option linter.unusedVariables false
set_option linter.unusedSimpArgs false
namespace Go.Proofs.Ytdkglohjlfoncaa
open Go Go.Lift
noncomputable def dtab (s : api_ScopeV) : List (List Int) := (List.range (nD s)).map (fun (i : Nat) => dir s (i : Int))
theorem dtab_len (s : api_ScopeV) : (dtab s).length = nD s := by simp [dtab]
theorem dtab_get {s : api_ScopeV} {d : Int} (h : okD s d) : (dtab s).getD d.toNat [] = dir s d := by
  obtain ⟨h0, h1⟩ := h
  have e : ((d.toNat : Nat) : Int) = d := by omega
  unfold dtab
  rw [List.getD_eq_getElem?_getD, List.getElem?_map, List.getElem?_range (by omega)]
  simp [e]
theorem idx_gd {α : Type} {l : List α} {i : Int} (z : α) (h0 : 0 ≤ i) (h1 : i < l.length) : idx l i = some (l.getD i.toNat z) := by
  rw [idx_some h0 h1, List.getD_eq_getElem?_getD, List.getElem?_eq_getElem (by omega)]
  rfl
theorem tab_snoc (s : api_ScopeV) (i d : Nat) (h : i + (d + 1) = nD s) : (((List.range i).map (fun (j : Nat) => dir s (j : Int))) ++ List.replicate (d + 1) ([] : List Int)).set i (dir s (i : Int)) = ((List.range (i + 1)).map (fun (j : Nat) => dir s (j : Int))) ++ List.replicate d [] := by
  have hl : ((List.range i).map (fun (j : Nat) => dir s (j : Int))).length = i := by simp
  rw [List.set_append_right _ _ (by omega), hl, Nat.sub_self, List.replicate_succ, List.set_cons_zero, List.range_succ, List.map_append]
  simp
theorem cycle_L0 {s : api_ScopeV} (hs : Sm s) : ∀ (d i : Nat), i + d = nD s →
    deps_FindCycle.L0 s (((List.range i).map (fun (j : Nat) => dir s (j : Int))) ++ List.replicate d []) (nD s : Int) (i : Int) = deps_FindCycle.L1 (dtab s) 0 0 [] (nD s : Int) 0 := by
  have hN := hs.d
  intro d
  induction d with
  | zero =>
    intro i h
    have hi : i = nD s := by omega
    subst hi
    rw [deps_FindCycle.L0_eq, deps_FindCycle.SL0, cd_f (by omega)]
    simp only [List.replicate_zero, List.append_nil]
    have e : ((List.range (nD s)).map (fun (j : Nat) => dir s (j : Int))) = dtab s := rfl
    rw [e, dtab_len]
  | succ d ih =>
    intro i h
    obtain ⟨d1, d2, d3, d4⟩ := direct_val hs (i : Int)
    rw [deps_FindCycle.L0_eq, deps_FindCycle.SL0, cd_t (by omega), d1, bind_some', cd_b (by omega) (by simp; omega), wrap_succ (by omega), Int.toNat_natCast]
    dsimp only
    rw [tab_snoc s i d h]
    exact ih (i + 1) (by omega)
/-- Each element follows all on which it depends. -/
def Topo (s : api_ScopeV) (l : List Int) : Prop := l.Nodup ∧ (∀ x ∈ l, okD s x) ∧ ∀ (p : List Int) (x : Int) (q : List Int), l = p ++ x :: q → ∀ y ∈ dir s x, y ∈ p
theorem Topo.snoc {s : api_ScopeV} {l : List Int} (h : Topo s l) {n : Int} (h1 : okD s n) (h2 : n ∉ l) (h3 : ∀ y ∈ dir s n, y ∈ l) : Topo s (l ++ [n]) := by
  obtain ⟨a, b, c⟩ := h
  refine ⟨?_, fun x hx => ?_, fun p x q e y hy => ?_⟩
  · rw [List.nodup_append]
    exact ⟨a, by simp, fun x hx y hy => by rw [List.mem_singleton.1 hy]; exact fun e => h2 (e ▸ hx)⟩
  · rcases List.mem_append.1 hx with q | q
    · exact b x q
    · rw [List.mem_singleton.1 q]; exact h1
  · rcases List.eq_nil_or_concat q with e2 | ⟨q', z, e2⟩
    · subst e2
      obtain ⟨e3, e4⟩ := List.append_inj' e rfl
      have e5 : n = x := by simpa using e4
      subst e3 e5
      exact h3 y hy
    · subst e2
      have e' : l ++ [n] = (p ++ x :: q') ++ [z] := by rw [e]; simp
      obtain ⟨e3, e4⟩ := List.append_inj' e' rfl
      exact c p x q' e3 y hy
theorem mkt {n : Nat} (h : n ≤ 1000) : (decide (0 ≤ ((n : Int) : Int)) && (decide (((n : Int) : Int) ≤ (n : Int)) && (decide (((n : Int) : Int) * 24 ≤ room) && (decide (((n : Int) : Int) ≤ maxLen) && decide (0 < Ty.nc (.sl (.int .i64))))))) = true := by
  have a : ((n : Int) : Int) * 24 ≤ room := by rw [room_eq]; omega
  have b : ((n : Int) : Int) ≤ maxLen := by rw [maxLen_eq]; omega
  have c : 0 < Ty.nc (.sl (.int .i64)) := by decide
  rw [decide_eq_true (show (0 : Int) ≤ (n : Int) by omega), decide_eq_true (Int.le_refl (n : Int)), decide_eq_true a, decide_eq_true b, decide_eq_true c]
  rfl
end Go.Proofs.Ytdkglohjlfoncaa
