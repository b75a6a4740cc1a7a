import Derived.Test.YtojafdgkcamliaaPL
set_option maxRecDepth 100000
set_option linter.unusedVariables false
set_option linter.unusedSimpArgs false
namespace Go.Proofs.Ytojafdgkcamliaa
open Go Go.Lift
theorem ruleNow_S {s : api_ScopeV} (h : scopeS s) {kept : List Int} {k : Int} (h0 : 0 ≤ k) (h1 : k < (s.2.2.2.2.1.length : Int)) : ruleS (ruleNow s kept k) := by
  obtain ⟨a, b⟩ := h.2.2.2 _ (getD_mem rule0 h0 h1)
  exact ⟨a, b⟩
theorem scpOn_S (date : Int) {s : api_ScopeV} (h : scopeS s) : scopeS (scpOn date s) := by
  obtain ⟨k1, k2, k3⟩ := keptOf_bd date s
  refine ⟨h.1, h.2.1, ?_, fun r hr => ?_⟩
  · show ((keptOf date s).map _).length ≤ 60
    rw [List.length_map]
    have := h.2.2.1
    omega
  · obtain ⟨k, hk, rfl⟩ := List.mem_map.1 hr
    exact ruleNow_S h (k1 k hk).1 (k1 k hk).2
theorem scopeB_of {s : api_ScopeV} (h : scopeS s) : scopeB s := ⟨by have := h.1; omega, by have := h.2.1; omega, by have := h.2.2.1; omega, fun r hr => ⟨by have := (h.2.2.2 r hr).1; omega, by have := (h.2.2.2 r hr).2; omega⟩⟩
theorem lawOn_small {l : api_LawV} (h : lawS l) (date : Int) : effective_LawOn l date = some (lawOn date l, ()) :=
  lawOn_val date l ⟨by have := h.1.1; omega, by have := h.2.1.1; omega, by have := h.2.2.1; omega⟩ (fun e he => by have := h.1.2 e he; omega) (fun t ht => by have := h.2.1.2 t ht; omega) (fun s hs => ⟨scopeB_of (h.2.2.2 s hs), by have := (h.2.2.2 s hs).2.2.1; omega⟩)
end Go.Proofs.Ytojafdgkcamliaa
