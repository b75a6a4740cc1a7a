import Derived.Test.YtfifnmmihekldaaProg
import Derived.Test.YtfifnmmihekldaaLib4
set_option maxRecDepth 100000
set_option linter.unusedVariables false
namespace Go.Proofs.Ytfifnmmihekldaa
open Go Go.Lift
abbrev api_Appeal : Ty := .pair (.int .i64) (.pair (.int .i64) (.pair (.int .i64) (.pair (.int .i64) (.pair (.int .i64) (.pair (.int .i64) (.pair (.int .i64) .unit))))))
abbrev api_AppealV : Type := Int × Int × Int × Int × Int × Int × Int × Unit
abbrev api_Award : Ty := .pair (.int .i64) (.pair (.int .i64) (.pair (.int .i64) .unit))
abbrev api_AwardV : Type := Int × Int × Int × Unit
theorem ty3 : TyOk Try.prog (.int .i64) 3 := ⟨Try.underlying3, infoOk_of (by kernel_rfl) (by kernel_rfl)⟩
theorem ty30 : TyOk Try.prog api_Appeal 30 := ⟨⟨_, _, _, Try.underlying30, rfl, rfl, ty3, ⟨_, _, rfl, rfl, ty3, ⟨_, _, rfl, rfl, ty3, ⟨_, _, rfl, rfl, ty3, ⟨_, _, rfl, rfl, ty3, ⟨_, _, rfl, rfl, ty3, ⟨_, _, rfl, rfl, ty3, rfl, by decide⟩, by decide⟩, by decide⟩, by decide⟩, by decide⟩, by decide⟩, by decide, by kernel_rfl, by kernel_rfl⟩, infoOk_of (by kernel_rfl) (by kernel_rfl)⟩
theorem ty22 : TyOk Try.prog (.sl api_Appeal) 22 := ⟨⟨30, Try.underlying22, ty30⟩, infoOk_of (by kernel_rfl) (by kernel_rfl)⟩
theorem ty4 : TyOk Try.prog .bool 4 := ⟨Try.underlying4, infoOk_of (by kernel_rfl) (by kernel_rfl)⟩
theorem ty40 : TyOk Try.prog (.int .i64) 40 := ⟨Try.underlying40, infoOk_of (by kernel_rfl) (by kernel_rfl)⟩
theorem ty42 : TyOk Try.prog api_Award 42 := ⟨⟨_, _, _, Try.underlying42, rfl, rfl, ty3, ⟨_, _, rfl, rfl, ty3, ⟨_, _, rfl, rfl, ty40, rfl, by decide⟩, by decide⟩, by decide, by kernel_rfl, by kernel_rfl⟩, infoOk_of (by kernel_rfl) (by kernel_rfl)⟩
theorem ty33 : TyOk Try.prog (.sl api_Award) 33 := ⟨⟨42, Try.underlying33, ty42⟩, infoOk_of (by kernel_rfl) (by kernel_rfl)⟩
theorem ty25 : TyOk Try.prog (.sl (.int .i64)) 25 := ⟨⟨3, Try.underlying25, ty3⟩, infoOk_of (by kernel_rfl) (by kernel_rfl)⟩
theorem ty52 : TyOk Try.prog (.int .u64) 52 := ⟨Try.underlying52, infoOk_of (by kernel_rfl) (by kernel_rfl)⟩
theorem ty65 : TyOk Try.prog (.int .u64) 65 := ⟨Try.underlying65, infoOk_of (by kernel_rfl) (by kernel_rfl)⟩
theorem ty5 : TyOk Try.prog (.int .u8) 5 := ⟨Try.underlying5, infoOk_of (by kernel_rfl) (by kernel_rfl)⟩
theorem ty9 : TyOk Try.prog .str 9 := ⟨Try.underlying9, infoOk_of (by kernel_rfl) (by kernel_rfl)⟩
theorem ty66 : TyOk Try.prog (.int .u64) 66 := ⟨Try.underlying66, infoOk_of (by kernel_rfl) (by kernel_rfl)⟩
def tt : List (Nat × TI) := [(30, ⟨api_Appeal, 0⟩), (3, ⟨.int .i64, 0⟩), (22, ⟨.sl api_Appeal, 56⟩), (4, ⟨.bool, 0⟩), (42, ⟨api_Award, 0⟩), (33, ⟨.sl api_Award, 24⟩), (25, ⟨.sl (.int .i64), 8⟩), (52, ⟨.int .u64, 0⟩), (65, ⟨.int .u64, 0⟩), (5, ⟨.int .u8, 0⟩), (9, ⟨.str, 0⟩), (66, ⟨.int .u64, 0⟩), (40, ⟨.int .i64, 0⟩)]
theorem tt_ok : TtOk Try.prog tt := (ttOk_cons (ttOk_cons (ttOk_cons (ttOk_cons (ttOk_cons (ttOk_cons (ttOk_cons (ttOk_cons (ttOk_cons (ttOk_cons (ttOk_cons (ttOk_cons (ttOk_cons ttOk_nil
  ty40 (fun u h => Ty.noConfusion h))
  ty66 (fun u h => Ty.noConfusion h))
  ty9 (fun u h => Ty.noConfusion h))
  ty5 (fun u h => Ty.noConfusion h))
  ty65 (fun u h => Ty.noConfusion h))
  ty52 (fun u h => Ty.noConfusion h))
  ty25 (fun u h => ⟨by decide, fun e he => by rw [Try.underlying25] at he; cases he; kernel_rfl⟩))
  ty33 (fun u h => ⟨by decide, fun e he => by rw [Try.underlying33] at he; cases he; kernel_rfl⟩))
  ty42 (fun u h => Ty.noConfusion h))
  ty4 (fun u h => Ty.noConfusion h))
  ty22 (fun u h => ⟨by decide, fun e he => by rw [Try.underlying22] at he; cases he; kernel_rfl⟩))
  ty3 (fun u h => Ty.noConfusion h))
  ty30 (fun u h => Ty.noConfusion h))
theorem mixed : Try.prog.follows .mixedOrders = true := by kernel_rfl
end Go.Proofs.Ytfifnmmihekldaa
