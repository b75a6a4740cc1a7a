/- The types of the program. -/
import Derived.Test.YtcekbjgogdkomaaProg
import Derived.Test.YtcekbjgogdkomaaLib4
set_option maxRecDepth 100000
set_option linter.unusedVariables false
namespace Go.Proofs.Ytcekbjgogdkomaa
open Go Go.Lift

abbrev api_DateRange : Ty := .pair (.int .i64) (.pair (.int .i64) .unit)
abbrev api_DateRangeV : Type := Int × Int × Unit

theorem ty3 : TyOk Try.prog (.int .i64) 3 := ⟨Try.underlying3, infoOk_of (by kernel_rfl) (by kernel_rfl)⟩

theorem ty24 : TyOk Try.prog api_DateRange 24 := ⟨⟨_, _, _, Try.underlying24, rfl, rfl, ty3, ⟨_, _, rfl, rfl, ty3, rfl, by decide⟩, by decide, by kernel_rfl, by kernel_rfl⟩, infoOk_of (by kernel_rfl) (by kernel_rfl)⟩

theorem ty22 : TyOk Try.prog (.sl api_DateRange) 22 := ⟨⟨24, Try.underlying22, ty24⟩, infoOk_of (by kernel_rfl) (by kernel_rfl)⟩

theorem ty51 : TyOk Try.prog (.int .u64) 51 := ⟨Try.underlying51, infoOk_of (by kernel_rfl) (by kernel_rfl)⟩

theorem ty65 : TyOk Try.prog (.int .u64) 65 := ⟨Try.underlying65, infoOk_of (by kernel_rfl) (by kernel_rfl)⟩

theorem ty5 : TyOk Try.prog (.int .u8) 5 := ⟨Try.underlying5, infoOk_of (by kernel_rfl) (by kernel_rfl)⟩

theorem ty9 : TyOk Try.prog .str 9 := ⟨Try.underlying9, infoOk_of (by kernel_rfl) (by kernel_rfl)⟩

theorem ty72 : TyOk Try.prog (.int .u64) 72 := ⟨Try.underlying72, infoOk_of (by kernel_rfl) (by kernel_rfl)⟩

theorem ty31 : TyOk Try.prog (.sl (.int .i64)) 31 := ⟨⟨3, Try.underlying31, ty3⟩, infoOk_of (by kernel_rfl) (by kernel_rfl)⟩

theorem ty4 : TyOk Try.prog .bool 4 := ⟨Try.underlying4, infoOk_of (by kernel_rfl) (by kernel_rfl)⟩


def tt : List (Nat × TI) := [(24, ⟨api_DateRange, 0⟩), (22, ⟨.sl api_DateRange, 16⟩), (3, ⟨.int .i64, 0⟩), (51, ⟨.int .u64, 0⟩), (65, ⟨.int .u64, 0⟩), (5, ⟨.int .u8, 0⟩), (9, ⟨.str, 0⟩), (72, ⟨.int .u64, 0⟩), (31, ⟨.sl (.int .i64), 8⟩), (4, ⟨.bool, 0⟩)]

theorem tt_ok : TtOk Try.prog tt := (ttOk_cons (ttOk_cons (ttOk_cons (ttOk_cons (ttOk_cons (ttOk_cons (ttOk_cons (ttOk_cons (ttOk_cons (ttOk_cons ttOk_nil
  ty4 (fun u h => Ty.noConfusion h))
  ty31 (fun u h => ⟨by decide, fun e he => by rw [Try.underlying31] at he; cases he; kernel_rfl⟩))
  ty72 (fun u h => Ty.noConfusion h))
  ty9 (fun u h => Ty.noConfusion h))
  ty5 (fun u h => Ty.noConfusion h))
  ty65 (fun u h => Ty.noConfusion h))
  ty51 (fun u h => Ty.noConfusion h))
  ty3 (fun u h => Ty.noConfusion h))
  ty22 (fun u h => ⟨by decide, fun e he => by rw [Try.underlying22] at he; cases he; kernel_rfl⟩))
  ty24 (fun u h => Ty.noConfusion h))

theorem mixed : Try.prog.follows .mixedOrders = true := by kernel_rfl

end Go.Proofs.Ytcekbjgogdkomaa
