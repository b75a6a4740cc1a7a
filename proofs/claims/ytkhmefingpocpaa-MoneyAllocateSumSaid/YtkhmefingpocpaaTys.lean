/- The types of the program. -/
import Derived.Test.YtkhmefingpocpaaProg
import Derived.Test.YtkhmefingpocpaaLib4
set_option maxRecDepth 100000
set_option linter.unusedVariables false
namespace Go.Proofs.Ytkhmefingpocpaa
open Go Go.Lift

abbrev money_part : Ty := .pair (.int .i64) (.pair (.int .u64) .unit)
abbrev money_partV : Type := Int × Int × Unit

theorem ty3 : TyOk Try.prog (.int .i64) 3 := ⟨Try.underlying3, infoOk_of (by kernel_rfl) (by kernel_rfl)⟩

theorem ty39 : TyOk Try.prog (.int .u64) 39 := ⟨Try.underlying39, infoOk_of (by kernel_rfl) (by kernel_rfl)⟩

theorem ty4 : TyOk Try.prog .bool 4 := ⟨Try.underlying4, infoOk_of (by kernel_rfl) (by kernel_rfl)⟩

theorem ty5 : TyOk Try.prog (.int .u8) 5 := ⟨Try.underlying5, infoOk_of (by kernel_rfl) (by kernel_rfl)⟩

theorem ty9 : TyOk Try.prog .str 9 := ⟨Try.underlying9, infoOk_of (by kernel_rfl) (by kernel_rfl)⟩

theorem ty51 : TyOk Try.prog (.int .u64) 51 := ⟨Try.underlying51, infoOk_of (by kernel_rfl) (by kernel_rfl)⟩

theorem ty29 : TyOk Try.prog (.sl (.int .i64)) 29 := ⟨⟨3, Try.underlying29, ty3⟩, infoOk_of (by kernel_rfl) (by kernel_rfl)⟩

theorem ty57 : TyOk Try.prog money_part 57 := ⟨⟨_, _, _, Try.underlying57, rfl, rfl, ty3, ⟨_, _, rfl, rfl, ty39, rfl, by decide⟩, by decide, by kernel_rfl, by kernel_rfl⟩, infoOk_of (by kernel_rfl) (by kernel_rfl)⟩

theorem ty55 : TyOk Try.prog (.sl money_part) 55 := ⟨⟨57, Try.underlying55, ty57⟩, infoOk_of (by kernel_rfl) (by kernel_rfl)⟩


def tt : List (Nat × TI) := [(3, ⟨.int .i64, 0⟩), (39, ⟨.int .u64, 0⟩), (4, ⟨.bool, 0⟩), (5, ⟨.int .u8, 0⟩), (9, ⟨.str, 0⟩), (51, ⟨.int .u64, 0⟩), (29, ⟨.sl (.int .i64), 8⟩), (55, ⟨.sl money_part, 16⟩), (57, ⟨money_part, 0⟩)]

theorem tt_ok : TtOk Try.prog tt := (ttOk_cons (ttOk_cons (ttOk_cons (ttOk_cons (ttOk_cons (ttOk_cons (ttOk_cons (ttOk_cons (ttOk_cons ttOk_nil
  ty57 (fun u h => Ty.noConfusion h))
  ty55 (fun u h => ⟨by decide, fun e he => by rw [Try.underlying55] at he; cases he; kernel_rfl⟩))
  ty29 (fun u h => ⟨by decide, fun e he => by rw [Try.underlying29] at he; cases he; kernel_rfl⟩))
  ty51 (fun u h => Ty.noConfusion h))
  ty9 (fun u h => Ty.noConfusion h))
  ty5 (fun u h => Ty.noConfusion h))
  ty4 (fun u h => Ty.noConfusion h))
  ty39 (fun u h => Ty.noConfusion h))
  ty3 (fun u h => Ty.noConfusion h))

theorem mixed : Try.prog.follows .mixedOrders = true := by kernel_rfl

end Go.Proofs.Ytkhmefingpocpaa
