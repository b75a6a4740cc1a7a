import Derived.Test.YtmmimgjakoacaaaProg
import Derived.Test.YtmmimgjakoacaaaLib4
set_option maxRecDepth 100000
set_option linter.unusedVariables false
namespace Go.Proofs.Ytmmimgjakoacaaa
open Go Go.Lift
abbrev api_Value : Ty := .pair (.int .i64) (.pair (.int .i64) (.pair (.int .i64) .unit))
abbrev api_ValueV : Type := Int × Int × Int × Unit
abbrev api_DateRange : Ty := .pair (.int .i64) (.pair (.int .i64) .unit)
abbrev api_DateRangeV : Type := Int × Int × Unit
abbrev api_Fact : Ty := .pair (.int .i64) (.pair (.int .i64) (.pair (.int .i64) (.pair api_Value (.pair api_DateRange (.pair (.int .i64) .unit)))))
abbrev api_FactV : Type := Int × Int × Int × api_ValueV × api_DateRangeV × Int × Unit
abbrev api_Fact_ : Ty := .pair (.sl api_Fact) (.pair .fnc .unit)
abbrev api_ValuePeriod : Ty := .pair api_DateRange (.pair api_Value .unit)
abbrev api_ValuePeriodV : Type := api_DateRangeV × api_ValueV × Unit
theorem ty3 : TyOk Try.prog (.int .i64) 3 := ⟨Try.underlying3, infoOk_of (by kernel_rfl) (by kernel_rfl)⟩
theorem ty30 : TyOk Try.prog api_Value 30 := ⟨⟨_, _, _, Try.underlying30, rfl, rfl, ty3, ⟨_, _, rfl, rfl, ty3, ⟨_, _, rfl, rfl, ty3, rfl, by decide⟩, by decide⟩, by decide, by kernel_rfl, by kernel_rfl⟩, infoOk_of (by kernel_rfl) (by kernel_rfl)⟩
theorem ty40 : TyOk Try.prog api_DateRange 40 := ⟨⟨_, _, _, Try.underlying40, rfl, rfl, ty3, ⟨_, _, rfl, rfl, ty3, rfl, by decide⟩, by decide, by kernel_rfl, by kernel_rfl⟩, infoOk_of (by kernel_rfl) (by kernel_rfl)⟩
theorem ty45 : TyOk Try.prog api_Fact 45 := ⟨⟨_, _, _, Try.underlying45, rfl, rfl, ty3, ⟨_, _, rfl, rfl, ty3, ⟨_, _, rfl, rfl, ty3, ⟨_, _, rfl, rfl, ty30, ⟨_, _, rfl, rfl, ty40, ⟨_, _, rfl, rfl, ty3, rfl, by decide⟩, by decide⟩, by decide⟩, by decide⟩, by decide⟩, by decide, by kernel_rfl, by kernel_rfl⟩, infoOk_of (by kernel_rfl) (by kernel_rfl)⟩
theorem ty22 : TyOk Try.prog (.sl api_Fact) 22 := ⟨⟨45, Try.underlying22, ty45⟩, infoOk_of (by kernel_rfl) (by kernel_rfl)⟩
theorem ty60 : TyOk Try.prog .fnc 60 := ⟨⟨_, _, _, Try.underlying60⟩, infoOk_of (by kernel_rfl) (by kernel_rfl)⟩
theorem ty62 : TyOk Try.prog api_Fact_ 62 := ⟨⟨_, _, _, Try.underlying62, rfl, rfl, ty22, ⟨_, _, rfl, rfl, ty60, rfl, by decide⟩, by decide, by kernel_rfl, by kernel_rfl⟩, infoOk_of (by kernel_rfl) (by kernel_rfl)⟩
theorem ty55 : TyOk Try.prog (.sl api_DateRange) 55 := ⟨⟨40, Try.underlying55, ty40⟩, infoOk_of (by kernel_rfl) (by kernel_rfl)⟩
theorem ty37 : TyOk Try.prog (.sl (.int .i64)) 37 := ⟨⟨3, Try.underlying37, ty3⟩, infoOk_of (by kernel_rfl) (by kernel_rfl)⟩
theorem ty69 : TyOk Try.prog (.int .u64) 69 := ⟨Try.underlying69, infoOk_of (by kernel_rfl) (by kernel_rfl)⟩
theorem ty82 : TyOk Try.prog (.int .u64) 82 := ⟨Try.underlying82, infoOk_of (by kernel_rfl) (by kernel_rfl)⟩
theorem ty5 : TyOk Try.prog (.int .u8) 5 := ⟨Try.underlying5, infoOk_of (by kernel_rfl) (by kernel_rfl)⟩
theorem ty9 : TyOk Try.prog .str 9 := ⟨Try.underlying9, infoOk_of (by kernel_rfl) (by kernel_rfl)⟩
theorem ty83 : TyOk Try.prog (.int .u64) 83 := ⟨Try.underlying83, infoOk_of (by kernel_rfl) (by kernel_rfl)⟩
theorem ty42 : TyOk Try.prog api_ValuePeriod 42 := ⟨⟨_, _, _, Try.underlying42, rfl, rfl, ty40, ⟨_, _, rfl, rfl, ty30, rfl, by decide⟩, by decide, by kernel_rfl, by kernel_rfl⟩, infoOk_of (by kernel_rfl) (by kernel_rfl)⟩
theorem ty34 : TyOk Try.prog (.sl api_ValuePeriod) 34 := ⟨⟨42, Try.underlying34, ty42⟩, infoOk_of (by kernel_rfl) (by kernel_rfl)⟩
theorem ty28 : ArrT Try.prog 28 .i64 2 := ⟨3, Try.underlying28, ty3, by kernel_rfl⟩
theorem ty4 : TyOk Try.prog .bool 4 := ⟨Try.underlying4, infoOk_of (by kernel_rfl) (by kernel_rfl)⟩
def tt : List (Nat × TI) := [(22, ⟨.sl api_Fact, 72, false⟩), (30, ⟨api_Value, 0, false⟩), (40, ⟨api_DateRange, 0, false⟩), (45, ⟨api_Fact, 0, false⟩), (62, ⟨api_Fact_, 0, false⟩), (3, ⟨.int .i64, 0, false⟩), (60, ⟨.fnc, 0, false⟩), (55, ⟨.sl api_DateRange, 16, false⟩), (37, ⟨.sl (.int .i64), 8, false⟩), (69, ⟨.int .u64, 0, false⟩), (82, ⟨.int .u64, 0, false⟩), (5, ⟨.int .u8, 0, false⟩), (9, ⟨.str, 0, false⟩), (83, ⟨.int .u64, 0, false⟩), (34, ⟨.sl api_ValuePeriod, 40, false⟩), (42, ⟨api_ValuePeriod, 0, false⟩), (28, ⟨.int .i64, 2, true⟩), (4, ⟨.bool, 0, false⟩)]
theorem tt_ok : TtOk Try.prog tt := (ttOk_cons (ttOk_cons (ttOk_cons (ttOk_cons (ttOk_cons (ttOk_cons (ttOk_cons (ttOk_cons (ttOk_cons (ttOk_cons (ttOk_cons (ttOk_cons (ttOk_cons (ttOk_cons (ttOk_cons (ttOk_cons (ttOk_arr (ttOk_cons ttOk_nil
  ty4 (fun u h => Ty.noConfusion h)) ty28)
  ty42 (fun u h => Ty.noConfusion h))
  ty34 (fun u h => ⟨by decide, fun e he => by rw [Try.underlying34] at he; cases he; kernel_rfl⟩))
  ty83 (fun u h => Ty.noConfusion h))
  ty9 (fun u h => Ty.noConfusion h))
  ty5 (fun u h => Ty.noConfusion h))
  ty82 (fun u h => Ty.noConfusion h))
  ty69 (fun u h => Ty.noConfusion h))
  ty37 (fun u h => ⟨by decide, fun e he => by rw [Try.underlying37] at he; cases he; kernel_rfl⟩))
  ty55 (fun u h => ⟨by decide, fun e he => by rw [Try.underlying55] at he; cases he; kernel_rfl⟩))
  ty60 (fun u h => Ty.noConfusion h))
  ty3 (fun u h => Ty.noConfusion h))
  ty62 (fun u h => Ty.noConfusion h))
  ty45 (fun u h => Ty.noConfusion h))
  ty40 (fun u h => Ty.noConfusion h))
  ty30 (fun u h => Ty.noConfusion h))
  ty22 (fun u h => ⟨by decide, fun e he => by rw [Try.underlying22] at he; cases he; kernel_rfl⟩))
theorem mixed : Try.prog.follows .mixedOrders = true := by kernel_rfl
end Go.Proofs.Ytmmimgjakoacaaa
