import Derived.Test.YtdkglohjlfoncaaProg
import Derived.Test.YtdkglohjlfoncaaLib4
set_option maxRecDepth 100000
set_option linter.unusedVariables false
namespace Go.Proofs.Ytdkglohjlfoncaa
open Go Go.Lift
abbrev api_DateRange : Ty := .pair (.int .i64) (.pair (.int .i64) .unit)
abbrev api_DateRangeV : Type := Int × Int × Unit
abbrev api_Field : Ty := .pair .str (.pair api_DateRange .unit)
abbrev api_FieldV : Type := List UInt8 × api_DateRangeV × Unit
abbrev api_Rule : Ty := .pair .str (.pair (.int .i64) (.pair (.int .i64) (.pair (.int .i64) (.pair api_DateRange (.pair (.sl api_DateRange) (.pair (.sl api_DateRange) (.pair .str .unit)))))))
abbrev api_RuleV : Type := List UInt8 × Int × Int × Int × api_DateRangeV × List api_DateRangeV × List api_DateRangeV × List UInt8 × Unit
abbrev api_Scope : Ty := .pair .str (.pair (.int .i64) (.pair (.sl api_Field) (.pair (.sl api_Field) (.pair (.sl api_Rule) .unit))))
abbrev api_ScopeV : Type := List UInt8 × Int × List api_FieldV × List api_FieldV × List api_RuleV × Unit
theorem ty9 : TyOk Try.prog .str 9 := ⟨Try.underlying9, infoOk_of (by kernel_rfl) (by kernel_rfl)⟩
theorem ty3 : TyOk Try.prog (.int .i64) 3 := ⟨Try.underlying3, infoOk_of (by kernel_rfl) (by kernel_rfl)⟩
theorem ty108 : TyOk Try.prog api_DateRange 108 := ⟨⟨_, _, _, Try.underlying108, rfl, rfl, ty3, ⟨_, _, rfl, rfl, ty3, rfl, by decide⟩, by decide, by kernel_rfl, by kernel_rfl⟩, infoOk_of (by kernel_rfl) (by kernel_rfl)⟩
theorem ty110 : TyOk Try.prog api_Field 110 := ⟨⟨_, _, _, Try.underlying110, rfl, rfl, ty9, ⟨_, _, rfl, rfl, ty108, rfl, by decide⟩, by decide, by kernel_rfl, by kernel_rfl⟩, infoOk_of (by kernel_rfl) (by kernel_rfl)⟩
theorem ty22 : TyOk Try.prog (.sl api_Field) 22 := ⟨⟨110, Try.underlying22, ty110⟩, infoOk_of (by kernel_rfl) (by kernel_rfl)⟩
theorem ty38 : TyOk Try.prog api_DateRange 38 := ⟨⟨_, _, _, Try.underlying38, rfl, rfl, ty3, ⟨_, _, rfl, rfl, ty3, rfl, by decide⟩, by decide, by kernel_rfl, by kernel_rfl⟩, infoOk_of (by kernel_rfl) (by kernel_rfl)⟩
theorem ty58 : TyOk Try.prog api_DateRange 58 := ⟨⟨_, _, _, Try.underlying58, rfl, rfl, ty3, ⟨_, _, rfl, rfl, ty3, rfl, by decide⟩, by decide, by kernel_rfl, by kernel_rfl⟩, infoOk_of (by kernel_rfl) (by kernel_rfl)⟩
theorem ty39 : TyOk Try.prog (.sl api_DateRange) 39 := ⟨⟨58, Try.underlying39, ty58⟩, infoOk_of (by kernel_rfl) (by kernel_rfl)⟩
theorem ty41 : TyOk Try.prog api_Rule 41 := ⟨⟨_, _, _, Try.underlying41, rfl, rfl, ty9, ⟨_, _, rfl, rfl, ty3, ⟨_, _, rfl, rfl, ty3, ⟨_, _, rfl, rfl, ty3, ⟨_, _, rfl, rfl, ty38, ⟨_, _, rfl, rfl, ty39, ⟨_, _, rfl, rfl, ty39, ⟨_, _, rfl, rfl, ty9, rfl, by decide⟩, by decide⟩, by decide⟩, by decide⟩, by decide⟩, by decide⟩, by decide⟩, by decide, by kernel_rfl, by kernel_rfl⟩, infoOk_of (by kernel_rfl) (by kernel_rfl)⟩
theorem ty23 : TyOk Try.prog (.sl api_Rule) 23 := ⟨⟨41, Try.underlying23, ty41⟩, infoOk_of (by kernel_rfl) (by kernel_rfl)⟩
theorem ty25 : TyOk Try.prog api_Scope 25 := ⟨⟨_, _, _, Try.underlying25, rfl, rfl, ty9, ⟨_, _, rfl, rfl, ty3, ⟨_, _, rfl, rfl, ty22, ⟨_, _, rfl, rfl, ty22, ⟨_, _, rfl, rfl, ty23, rfl, by decide⟩, by decide⟩, by decide⟩, by decide⟩, by decide, by kernel_rfl, by kernel_rfl⟩, infoOk_of (by kernel_rfl) (by kernel_rfl)⟩
theorem ty28 : TyOk Try.prog (.sl (.int .i64)) 28 := ⟨⟨3, Try.underlying28, ty3⟩, infoOk_of (by kernel_rfl) (by kernel_rfl)⟩
theorem ty43 : TyOk Try.prog (.sl (.sl (.int .i64))) 43 := ⟨⟨28, Try.underlying43, ty28⟩, infoOk_of (by kernel_rfl) (by kernel_rfl)⟩
theorem ty51 : TyOk Try.prog (.sl (.sl api_DateRange)) 51 := ⟨⟨39, Try.underlying51, ty39⟩, infoOk_of (by kernel_rfl) (by kernel_rfl)⟩
theorem ty62 : TyOk Try.prog (.int .u64) 62 := ⟨Try.underlying62, infoOk_of (by kernel_rfl) (by kernel_rfl)⟩
theorem ty78 : TyOk Try.prog (.int .u64) 78 := ⟨Try.underlying78, infoOk_of (by kernel_rfl) (by kernel_rfl)⟩
theorem ty5 : TyOk Try.prog (.int .u8) 5 := ⟨Try.underlying5, infoOk_of (by kernel_rfl) (by kernel_rfl)⟩
theorem ty83 : TyOk Try.prog (.int .u64) 83 := ⟨Try.underlying83, infoOk_of (by kernel_rfl) (by kernel_rfl)⟩
theorem ty4 : TyOk Try.prog .bool 4 := ⟨Try.underlying4, infoOk_of (by kernel_rfl) (by kernel_rfl)⟩
theorem ty44 : TyOk Try.prog (.sl .bool) 44 := ⟨⟨4, Try.underlying44, ty4⟩, infoOk_of (by kernel_rfl) (by kernel_rfl)⟩
theorem ty59 : MapT Try.prog 59 3 := ⟨3, Try.underlying59, Try.underlying3, Try.underlying3, fun w => by kernel_rfl⟩
def tt : List (Nat × TI) := [(25, ⟨api_Scope, 0, false⟩), (22, ⟨.sl api_Field, 32, false⟩), (23, ⟨.sl api_Rule, 120, false⟩), (41, ⟨api_Rule, 0, false⟩), (39, ⟨.sl api_DateRange, 16, false⟩), (58, ⟨api_DateRange, 0, false⟩), (43, ⟨.sl (.sl (.int .i64)), 24, false⟩), (3, ⟨.int .i64, 0, false⟩), (51, ⟨.sl (.sl api_DateRange), 24, false⟩), (28, ⟨.sl (.int .i64), 8, false⟩), (62, ⟨.int .u64, 0, false⟩), (78, ⟨.int .u64, 0, false⟩), (5, ⟨.int .u8, 0, false⟩), (9, ⟨.str, 0, false⟩), (83, ⟨.int .u64, 0, false⟩), (44, ⟨.sl .bool, 1, false⟩), (4, ⟨.bool, 0, false⟩), (59, ⟨.unit, 3, true⟩)]
theorem tt_ok : TtOk Try.prog tt := (ttOk_cons (ttOk_cons (ttOk_cons (ttOk_cons (ttOk_cons (ttOk_cons (ttOk_cons (ttOk_cons (ttOk_cons (ttOk_cons (ttOk_cons (ttOk_cons (ttOk_cons (ttOk_cons (ttOk_cons (ttOk_cons (ttOk_cons (ttOk_map ttOk_nil ty59)
  ty4 (fun u h => Ty.noConfusion h))
  ty44 (fun u h => ⟨by decide, fun e he => by rw [Try.underlying44] at he; cases he; kernel_rfl⟩))
  ty83 (fun u h => Ty.noConfusion h))
  ty9 (fun u h => Ty.noConfusion h))
  ty5 (fun u h => Ty.noConfusion h))
  ty78 (fun u h => Ty.noConfusion h))
  ty62 (fun u h => Ty.noConfusion h))
  ty28 (fun u h => ⟨by decide, fun e he => by rw [Try.underlying28] at he; cases he; kernel_rfl⟩))
  ty51 (fun u h => ⟨by decide, fun e he => by rw [Try.underlying51] at he; cases he; kernel_rfl⟩))
  ty3 (fun u h => Ty.noConfusion h))
  ty43 (fun u h => ⟨by decide, fun e he => by rw [Try.underlying43] at he; cases he; kernel_rfl⟩))
  ty58 (fun u h => Ty.noConfusion h))
  ty39 (fun u h => ⟨by decide, fun e he => by rw [Try.underlying39] at he; cases he; kernel_rfl⟩))
  ty41 (fun u h => Ty.noConfusion h))
  ty23 (fun u h => ⟨by decide, fun e he => by rw [Try.underlying23] at he; cases he; kernel_rfl⟩))
  ty22 (fun u h => ⟨by decide, fun e he => by rw [Try.underlying22] at he; cases he; kernel_rfl⟩))
  ty25 (fun u h => Ty.noConfusion h))
theorem mixed : Try.prog.follows .mixedOrders = true := by kernel_rfl
end Go.Proofs.Ytdkglohjlfoncaa
