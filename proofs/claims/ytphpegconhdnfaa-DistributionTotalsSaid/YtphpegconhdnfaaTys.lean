import Derived.Test.YtphpegconhdnfaaProg
import Derived.Test.YtphpegconhdnfaaLib4
set_option maxRecDepth 100000
set_option linter.unusedVariables false
namespace Go.Proofs.Ytphpegconhdnfaa
open Go Go.Lift
abbrev api_Bucket : Ty := .pair (.int .i64) (.pair (.int .i64) (.pair (.int .i64) (.pair (.int .i64) .unit)))
abbrev api_BucketV : Type := Int × Int × Int × Int × Unit
abbrev money_part : Ty := .pair (.int .i64) (.pair (.int .u64) .unit)
abbrev money_partV : Type := Int × Int × Unit
theorem ty3 : TyOk Try.prog (.int .i64) 3 := ⟨Try.underlying3, infoOk_of (by kernel_rfl) (by kernel_rfl)⟩
theorem ty22 : TyOk Try.prog (.sl (.int .i64)) 22 := ⟨⟨3, Try.underlying22, ty3⟩, infoOk_of (by kernel_rfl) (by kernel_rfl)⟩
theorem ty56 : TyOk Try.prog (.int .u64) 56 := ⟨Try.underlying56, infoOk_of (by kernel_rfl) (by kernel_rfl)⟩
theorem ty59 : TyOk Try.prog (.int .u64) 59 := ⟨Try.underlying59, infoOk_of (by kernel_rfl) (by kernel_rfl)⟩
theorem ty5 : TyOk Try.prog (.int .u8) 5 := ⟨Try.underlying5, infoOk_of (by kernel_rfl) (by kernel_rfl)⟩
theorem ty9 : TyOk Try.prog .str 9 := ⟨Try.underlying9, infoOk_of (by kernel_rfl) (by kernel_rfl)⟩
theorem ty94 : TyOk Try.prog (.int .u64) 94 := ⟨Try.underlying94, infoOk_of (by kernel_rfl) (by kernel_rfl)⟩
theorem ty44 : TyOk Try.prog api_Bucket 44 := ⟨⟨_, _, _, Try.underlying44, rfl, rfl, ty3, ⟨_, _, rfl, rfl, ty3, ⟨_, _, rfl, rfl, ty3, ⟨_, _, rfl, rfl, ty3, rfl, by decide⟩, by decide⟩, by decide⟩, by decide, by kernel_rfl, by kernel_rfl⟩, infoOk_of (by kernel_rfl) (by kernel_rfl)⟩
theorem ty28 : TyOk Try.prog (.sl api_Bucket) 28 := ⟨⟨44, Try.underlying28, ty44⟩, infoOk_of (by kernel_rfl) (by kernel_rfl)⟩
theorem ty75 : TyOk Try.prog money_part 75 := ⟨⟨_, _, _, Try.underlying75, rfl, rfl, ty3, ⟨_, _, rfl, rfl, ty59, rfl, by decide⟩, by decide, by kernel_rfl, by kernel_rfl⟩, infoOk_of (by kernel_rfl) (by kernel_rfl)⟩
theorem ty70 : TyOk Try.prog (.sl money_part) 70 := ⟨⟨75, Try.underlying70, ty75⟩, infoOk_of (by kernel_rfl) (by kernel_rfl)⟩
theorem ty4 : TyOk Try.prog .bool 4 := ⟨Try.underlying4, infoOk_of (by kernel_rfl) (by kernel_rfl)⟩
def tt : List (Nat × TI) := [(22, ⟨.sl (.int .i64), 8⟩), (3, ⟨.int .i64, 0⟩), (56, ⟨.int .u64, 0⟩), (59, ⟨.int .u64, 0⟩), (5, ⟨.int .u8, 0⟩), (9, ⟨.str, 0⟩), (94, ⟨.int .u64, 0⟩), (28, ⟨.sl api_Bucket, 32⟩), (44, ⟨api_Bucket, 0⟩), (70, ⟨.sl money_part, 16⟩), (75, ⟨money_part, 0⟩), (4, ⟨.bool, 0⟩)]
theorem tt_ok : TtOk Try.prog tt := (ttOk_cons (ttOk_cons (ttOk_cons (ttOk_cons (ttOk_cons (ttOk_cons (ttOk_cons (ttOk_cons (ttOk_cons (ttOk_cons (ttOk_cons (ttOk_cons ttOk_nil
  ty4 (fun u h => Ty.noConfusion h))
  ty75 (fun u h => Ty.noConfusion h))
  ty70 (fun u h => ⟨by decide, fun e he => by rw [Try.underlying70] at he; cases he; kernel_rfl⟩))
  ty44 (fun u h => Ty.noConfusion h))
  ty28 (fun u h => ⟨by decide, fun e he => by rw [Try.underlying28] at he; cases he; kernel_rfl⟩))
  ty94 (fun u h => Ty.noConfusion h))
  ty9 (fun u h => Ty.noConfusion h))
  ty5 (fun u h => Ty.noConfusion h))
  ty59 (fun u h => Ty.noConfusion h))
  ty56 (fun u h => Ty.noConfusion h))
  ty3 (fun u h => Ty.noConfusion h))
  ty22 (fun u h => ⟨by decide, fun e he => by rw [Try.underlying22] at he; cases he; kernel_rfl⟩))
theorem mixed : Try.prog.follows .mixedOrders = true := by kernel_rfl
end Go.Proofs.Ytphpegconhdnfaa
