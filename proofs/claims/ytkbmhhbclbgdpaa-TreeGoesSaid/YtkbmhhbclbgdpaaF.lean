/-
  Closed facts on this seat's types: how many cells, which zero, where fields lie. Printed by facts.py.
-/
import Derived.Test.YtkbmhhbclbgdpaaB
import Derived.Test.YtkbmhhbclbgdpaaProg
namespace Go.Proofs.Ytkbmhhbclbgdpaa
open Go Go.RowKit K
namespace TF
theorem t3 : TyF Try.prog 3 false 1 8 := ⟨Try.isAgg3, Try.sizeOf3, _, (show Try.prog.info? 3 = some Try.t3 from by kernel_rfl), by kernel_rfl, by kernel_rfl⟩
theorem z3 : TyZ Try.prog 3 (.int .i64 0) := ⟨_, (show Try.prog.info? 3 = some Try.t3 from by kernel_rfl), by kernel_rfl⟩
theorem t4 : TyF Try.prog 4 false 1 1 := ⟨Try.isAgg4, Try.sizeOf4, _, (show Try.prog.info? 4 = some Try.t4 from by kernel_rfl), by kernel_rfl, by kernel_rfl⟩
theorem z4 : TyZ Try.prog 4 (.bool false) := ⟨_, (show Try.prog.info? 4 = some Try.t4 from by kernel_rfl), by kernel_rfl⟩
theorem t5 : TyF Try.prog 5 false 1 1 := ⟨Try.isAgg5, Try.sizeOf5, _, (show Try.prog.info? 5 = some Try.t5 from by kernel_rfl), by kernel_rfl, by kernel_rfl⟩
theorem z5 : TyZ Try.prog 5 (.int .u8 0) := ⟨_, (show Try.prog.info? 5 = some Try.t5 from by kernel_rfl), by kernel_rfl⟩
theorem t22 : TyF Try.prog 22 false 1 24 := ⟨Try.isAgg22, Try.sizeOf22, _, (show Try.prog.info? 22 = some Try.t22 from by kernel_rfl), by kernel_rfl, by kernel_rfl⟩
theorem z22 : TyZ Try.prog 22 (.slice none 0 0) := ⟨_, (show Try.prog.info? 22 = some Try.t22 from by kernel_rfl), by kernel_rfl⟩
theorem t24 : TyF Try.prog 24 true 32 32 := ⟨Try.isAgg24, Try.sizeOf24, _, (show Try.prog.info? 24 = some Try.t24 from by kernel_rfl), by kernel_rfl, by kernel_rfl⟩
theorem z24 : TyZ Try.prog 24 (.agg (Array.replicate 32 (.int .u8 0))) := ⟨_, (show Try.prog.info? 24 = some Try.t24 from by kernel_rfl), by kernel_rfl⟩
theorem t27 : TyF Try.prog 27 false 1 8 := ⟨Try.isAgg27, Try.sizeOf27, _, (show Try.prog.info? 27 = some Try.t27 from by kernel_rfl), by kernel_rfl, by kernel_rfl⟩
theorem z27 : TyZ Try.prog 27 (.pointer none) := ⟨_, (show Try.prog.info? 27 = some Try.t27 from by kernel_rfl), by kernel_rfl⟩
theorem t30 : TyF Try.prog 30 true 2 48 := ⟨Try.isAgg30, Try.sizeOf30, _, (show Try.prog.info? 30 = some Try.t30 from by kernel_rfl), by kernel_rfl, by kernel_rfl⟩
theorem z30 : TyZ Try.prog 30 (.agg ([Value.slice none 0 0] ++ [Value.slice none 0 0]).toArray) := ⟨_, (show Try.prog.info? 30 = some Try.t30 from by kernel_rfl), by kernel_rfl⟩
theorem t41 : TyF Try.prog 41 true 66 96 := ⟨Try.isAgg41, Try.sizeOf41, _, (show Try.prog.info? 41 = some Try.t41 from by kernel_rfl), by kernel_rfl, by kernel_rfl⟩
theorem z41 : TyZ Try.prog 41 (.agg ([Value.slice none 0 0] ++ [Value.int .i64 0] ++ List.replicate 32 (Value.int .u8 0) ++ List.replicate 32 (Value.int .u8 0)).toArray) := ⟨_, (show Try.prog.info? 41 = some Try.t41 from by kernel_rfl), by kernel_rfl⟩
theorem t46 : TyF Try.prog 46 false 1 8 := ⟨Try.isAgg46, Try.sizeOf46, _, (show Try.prog.info? 46 = some Try.t46 from by kernel_rfl), by kernel_rfl, by kernel_rfl⟩
theorem z46 : TyZ Try.prog 46 (.int .u64 0) := ⟨_, (show Try.prog.info? 46 = some Try.t46 from by kernel_rfl), by kernel_rfl⟩
theorem t56 : TyF Try.prog 56 true 99 120 := ⟨Try.isAgg56, Try.sizeOf56, _, (show Try.prog.info? 56 = some Try.t56 from by kernel_rfl), by kernel_rfl, by kernel_rfl⟩
theorem z56 : TyZ Try.prog 56 (.agg ([Value.int .i64 0] ++ List.replicate 32 (Value.int .u8 0) ++ List.replicate 32 (Value.int .u8 0) ++ [Value.pointer none] ++ [Value.pointer none] ++ List.replicate 32 (Value.int .u8 0)).toArray) := ⟨_, (show Try.prog.info? 56 = some Try.t56 from by kernel_rfl), by kernel_rfl⟩
theorem t66 : TyF Try.prog 66 false 1 24 := ⟨Try.isAgg66, Try.sizeOf66, _, (show Try.prog.info? 66 = some Try.t66 from by kernel_rfl), by kernel_rfl, by kernel_rfl⟩
theorem z66 : TyZ Try.prog 66 (.slice none 0 0) := ⟨_, (show Try.prog.info? 66 = some Try.t66 from by kernel_rfl), by kernel_rfl⟩
theorem t80 : TyF Try.prog 80 false 1 4 := ⟨Try.isAgg80, Try.sizeOf80, _, (show Try.prog.info? 80 = some Try.t80 from by kernel_rfl), by kernel_rfl, by kernel_rfl⟩
theorem z80 : TyZ Try.prog 80 (.int .u32 0) := ⟨_, (show Try.prog.info? 80 = some Try.t80 from by kernel_rfl), by kernel_rfl⟩
theorem t81 : TyF Try.prog 81 true 8 32 := ⟨Try.isAgg81, Try.sizeOf81, _, (show Try.prog.info? 81 = some Try.t81 from by kernel_rfl), by kernel_rfl, by kernel_rfl⟩
theorem z81 : TyZ Try.prog 81 (.agg (Array.replicate 8 (.int .u32 0))) := ⟨_, (show Try.prog.info? 81 = some Try.t81 from by kernel_rfl), by kernel_rfl⟩
theorem t86 : TyF Try.prog 86 true 64 64 := ⟨Try.isAgg86, Try.sizeOf86, _, (show Try.prog.info? 86 = some Try.t86 from by kernel_rfl), by kernel_rfl, by kernel_rfl⟩
theorem z86 : TyZ Try.prog 86 (.agg (Array.replicate 64 (.int .u8 0))) := ⟨_, (show Try.prog.info? 86 = some Try.t86 from by kernel_rfl), by kernel_rfl⟩
theorem t88 : TyF Try.prog 88 true 74 112 := ⟨Try.isAgg88, Try.sizeOf88, _, (show Try.prog.info? 88 = some Try.t88 from by kernel_rfl), by kernel_rfl, by kernel_rfl⟩
theorem z88 : TyZ Try.prog 88 (.agg ([Value.int .u32 0, Value.int .u32 0, Value.int .u32 0, Value.int .u32 0, Value.int .u32 0, Value.int .u32 0, Value.int .u32 0, Value.int .u32 0] ++ List.replicate 64 (Value.int .u8 0) ++ [Value.int .i64 0] ++ [Value.int .u64 0]).toArray) := ⟨_, (show Try.prog.info? 88 = some Try.t88 from by kernel_rfl), by kernel_rfl⟩
theorem t89 : TyF Try.prog 89 true 64 256 := ⟨Try.isAgg89, Try.sizeOf89, _, (show Try.prog.info? 89 = some Try.t89 from by kernel_rfl), by kernel_rfl, by kernel_rfl⟩
theorem z89 : TyZ Try.prog 89 (.agg (Array.replicate 64 (.int .u32 0))) := ⟨_, (show Try.prog.info? 89 = some Try.t89 from by kernel_rfl), by kernel_rfl⟩
theorem f30_0 : FdOff Try.prog 30 0 0 22 := ⟨_, _, Try.underlying30, rfl, rfl, rfl, 1, by decide, Try.sizeOf22⟩
theorem f30_1 : FdOff Try.prog 30 1 1 22 := ⟨_, _, Try.underlying30, rfl, rfl, rfl, 1, by decide, Try.sizeOf22⟩
theorem f41_0 : FdOff Try.prog 41 0 0 22 := ⟨_, _, Try.underlying41, rfl, rfl, rfl, 1, by decide, Try.sizeOf22⟩
theorem f41_1 : FdOff Try.prog 41 1 1 3 := ⟨_, _, Try.underlying41, rfl, rfl, rfl, 1, by decide, Try.sizeOf3⟩
theorem f41_2 : FdOff Try.prog 41 2 2 24 := ⟨_, _, Try.underlying41, rfl, rfl, rfl, 32, by decide, Try.sizeOf24⟩
theorem f41_3 : FdOff Try.prog 41 3 34 24 := ⟨_, _, Try.underlying41, rfl, rfl, rfl, 32, by decide, Try.sizeOf24⟩
theorem f56_0 : FdOff Try.prog 56 0 0 3 := ⟨_, _, Try.underlying56, rfl, rfl, rfl, 1, by decide, Try.sizeOf3⟩
theorem f56_1 : FdOff Try.prog 56 1 1 24 := ⟨_, _, Try.underlying56, rfl, rfl, rfl, 32, by decide, Try.sizeOf24⟩
theorem f56_2 : FdOff Try.prog 56 2 33 24 := ⟨_, _, Try.underlying56, rfl, rfl, rfl, 32, by decide, Try.sizeOf24⟩
theorem f56_3 : FdOff Try.prog 56 3 65 27 := ⟨_, _, Try.underlying56, rfl, rfl, rfl, 1, by decide, Try.sizeOf27⟩
theorem f56_4 : FdOff Try.prog 56 4 66 27 := ⟨_, _, Try.underlying56, rfl, rfl, rfl, 1, by decide, Try.sizeOf27⟩
theorem f56_5 : FdOff Try.prog 56 5 67 24 := ⟨_, _, Try.underlying56, rfl, rfl, rfl, 32, by decide, Try.sizeOf24⟩
theorem f88_0 : FdOff Try.prog 88 0 0 81 := ⟨_, _, Try.underlying88, rfl, rfl, rfl, 8, by decide, Try.sizeOf81⟩
theorem f88_1 : FdOff Try.prog 88 1 8 86 := ⟨_, _, Try.underlying88, rfl, rfl, rfl, 64, by decide, Try.sizeOf86⟩
theorem f88_2 : FdOff Try.prog 88 2 72 3 := ⟨_, _, Try.underlying88, rfl, rfl, rfl, 1, by decide, Try.sizeOf3⟩
theorem f88_3 : FdOff Try.prog 88 3 73 46 := ⟨_, _, Try.underlying88, rfl, rfl, rfl, 1, by decide, Try.sizeOf46⟩
theorem p30 : TyP Try.prog 30 #[(0, 1), (1, 1)] := ⟨_, Try.underlying30, fun w => by kernel_rfl⟩
theorem p41 : TyP Try.prog 41 #[(0, 1), (1, 1), (2, 32), (34, 32)] := ⟨_, Try.underlying41, fun w => by kernel_rfl⟩
theorem p56 : TyP Try.prog 56 #[(0, 1), (1, 32), (33, 32), (65, 1), (66, 1), (67, 32)] := ⟨_, Try.underlying56, fun w => by kernel_rfl⟩
theorem p88 : TyP Try.prog 88 #[(0, 8), (8, 64), (72, 1), (73, 1)] := ⟨_, Try.underlying88, fun w => by kernel_rfl⟩
theorem e24 : EqOk Try.prog 24 := Try.eqGuardType24
theorem mixed : Try.prog.follows .mixedOrders = true := by kernel_rfl
end TF
end Go.Proofs.Ytkbmhhbclbgdpaa
