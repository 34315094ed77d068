/-
  Closed facts on this seat's types: how many cells, which zero, where fields lie. Printed by facts.py.
-/
import Derived.Test.YtekhcjgmgflmkaaB
import Derived.Test.YtekhcjgmgflmkaaProg
namespace Go.Proofs.Ytekhcjgmgflmkaa
open Go Go.RowKit K
namespace TF
theorem t3 : TyF Try.prog 3 false 1 8 := ⟨Try.isAgg3, Try.sizeOf3, _, (show Try.prog.info? 3 = some Try.t3 from by kernel_rfl), by kernel_rfl, by kernel_rfl⟩
theorem z3 : TyZ Try.prog 3 (.int .i64 0) := ⟨_, (show Try.prog.info? 3 = some Try.t3 from by kernel_rfl), by kernel_rfl⟩
theorem t4 : TyF Try.prog 4 false 1 1 := ⟨Try.isAgg4, Try.sizeOf4, _, (show Try.prog.info? 4 = some Try.t4 from by kernel_rfl), by kernel_rfl, by kernel_rfl⟩
theorem z4 : TyZ Try.prog 4 (.bool false) := ⟨_, (show Try.prog.info? 4 = some Try.t4 from by kernel_rfl), by kernel_rfl⟩
theorem t5 : TyF Try.prog 5 false 1 1 := ⟨Try.isAgg5, Try.sizeOf5, _, (show Try.prog.info? 5 = some Try.t5 from by kernel_rfl), by kernel_rfl, by kernel_rfl⟩
theorem z5 : TyZ Try.prog 5 (.int .u8 0) := ⟨_, (show Try.prog.info? 5 = some Try.t5 from by kernel_rfl), by kernel_rfl⟩
theorem t22 : TyF Try.prog 22 false 1 24 := ⟨Try.isAgg22, Try.sizeOf22, _, (show Try.prog.info? 22 = some Try.t22 from by kernel_rfl), by kernel_rfl, by kernel_rfl⟩
theorem z22 : TyZ Try.prog 22 (.slice none 0 0) := ⟨_, (show Try.prog.info? 22 = some Try.t22 from by kernel_rfl), by kernel_rfl⟩
theorem t28 : TyF Try.prog 28 false 1 24 := ⟨Try.isAgg28, Try.sizeOf28, _, (show Try.prog.info? 28 = some Try.t28 from by kernel_rfl), by kernel_rfl, by kernel_rfl⟩
theorem z28 : TyZ Try.prog 28 (.slice none 0 0) := ⟨_, (show Try.prog.info? 28 = some Try.t28 from by kernel_rfl), by kernel_rfl⟩
theorem t30 : TyF Try.prog 30 true 4 64 := ⟨Try.isAgg30, Try.sizeOf30, _, (show Try.prog.info? 30 = some Try.t30 from by kernel_rfl), by kernel_rfl, by kernel_rfl⟩
theorem z30 : TyZ Try.prog 30 (.agg ([Value.slice none 0 0] ++ [Value.slice none 0 0] ++ [Value.int .i64 0] ++ [Value.bool false]).toArray) := ⟨_, (show Try.prog.info? 30 = some Try.t30 from by kernel_rfl), by kernel_rfl⟩
theorem t44 : TyF Try.prog 44 false 1 24 := ⟨Try.isAgg44, Try.sizeOf44, _, (show Try.prog.info? 44 = some Try.t44 from by kernel_rfl), by kernel_rfl, by kernel_rfl⟩
theorem z44 : TyZ Try.prog 44 (.slice none 0 0) := ⟨_, (show Try.prog.info? 44 = some Try.t44 from by kernel_rfl), by kernel_rfl⟩
theorem t46 : TyF Try.prog 46 true 5 56 := ⟨Try.isAgg46, Try.sizeOf46, _, (show Try.prog.info? 46 = some Try.t46 from by kernel_rfl), by kernel_rfl, by kernel_rfl⟩
theorem z46 : TyZ Try.prog 46 (.agg ([Value.int .i64 0] ++ [Value.int .i64 0] ++ [Value.int .i64 0] ++ [Value.int .u8 0] ++ [Value.slice none 0 0]).toArray) := ⟨_, (show Try.prog.info? 46 = some Try.t46 from by kernel_rfl), by kernel_rfl⟩
theorem t51 : TyF Try.prog 51 true 2 32 := ⟨Try.isAgg51, Try.sizeOf51, _, (show Try.prog.info? 51 = some Try.t51 from by kernel_rfl), by kernel_rfl, by kernel_rfl⟩
theorem z51 : TyZ Try.prog 51 (.agg ([Value.int .i64 0] ++ [Value.slice none 0 0]).toArray) := ⟨_, (show Try.prog.info? 51 = some Try.t51 from by kernel_rfl), by kernel_rfl⟩
theorem t59 : TyF Try.prog 59 false 1 24 := ⟨Try.isAgg59, Try.sizeOf59, _, (show Try.prog.info? 59 = some Try.t59 from by kernel_rfl), by kernel_rfl, by kernel_rfl⟩
theorem z59 : TyZ Try.prog 59 (.slice none 0 0) := ⟨_, (show Try.prog.info? 59 = some Try.t59 from by kernel_rfl), by kernel_rfl⟩
theorem t60 : TyF Try.prog 60 false 1 24 := ⟨Try.isAgg60, Try.sizeOf60, _, (show Try.prog.info? 60 = some Try.t60 from by kernel_rfl), by kernel_rfl, by kernel_rfl⟩
theorem z60 : TyZ Try.prog 60 (.slice none 0 0) := ⟨_, (show Try.prog.info? 60 = some Try.t60 from by kernel_rfl), by kernel_rfl⟩
theorem t62 : TyF Try.prog 62 true 4 64 := ⟨Try.isAgg62, Try.sizeOf62, _, (show Try.prog.info? 62 = some Try.t62 from by kernel_rfl), by kernel_rfl, by kernel_rfl⟩
theorem z62 : TyZ Try.prog 62 (.agg ([Value.slice none 0 0] ++ [Value.slice none 0 0] ++ [Value.int .i64 0] ++ [Value.bool false]).toArray) := ⟨_, (show Try.prog.info? 62 = some Try.t62 from by kernel_rfl), by kernel_rfl⟩
theorem t64 : TyF Try.prog 64 true 64 64 := ⟨Try.isAgg64, Try.sizeOf64, _, (show Try.prog.info? 64 = some Try.t64 from by kernel_rfl), by kernel_rfl, by kernel_rfl⟩
theorem z64 : TyZ Try.prog 64 (.agg (Array.replicate 64 (.int .u8 0))) := ⟨_, (show Try.prog.info? 64 = some Try.t64 from by kernel_rfl), by kernel_rfl⟩
theorem t66 : TyF Try.prog 66 true 65 72 := ⟨Try.isAgg66, Try.sizeOf66, _, (show Try.prog.info? 66 = some Try.t66 from by kernel_rfl), by kernel_rfl, by kernel_rfl⟩
theorem z66 : TyZ Try.prog 66 (.agg ([Value.int .i64 0] ++ List.replicate 64 (Value.int .u8 0)).toArray) := ⟨_, (show Try.prog.info? 66 = some Try.t66 from by kernel_rfl), by kernel_rfl⟩
theorem f30_0 : FdOff Try.prog 30 0 0 22 := ⟨_, _, Try.underlying30, rfl, rfl, rfl, 1, by decide, Try.sizeOf22⟩
theorem f30_1 : FdOff Try.prog 30 1 1 28 := ⟨_, _, Try.underlying30, rfl, rfl, rfl, 1, by decide, Try.sizeOf28⟩
theorem f30_2 : FdOff Try.prog 30 2 2 3 := ⟨_, _, Try.underlying30, rfl, rfl, rfl, 1, by decide, Try.sizeOf3⟩
theorem f30_3 : FdOff Try.prog 30 3 3 4 := ⟨_, _, Try.underlying30, rfl, rfl, rfl, 1, by decide, Try.sizeOf4⟩
theorem f46_0 : FdOff Try.prog 46 0 0 3 := ⟨_, _, Try.underlying46, rfl, rfl, rfl, 1, by decide, Try.sizeOf3⟩
theorem f46_1 : FdOff Try.prog 46 1 1 3 := ⟨_, _, Try.underlying46, rfl, rfl, rfl, 1, by decide, Try.sizeOf3⟩
theorem f46_2 : FdOff Try.prog 46 2 2 3 := ⟨_, _, Try.underlying46, rfl, rfl, rfl, 1, by decide, Try.sizeOf3⟩
theorem f46_3 : FdOff Try.prog 46 3 3 5 := ⟨_, _, Try.underlying46, rfl, rfl, rfl, 1, by decide, Try.sizeOf5⟩
theorem f46_4 : FdOff Try.prog 46 4 4 44 := ⟨_, _, Try.underlying46, rfl, rfl, rfl, 1, by decide, Try.sizeOf44⟩
theorem f51_0 : FdOff Try.prog 51 0 0 3 := ⟨_, _, Try.underlying51, rfl, rfl, rfl, 1, by decide, Try.sizeOf3⟩
theorem f51_1 : FdOff Try.prog 51 1 1 22 := ⟨_, _, Try.underlying51, rfl, rfl, rfl, 1, by decide, Try.sizeOf22⟩
theorem f62_0 : FdOff Try.prog 62 0 0 59 := ⟨_, _, Try.underlying62, rfl, rfl, rfl, 1, by decide, Try.sizeOf59⟩
theorem f62_1 : FdOff Try.prog 62 1 1 60 := ⟨_, _, Try.underlying62, rfl, rfl, rfl, 1, by decide, Try.sizeOf60⟩
theorem f62_2 : FdOff Try.prog 62 2 2 3 := ⟨_, _, Try.underlying62, rfl, rfl, rfl, 1, by decide, Try.sizeOf3⟩
theorem f62_3 : FdOff Try.prog 62 3 3 4 := ⟨_, _, Try.underlying62, rfl, rfl, rfl, 1, by decide, Try.sizeOf4⟩
theorem f66_0 : FdOff Try.prog 66 0 0 3 := ⟨_, _, Try.underlying66, rfl, rfl, rfl, 1, by decide, Try.sizeOf3⟩
theorem f66_1 : FdOff Try.prog 66 1 1 64 := ⟨_, _, Try.underlying66, rfl, rfl, rfl, 64, by decide, Try.sizeOf64⟩
theorem p30 : TyP Try.prog 30 #[(0, 1), (1, 1), (2, 1), (3, 1)] := ⟨_, Try.underlying30, fun w => by kernel_rfl⟩
theorem p51 : TyP Try.prog 51 #[(0, 1), (1, 1)] := ⟨_, Try.underlying51, fun w => by kernel_rfl⟩
theorem p62 : TyP Try.prog 62 #[(0, 1), (1, 1), (2, 1), (3, 1)] := ⟨_, Try.underlying62, fun w => by kernel_rfl⟩
theorem p66 : TyP Try.prog 66 #[(0, 1), (1, 64)] := ⟨_, Try.underlying66, fun w => by kernel_rfl⟩
theorem mixed : Try.prog.follows .mixedOrders = true := by kernel_rfl
end TF
end Go.Proofs.Ytekhcjgmgflmkaa
