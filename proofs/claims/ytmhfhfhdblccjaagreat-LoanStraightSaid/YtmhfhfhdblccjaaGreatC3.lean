import Derived.Test.YtmhfhfhdblccjaaGreatC2
import Derived.Test.YtmhfhfhdblccjaaGreatProg
namespace Go.Proofs.YtmhfhfhdblccjaaGreat
open Go Go.RowKit
set_option linter.unusedVariables false
set_option maxRecDepth 4000
instance : TyI Tryz.prog 0 false (.tuple #[]) 1 0 := ⟨Tryz.isAgg0, Tryz.t0, Tryz.type0, rfl, rfl, rfl⟩
instance : TyI Tryz.prog 1 false (.nilFunc) 1 8 := ⟨Tryz.isAgg1, Tryz.t1, Tryz.type1, rfl, rfl, rfl⟩
instance : TyU Tryz.prog 2 (.int .i64) := ⟨Tryz.underlying2⟩
instance : TyI Tryz.prog 2 false (.int .i64 0) 1 8 := ⟨Tryz.isAgg2, Tryz.t2, Tryz.type2, rfl, rfl, rfl⟩
instance : TyU Tryz.prog 3 (.int .i64) := ⟨Tryz.underlying3⟩
instance : TyI Tryz.prog 3 false (.int .i64 0) 1 8 := ⟨Tryz.isAgg3, Tryz.t3, Tryz.type3, rfl, rfl, rfl⟩
instance : TyU Tryz.prog 4 (.bool) := ⟨Tryz.underlying4⟩
instance : TyI Tryz.prog 4 false (.bool false) 1 1 := ⟨Tryz.isAgg4, Tryz.t4, Tryz.type4, rfl, rfl, rfl⟩
instance : TyU Tryz.prog 5 (.int .u8) := ⟨Tryz.underlying5⟩
instance : TyI Tryz.prog 5 false (.int .u8 0) 1 1 := ⟨Tryz.isAgg5, Tryz.t5, Tryz.type5, rfl, rfl, rfl⟩
instance : TyU Tryz.prog 6 (.int .u8) := ⟨Tryz.underlying6⟩
instance : TyI Tryz.prog 6 false (.int .u8 0) 1 1 := ⟨Tryz.isAgg6, Tryz.t6, Tryz.type6, rfl, rfl, rfl⟩
instance : TyI Tryz.prog 7 true (.agg #[.int .i64 0, .int .i64 0, .bool false, .int .u8 0]) 4 24 := ⟨Tryz.isAgg7, Tryz.t7, Tryz.type7, rfl, rfl, rfl⟩
instance : TyB Tryz.prog 7 [(0, 1), (1, 1), (2, 1), (3, 1)] [.int .i64 0, .int .i64 0, .bool false, .int .u8 0] := tyB_mk Tryz.underlying7 (.cons rfl Tryz.sizeOf2 ( .cons rfl Tryz.sizeOf3 ( .cons rfl Tryz.sizeOf4 ( .cons rfl Tryz.sizeOf6 (.nil))))) (fun w => TyI.zeroValue inferInstance w) rfl
instance : TyG Tryz.prog 7 0 0 false 1 := ⟨_, _, Tryz.underlying7, rfl, rfl, Tryz.isAgg2, Tryz.sizeOf2⟩
instance : TyG Tryz.prog 7 1 1 false 1 := ⟨_, _, Tryz.underlying7, rfl, rfl, Tryz.isAgg3, Tryz.sizeOf3⟩
instance : TyG Tryz.prog 7 2 2 false 1 := ⟨_, _, Tryz.underlying7, rfl, rfl, Tryz.isAgg4, Tryz.sizeOf4⟩
instance : TyG Tryz.prog 7 3 3 false 1 := ⟨_, _, Tryz.underlying7, rfl, rfl, Tryz.isAgg6, Tryz.sizeOf6⟩
instance : TyF Tryz.prog 7 0 0 := ⟨_, _, Tryz.underlying7, rfl, rfl, _, by decide, Tryz.sizeOf2⟩
instance : TyF Tryz.prog 7 1 1 := ⟨_, _, Tryz.underlying7, rfl, rfl, _, by decide, Tryz.sizeOf3⟩
instance : TyF Tryz.prog 7 2 2 := ⟨_, _, Tryz.underlying7, rfl, rfl, _, by decide, Tryz.sizeOf4⟩
instance : TyF Tryz.prog 7 3 3 := ⟨_, _, Tryz.underlying7, rfl, rfl, _, by decide, Tryz.sizeOf6⟩
instance : TyI Tryz.prog 8 true (.agg #[.int .i64 0, .int .i64 0, .bool false, .int .u8 0]) 4 24 := ⟨Tryz.isAgg8, Tryz.t8, Tryz.type8, rfl, rfl, rfl⟩
instance : TyB Tryz.prog 8 [(0, 1), (1, 1), (2, 1), (3, 1)] [.int .i64 0, .int .i64 0, .bool false, .int .u8 0] := tyB_mk Tryz.underlying8 (.cons rfl Tryz.sizeOf2 ( .cons rfl Tryz.sizeOf3 ( .cons rfl Tryz.sizeOf4 ( .cons rfl Tryz.sizeOf6 (.nil))))) (fun w => TyI.zeroValue inferInstance w) rfl
instance : TyG Tryz.prog 8 0 0 false 1 := ⟨_, _, Tryz.underlying8, rfl, rfl, Tryz.isAgg2, Tryz.sizeOf2⟩
instance : TyG Tryz.prog 8 1 1 false 1 := ⟨_, _, Tryz.underlying8, rfl, rfl, Tryz.isAgg3, Tryz.sizeOf3⟩
instance : TyG Tryz.prog 8 2 2 false 1 := ⟨_, _, Tryz.underlying8, rfl, rfl, Tryz.isAgg4, Tryz.sizeOf4⟩
instance : TyG Tryz.prog 8 3 3 false 1 := ⟨_, _, Tryz.underlying8, rfl, rfl, Tryz.isAgg6, Tryz.sizeOf6⟩
instance : TyF Tryz.prog 8 0 0 := ⟨_, _, Tryz.underlying8, rfl, rfl, _, by decide, Tryz.sizeOf2⟩
instance : TyF Tryz.prog 8 1 1 := ⟨_, _, Tryz.underlying8, rfl, rfl, _, by decide, Tryz.sizeOf3⟩
instance : TyF Tryz.prog 8 2 2 := ⟨_, _, Tryz.underlying8, rfl, rfl, _, by decide, Tryz.sizeOf4⟩
instance : TyF Tryz.prog 8 3 3 := ⟨_, _, Tryz.underlying8, rfl, rfl, _, by decide, Tryz.sizeOf6⟩
instance : TyU Tryz.prog 9 (.string) := ⟨Tryz.underlying9⟩
instance : TyI Tryz.prog 9 false (.string .empty) 1 16 := ⟨Tryz.isAgg9, Tryz.t9, Tryz.type9, rfl, rfl, rfl⟩
instance : TyU Tryz.prog 10 (.string) := ⟨Tryz.underlying10⟩
instance : TyI Tryz.prog 10 false (.string .empty) 1 16 := ⟨Tryz.isAgg10, Tryz.t10, Tryz.type10, rfl, rfl, rfl⟩
instance : TyU Tryz.prog 11 (.string) := ⟨Tryz.underlying11⟩
instance : TyI Tryz.prog 11 false (.string .empty) 1 16 := ⟨Tryz.isAgg11, Tryz.t11, Tryz.type11, rfl, rfl, rfl⟩
instance : TyU Tryz.prog 12 (.int .u64) := ⟨Tryz.underlying12⟩
instance : TyI Tryz.prog 12 false (.int .u64 0) 1 8 := ⟨Tryz.isAgg12, Tryz.t12, Tryz.type12, rfl, rfl, rfl⟩
instance : TyI Tryz.prog 13 true (.agg #[.string .empty, .int .u64 0]) 2 24 := ⟨Tryz.isAgg13, Tryz.t13, Tryz.type13, rfl, rfl, rfl⟩
instance : TyB Tryz.prog 13 [(0, 1), (1, 1)] [.string .empty, .int .u64 0] := tyB_mk Tryz.underlying13 (.cons rfl Tryz.sizeOf9 ( .cons rfl Tryz.sizeOf12 (.nil))) (fun w => TyI.zeroValue inferInstance w) rfl
instance : TyG Tryz.prog 13 0 0 false 1 := ⟨_, _, Tryz.underlying13, rfl, rfl, Tryz.isAgg9, Tryz.sizeOf9⟩
instance : TyG Tryz.prog 13 1 1 false 1 := ⟨_, _, Tryz.underlying13, rfl, rfl, Tryz.isAgg12, Tryz.sizeOf12⟩
instance : TyF Tryz.prog 13 0 0 := ⟨_, _, Tryz.underlying13, rfl, rfl, _, by decide, Tryz.sizeOf9⟩
instance : TyF Tryz.prog 13 1 1 := ⟨_, _, Tryz.underlying13, rfl, rfl, _, by decide, Tryz.sizeOf12⟩
instance : TyI Tryz.prog 14 true (.agg #[.string .empty, .int .u64 0]) 2 24 := ⟨Tryz.isAgg14, Tryz.t14, Tryz.type14, rfl, rfl, rfl⟩
instance : TyB Tryz.prog 14 [(0, 1), (1, 1)] [.string .empty, .int .u64 0] := tyB_mk Tryz.underlying14 (.cons rfl Tryz.sizeOf9 ( .cons rfl Tryz.sizeOf12 (.nil))) (fun w => TyI.zeroValue inferInstance w) rfl
instance : TyG Tryz.prog 14 0 0 false 1 := ⟨_, _, Tryz.underlying14, rfl, rfl, Tryz.isAgg9, Tryz.sizeOf9⟩
instance : TyG Tryz.prog 14 1 1 false 1 := ⟨_, _, Tryz.underlying14, rfl, rfl, Tryz.isAgg12, Tryz.sizeOf12⟩
instance : TyF Tryz.prog 14 0 0 := ⟨_, _, Tryz.underlying14, rfl, rfl, _, by decide, Tryz.sizeOf9⟩
instance : TyF Tryz.prog 14 1 1 := ⟨_, _, Tryz.underlying14, rfl, rfl, _, by decide, Tryz.sizeOf12⟩
instance : TyU Tryz.prog 15 (.pointer 171) := ⟨Tryz.underlying15⟩
instance : TyI Tryz.prog 15 false (.pointer none) 1 8 := ⟨Tryz.isAgg15, Tryz.t15, Tryz.type15, rfl, rfl, rfl⟩
instance : TyU Tryz.prog 16 (.pointer 174) := ⟨Tryz.underlying16⟩
instance : TyI Tryz.prog 16 false (.pointer none) 1 8 := ⟨Tryz.isAgg16, Tryz.t16, Tryz.type16, rfl, rfl, rfl⟩
instance : TyU Tryz.prog 17 (.pointer 182) := ⟨Tryz.underlying17⟩
instance : TyI Tryz.prog 17 false (.pointer none) 1 8 := ⟨Tryz.isAgg17, Tryz.t17, Tryz.type17, rfl, rfl, rfl⟩
instance : TyI Tryz.prog 18 true (.agg #[.pointer none]) 1 8 := ⟨Tryz.isAgg18, Tryz.t18, Tryz.type18, rfl, rfl, rfl⟩
instance : TyB Tryz.prog 18 [(0, 1)] [.pointer none] := tyB_mk Tryz.underlying18 (.cons rfl Tryz.sizeOf17 (.nil)) (fun w => TyI.zeroValue inferInstance w) rfl
instance : TyG Tryz.prog 18 0 0 false 1 := ⟨_, _, Tryz.underlying18, rfl, rfl, Tryz.isAgg17, Tryz.sizeOf17⟩
instance : TyF Tryz.prog 18 0 0 := ⟨_, _, Tryz.underlying18, rfl, rfl, _, by decide, Tryz.sizeOf17⟩
instance : TyI Tryz.prog 19 true (.agg #[.pointer none]) 1 8 := ⟨Tryz.isAgg19, Tryz.t19, Tryz.type19, rfl, rfl, rfl⟩
instance : TyB Tryz.prog 19 [(0, 1)] [.pointer none] := tyB_mk Tryz.underlying19 (.cons rfl Tryz.sizeOf17 (.nil)) (fun w => TyI.zeroValue inferInstance w) rfl
instance : TyG Tryz.prog 19 0 0 false 1 := ⟨_, _, Tryz.underlying19, rfl, rfl, Tryz.isAgg17, Tryz.sizeOf17⟩
instance : TyF Tryz.prog 19 0 0 := ⟨_, _, Tryz.underlying19, rfl, rfl, _, by decide, Tryz.sizeOf17⟩
instance : TyI Tryz.prog 20 false (.nilIface) 1 16 := ⟨Tryz.isAgg20, Tryz.t20, Tryz.type20, rfl, rfl, rfl⟩
instance : TyU Tryz.prog 21 (.int .i32) := ⟨Tryz.underlying21⟩
instance : TyI Tryz.prog 21 false (.int .i32 0) 1 4 := ⟨Tryz.isAgg21, Tryz.t21, Tryz.type21, rfl, rfl, rfl⟩
instance : TyU Tryz.prog 22 (.slice 5) := ⟨Tryz.underlying22⟩
instance : TyI Tryz.prog 22 false (.slice none 0 0) 1 24 := ⟨Tryz.isAgg22, Tryz.t22, Tryz.type22, rfl, rfl, rfl⟩
instance : TyU Tryz.prog 23 (.slice 28) := ⟨Tryz.underlying23⟩
instance : TyI Tryz.prog 23 false (.slice none 0 0) 1 24 := ⟨Tryz.isAgg23, Tryz.t23, Tryz.type23, rfl, rfl, rfl⟩
instance : TyU Tryz.prog 24 (.slice 28) := ⟨Tryz.underlying24⟩
instance : TyI Tryz.prog 24 false (.slice none 0 0) 1 24 := ⟨Tryz.isAgg24, Tryz.t24, Tryz.type24, rfl, rfl, rfl⟩
instance : TyI Tryz.prog 25 false (.nilFunc) 1 8 := ⟨Tryz.isAgg25, Tryz.t25, Tryz.type25, rfl, rfl, rfl⟩
instance : TyU Tryz.prog 26 (.pointer 85) := ⟨Tryz.underlying26⟩
instance : TyI Tryz.prog 26 false (.pointer none) 1 8 := ⟨Tryz.isAgg26, Tryz.t26, Tryz.type26, rfl, rfl, rfl⟩
instance : TyI Tryz.prog 27 false (.nilFunc) 1 8 := ⟨Tryz.isAgg27, Tryz.t27, Tryz.type27, rfl, rfl, rfl⟩
instance : TyU Tryz.prog 28 (.slice 3) := ⟨Tryz.underlying28⟩
instance : TyI Tryz.prog 28 false (.slice none 0 0) 1 24 := ⟨Tryz.isAgg28, Tryz.t28, Tryz.type28, rfl, rfl, rfl⟩
instance : TyI Tryz.prog 29 false (.nilFunc) 1 8 := ⟨Tryz.isAgg29, Tryz.t29, Tryz.type29, rfl, rfl, rfl⟩
instance : TyU Tryz.prog 30 (.slice 44) := ⟨Tryz.underlying30⟩
instance : TyI Tryz.prog 30 false (.slice none 0 0) 1 24 := ⟨Tryz.isAgg30, Tryz.t30, Tryz.type30, rfl, rfl, rfl⟩
instance : TyU Tryz.prog 31 (.int .i64) := ⟨Tryz.underlying31⟩
instance : TyI Tryz.prog 31 false (.int .i64 0) 1 8 := ⟨Tryz.isAgg31, Tryz.t31, Tryz.type31, rfl, rfl, rfl⟩
instance : TyI Tryz.prog 32 false (.tuple #[.slice none 0 0, .int .i64 0]) 1 0 := ⟨Tryz.isAgg32, Tryz.t32, Tryz.type32, rfl, rfl, rfl⟩
instance : TyI Tryz.prog 33 false (.nilFunc) 1 8 := ⟨Tryz.isAgg33, Tryz.t33, Tryz.type33, rfl, rfl, rfl⟩
instance : TyI Tryz.prog 34 false (.tuple #[.int .i64 0, .int .i64 0]) 1 0 := ⟨Tryz.isAgg34, Tryz.t34, Tryz.type34, rfl, rfl, rfl⟩
instance : TyI Tryz.prog 35 false (.nilFunc) 1 8 := ⟨Tryz.isAgg35, Tryz.t35, Tryz.type35, rfl, rfl, rfl⟩
instance : TyI Tryz.prog 36 false (.tuple #[.bool false, .int .i64 0]) 1 0 := ⟨Tryz.isAgg36, Tryz.t36, Tryz.type36, rfl, rfl, rfl⟩
instance : TyI Tryz.prog 37 false (.nilFunc) 1 8 := ⟨Tryz.isAgg37, Tryz.t37, Tryz.type37, rfl, rfl, rfl⟩
instance : TyI Tryz.prog 38 false (.tuple #[.slice none 0 0, .int .i64 0]) 1 0 := ⟨Tryz.isAgg38, Tryz.t38, Tryz.type38, rfl, rfl, rfl⟩
instance : TyI Tryz.prog 39 false (.nilFunc) 1 8 := ⟨Tryz.isAgg39, Tryz.t39, Tryz.type39, rfl, rfl, rfl⟩
instance : TyI Tryz.prog 40 false (.nilFunc) 1 8 := ⟨Tryz.isAgg40, Tryz.t40, Tryz.type40, rfl, rfl, rfl⟩
instance : TyI Tryz.prog 41 false (.nilFunc) 1 8 := ⟨Tryz.isAgg41, Tryz.t41, Tryz.type41, rfl, rfl, rfl⟩
instance : TyI Tryz.prog 42 false (.nilFunc) 1 8 := ⟨Tryz.isAgg42, Tryz.t42, Tryz.type42, rfl, rfl, rfl⟩
instance : TyI Tryz.prog 43 true (.agg #[.int .i64 0, .int .i64 0, .int .i64 0]) 3 24 := ⟨Tryz.isAgg43, Tryz.t43, Tryz.type43, rfl, rfl, rfl⟩
instance : TyB Tryz.prog 43 [(0, 1), (1, 1), (2, 1)] [.int .i64 0, .int .i64 0, .int .i64 0] := tyB_mk Tryz.underlying43 (.cons rfl Tryz.sizeOf3 ( .cons rfl Tryz.sizeOf3 ( .cons rfl Tryz.sizeOf3 (.nil)))) (fun w => TyI.zeroValue inferInstance w) rfl
instance : TyG Tryz.prog 43 0 0 false 1 := ⟨_, _, Tryz.underlying43, rfl, rfl, Tryz.isAgg3, Tryz.sizeOf3⟩
instance : TyG Tryz.prog 43 1 1 false 1 := ⟨_, _, Tryz.underlying43, rfl, rfl, Tryz.isAgg3, Tryz.sizeOf3⟩
instance : TyG Tryz.prog 43 2 2 false 1 := ⟨_, _, Tryz.underlying43, rfl, rfl, Tryz.isAgg3, Tryz.sizeOf3⟩
instance : TyF Tryz.prog 43 0 0 := ⟨_, _, Tryz.underlying43, rfl, rfl, _, by decide, Tryz.sizeOf3⟩
instance : TyF Tryz.prog 43 1 1 := ⟨_, _, Tryz.underlying43, rfl, rfl, _, by decide, Tryz.sizeOf3⟩
instance : TyF Tryz.prog 43 2 2 := ⟨_, _, Tryz.underlying43, rfl, rfl, _, by decide, Tryz.sizeOf3⟩
instance : TyI Tryz.prog 44 true (.agg #[.int .i64 0, .int .i64 0, .int .i64 0]) 3 24 := ⟨Tryz.isAgg44, Tryz.t44, Tryz.type44, rfl, rfl, rfl⟩
instance : TyB Tryz.prog 44 [(0, 1), (1, 1), (2, 1)] [.int .i64 0, .int .i64 0, .int .i64 0] := tyB_mk Tryz.underlying44 (.cons rfl Tryz.sizeOf3 ( .cons rfl Tryz.sizeOf3 ( .cons rfl Tryz.sizeOf3 (.nil)))) (fun w => TyI.zeroValue inferInstance w) rfl
instance : TyG Tryz.prog 44 0 0 false 1 := ⟨_, _, Tryz.underlying44, rfl, rfl, Tryz.isAgg3, Tryz.sizeOf3⟩
instance : TyG Tryz.prog 44 1 1 false 1 := ⟨_, _, Tryz.underlying44, rfl, rfl, Tryz.isAgg3, Tryz.sizeOf3⟩
instance : TyG Tryz.prog 44 2 2 false 1 := ⟨_, _, Tryz.underlying44, rfl, rfl, Tryz.isAgg3, Tryz.sizeOf3⟩
instance : TyF Tryz.prog 44 0 0 := ⟨_, _, Tryz.underlying44, rfl, rfl, _, by decide, Tryz.sizeOf3⟩
instance : TyF Tryz.prog 44 1 1 := ⟨_, _, Tryz.underlying44, rfl, rfl, _, by decide, Tryz.sizeOf3⟩
instance : TyF Tryz.prog 44 2 2 := ⟨_, _, Tryz.underlying44, rfl, rfl, _, by decide, Tryz.sizeOf3⟩
instance : TyI Tryz.prog 45 false (.nilFunc) 1 8 := ⟨Tryz.isAgg45, Tryz.t45, Tryz.type45, rfl, rfl, rfl⟩
instance : TyI Tryz.prog 46 false (.nilFunc) 1 8 := ⟨Tryz.isAgg46, Tryz.t46, Tryz.type46, rfl, rfl, rfl⟩
instance : TyI Tryz.prog 47 false (.nilFunc) 1 8 := ⟨Tryz.isAgg47, Tryz.t47, Tryz.type47, rfl, rfl, rfl⟩
instance : TyI Tryz.prog 48 false (.nilFunc) 1 8 := ⟨Tryz.isAgg48, Tryz.t48, Tryz.type48, rfl, rfl, rfl⟩
instance : TyI Tryz.prog 49 false (.nilFunc) 1 8 := ⟨Tryz.isAgg49, Tryz.t49, Tryz.type49, rfl, rfl, rfl⟩
instance : TyI Tryz.prog 50 false (.nilFunc) 1 8 := ⟨Tryz.isAgg50, Tryz.t50, Tryz.type50, rfl, rfl, rfl⟩
instance : TyI Tryz.prog 51 false (.nilFunc) 1 8 := ⟨Tryz.isAgg51, Tryz.t51, Tryz.type51, rfl, rfl, rfl⟩
instance : TyI Tryz.prog 52 false (.nilFunc) 1 8 := ⟨Tryz.isAgg52, Tryz.t52, Tryz.type52, rfl, rfl, rfl⟩
instance : TyI Tryz.prog 53 false (.nilFunc) 1 8 := ⟨Tryz.isAgg53, Tryz.t53, Tryz.type53, rfl, rfl, rfl⟩
instance : TyI Tryz.prog 54 false (.nilFunc) 1 8 := ⟨Tryz.isAgg54, Tryz.t54, Tryz.type54, rfl, rfl, rfl⟩
instance : TyI Tryz.prog 55 false (.nilFunc) 1 8 := ⟨Tryz.isAgg55, Tryz.t55, Tryz.type55, rfl, rfl, rfl⟩
instance : TyI Tryz.prog 56 false (.nilFunc) 1 8 := ⟨Tryz.isAgg56, Tryz.t56, Tryz.type56, rfl, rfl, rfl⟩
instance : TyI Tryz.prog 57 false (.nilFunc) 1 8 := ⟨Tryz.isAgg57, Tryz.t57, Tryz.type57, rfl, rfl, rfl⟩
instance : TyI Tryz.prog 58 false (.nilFunc) 1 8 := ⟨Tryz.isAgg58, Tryz.t58, Tryz.type58, rfl, rfl, rfl⟩
instance : TyI Tryz.prog 59 false (.nilFunc) 1 8 := ⟨Tryz.isAgg59, Tryz.t59, Tryz.type59, rfl, rfl, rfl⟩
instance : TyI Tryz.prog 60 false (.tuple #[.slice none 0 0, .int .i64 0]) 1 0 := ⟨Tryz.isAgg60, Tryz.t60, Tryz.type60, rfl, rfl, rfl⟩
instance : TyI Tryz.prog 61 false (.nilFunc) 1 8 := ⟨Tryz.isAgg61, Tryz.t61, Tryz.type61, rfl, rfl, rfl⟩
instance : TyI Tryz.prog 62 false (.tuple #[.slice none 0 0, .int .i64 0]) 1 0 := ⟨Tryz.isAgg62, Tryz.t62, Tryz.type62, rfl, rfl, rfl⟩
instance : TyI Tryz.prog 63 false (.nilFunc) 1 8 := ⟨Tryz.isAgg63, Tryz.t63, Tryz.type63, rfl, rfl, rfl⟩
instance : TyI Tryz.prog 64 false (.nilFunc) 1 8 := ⟨Tryz.isAgg64, Tryz.t64, Tryz.type64, rfl, rfl, rfl⟩
instance : TyI Tryz.prog 65 false (.nilFunc) 1 8 := ⟨Tryz.isAgg65, Tryz.t65, Tryz.type65, rfl, rfl, rfl⟩
instance : TyI Tryz.prog 66 false (.nilFunc) 1 8 := ⟨Tryz.isAgg66, Tryz.t66, Tryz.type66, rfl, rfl, rfl⟩
instance : TyI Tryz.prog 67 false (.nilFunc) 1 8 := ⟨Tryz.isAgg67, Tryz.t67, Tryz.type67, rfl, rfl, rfl⟩
instance : TyU Tryz.prog 68 (.slice 24) := ⟨Tryz.underlying68⟩
instance : TyI Tryz.prog 68 false (.slice none 0 0) 1 24 := ⟨Tryz.isAgg68, Tryz.t68, Tryz.type68, rfl, rfl, rfl⟩
instance : TyI Tryz.prog 69 false (.nilFunc) 1 8 := ⟨Tryz.isAgg69, Tryz.t69, Tryz.type69, rfl, rfl, rfl⟩
instance : TyI Tryz.prog 70 false (.nilFunc) 1 8 := ⟨Tryz.isAgg70, Tryz.t70, Tryz.type70, rfl, rfl, rfl⟩
instance : TyU Tryz.prog 71 (.slice 79) := ⟨Tryz.underlying71⟩
instance : TyI Tryz.prog 71 false (.slice none 0 0) 1 24 := ⟨Tryz.isAgg71, Tryz.t71, Tryz.type71, rfl, rfl, rfl⟩
instance : TyU Tryz.prog 72 (.slice 80) := ⟨Tryz.underlying72⟩
instance : TyI Tryz.prog 72 false (.slice none 0 0) 1 24 := ⟨Tryz.isAgg72, Tryz.t72, Tryz.type72, rfl, rfl, rfl⟩
instance : TyI Tryz.prog 73 true (.agg #[.int .i64 0, .int .i64 0, .slice none 0 0, .slice none 0 0, .slice none 0 0, .slice none 0 0, .slice none 0 0]) 7 136 := ⟨Tryz.isAgg73, Tryz.t73, Tryz.type73, rfl, rfl, rfl⟩
instance : TyB Tryz.prog 73 [(0, 1), (1, 1), (2, 1), (3, 1), (4, 1), (5, 1), (6, 1)] [.int .i64 0, .int .i64 0, .slice none 0 0, .slice none 0 0, .slice none 0 0, .slice none 0 0, .slice none 0 0] := tyB_mk Tryz.underlying73 (.cons rfl Tryz.sizeOf3 ( .cons rfl Tryz.sizeOf3 ( .cons rfl Tryz.sizeOf28 ( .cons rfl Tryz.sizeOf28 ( .cons rfl Tryz.sizeOf71 ( .cons rfl Tryz.sizeOf72 ( .cons rfl Tryz.sizeOf30 (.nil)))))))) (fun w => TyI.zeroValue inferInstance w) rfl
instance : TyG Tryz.prog 73 0 0 false 1 := ⟨_, _, Tryz.underlying73, rfl, rfl, Tryz.isAgg3, Tryz.sizeOf3⟩
instance : TyG Tryz.prog 73 1 1 false 1 := ⟨_, _, Tryz.underlying73, rfl, rfl, Tryz.isAgg3, Tryz.sizeOf3⟩
instance : TyG Tryz.prog 73 2 2 false 1 := ⟨_, _, Tryz.underlying73, rfl, rfl, Tryz.isAgg28, Tryz.sizeOf28⟩
instance : TyG Tryz.prog 73 3 3 false 1 := ⟨_, _, Tryz.underlying73, rfl, rfl, Tryz.isAgg28, Tryz.sizeOf28⟩
instance : TyG Tryz.prog 73 4 4 false 1 := ⟨_, _, Tryz.underlying73, rfl, rfl, Tryz.isAgg71, Tryz.sizeOf71⟩
instance : TyG Tryz.prog 73 5 5 false 1 := ⟨_, _, Tryz.underlying73, rfl, rfl, Tryz.isAgg72, Tryz.sizeOf72⟩
instance : TyG Tryz.prog 73 6 6 false 1 := ⟨_, _, Tryz.underlying73, rfl, rfl, Tryz.isAgg30, Tryz.sizeOf30⟩
instance : TyF Tryz.prog 73 0 0 := ⟨_, _, Tryz.underlying73, rfl, rfl, _, by decide, Tryz.sizeOf3⟩
instance : TyF Tryz.prog 73 1 1 := ⟨_, _, Tryz.underlying73, rfl, rfl, _, by decide, Tryz.sizeOf3⟩
instance : TyF Tryz.prog 73 2 2 := ⟨_, _, Tryz.underlying73, rfl, rfl, _, by decide, Tryz.sizeOf28⟩
instance : TyF Tryz.prog 73 3 3 := ⟨_, _, Tryz.underlying73, rfl, rfl, _, by decide, Tryz.sizeOf28⟩
instance : TyF Tryz.prog 73 4 4 := ⟨_, _, Tryz.underlying73, rfl, rfl, _, by decide, Tryz.sizeOf71⟩
instance : TyF Tryz.prog 73 5 5 := ⟨_, _, Tryz.underlying73, rfl, rfl, _, by decide, Tryz.sizeOf72⟩
instance : TyF Tryz.prog 73 6 6 := ⟨_, _, Tryz.underlying73, rfl, rfl, _, by decide, Tryz.sizeOf30⟩
instance : TyI Tryz.prog 74 true (.agg #[.int .i64 0, .int .i64 0, .slice none 0 0, .slice none 0 0, .slice none 0 0, .slice none 0 0, .slice none 0 0]) 7 136 := ⟨Tryz.isAgg74, Tryz.t74, Tryz.type74, rfl, rfl, rfl⟩
instance : TyB Tryz.prog 74 [(0, 1), (1, 1), (2, 1), (3, 1), (4, 1), (5, 1), (6, 1)] [.int .i64 0, .int .i64 0, .slice none 0 0, .slice none 0 0, .slice none 0 0, .slice none 0 0, .slice none 0 0] := tyB_mk Tryz.underlying74 (.cons rfl Tryz.sizeOf3 ( .cons rfl Tryz.sizeOf3 ( .cons rfl Tryz.sizeOf28 ( .cons rfl Tryz.sizeOf28 ( .cons rfl Tryz.sizeOf71 ( .cons rfl Tryz.sizeOf72 ( .cons rfl Tryz.sizeOf30 (.nil)))))))) (fun w => TyI.zeroValue inferInstance w) rfl
instance : TyG Tryz.prog 74 0 0 false 1 := ⟨_, _, Tryz.underlying74, rfl, rfl, Tryz.isAgg3, Tryz.sizeOf3⟩
instance : TyG Tryz.prog 74 1 1 false 1 := ⟨_, _, Tryz.underlying74, rfl, rfl, Tryz.isAgg3, Tryz.sizeOf3⟩
instance : TyG Tryz.prog 74 2 2 false 1 := ⟨_, _, Tryz.underlying74, rfl, rfl, Tryz.isAgg28, Tryz.sizeOf28⟩
instance : TyG Tryz.prog 74 3 3 false 1 := ⟨_, _, Tryz.underlying74, rfl, rfl, Tryz.isAgg28, Tryz.sizeOf28⟩
instance : TyG Tryz.prog 74 4 4 false 1 := ⟨_, _, Tryz.underlying74, rfl, rfl, Tryz.isAgg71, Tryz.sizeOf71⟩
instance : TyG Tryz.prog 74 5 5 false 1 := ⟨_, _, Tryz.underlying74, rfl, rfl, Tryz.isAgg72, Tryz.sizeOf72⟩
instance : TyG Tryz.prog 74 6 6 false 1 := ⟨_, _, Tryz.underlying74, rfl, rfl, Tryz.isAgg30, Tryz.sizeOf30⟩
instance : TyF Tryz.prog 74 0 0 := ⟨_, _, Tryz.underlying74, rfl, rfl, _, by decide, Tryz.sizeOf3⟩
instance : TyF Tryz.prog 74 1 1 := ⟨_, _, Tryz.underlying74, rfl, rfl, _, by decide, Tryz.sizeOf3⟩
instance : TyF Tryz.prog 74 2 2 := ⟨_, _, Tryz.underlying74, rfl, rfl, _, by decide, Tryz.sizeOf28⟩
instance : TyF Tryz.prog 74 3 3 := ⟨_, _, Tryz.underlying74, rfl, rfl, _, by decide, Tryz.sizeOf28⟩
instance : TyF Tryz.prog 74 4 4 := ⟨_, _, Tryz.underlying74, rfl, rfl, _, by decide, Tryz.sizeOf71⟩
instance : TyF Tryz.prog 74 5 5 := ⟨_, _, Tryz.underlying74, rfl, rfl, _, by decide, Tryz.sizeOf72⟩
instance : TyF Tryz.prog 74 6 6 := ⟨_, _, Tryz.underlying74, rfl, rfl, _, by decide, Tryz.sizeOf30⟩
instance : TyI Tryz.prog 75 false (.nilFunc) 1 8 := ⟨Tryz.isAgg75, Tryz.t75, Tryz.type75, rfl, rfl, rfl⟩
instance : TyI Tryz.prog 76 false (.nilFunc) 1 8 := ⟨Tryz.isAgg76, Tryz.t76, Tryz.type76, rfl, rfl, rfl⟩
instance : TyI Tryz.prog 77 false (.nilFunc) 1 8 := ⟨Tryz.isAgg77, Tryz.t77, Tryz.type77, rfl, rfl, rfl⟩
instance : TyI Tryz.prog 78 true (.agg #[.int .i64 0, .int .i64 0, .int .i64 0]) 3 24 := ⟨Tryz.isAgg78, Tryz.t78, Tryz.type78, rfl, rfl, rfl⟩
instance : TyB Tryz.prog 78 [(0, 1), (1, 1), (2, 1)] [.int .i64 0, .int .i64 0, .int .i64 0] := tyB_mk Tryz.underlying78 (.cons rfl Tryz.sizeOf3 ( .cons rfl Tryz.sizeOf3 ( .cons rfl Tryz.sizeOf3 (.nil)))) (fun w => TyI.zeroValue inferInstance w) rfl
instance : TyG Tryz.prog 78 0 0 false 1 := ⟨_, _, Tryz.underlying78, rfl, rfl, Tryz.isAgg3, Tryz.sizeOf3⟩
instance : TyG Tryz.prog 78 1 1 false 1 := ⟨_, _, Tryz.underlying78, rfl, rfl, Tryz.isAgg3, Tryz.sizeOf3⟩
instance : TyG Tryz.prog 78 2 2 false 1 := ⟨_, _, Tryz.underlying78, rfl, rfl, Tryz.isAgg3, Tryz.sizeOf3⟩
instance : TyF Tryz.prog 78 0 0 := ⟨_, _, Tryz.underlying78, rfl, rfl, _, by decide, Tryz.sizeOf3⟩
instance : TyF Tryz.prog 78 1 1 := ⟨_, _, Tryz.underlying78, rfl, rfl, _, by decide, Tryz.sizeOf3⟩
instance : TyF Tryz.prog 78 2 2 := ⟨_, _, Tryz.underlying78, rfl, rfl, _, by decide, Tryz.sizeOf3⟩
instance : TyI Tryz.prog 79 true (.agg #[.int .i64 0, .int .i64 0, .int .i64 0]) 3 24 := ⟨Tryz.isAgg79, Tryz.t79, Tryz.type79, rfl, rfl, rfl⟩
instance : TyB Tryz.prog 79 [(0, 1), (1, 1), (2, 1)] [.int .i64 0, .int .i64 0, .int .i64 0] := tyB_mk Tryz.underlying79 (.cons rfl Tryz.sizeOf3 ( .cons rfl Tryz.sizeOf3 ( .cons rfl Tryz.sizeOf3 (.nil)))) (fun w => TyI.zeroValue inferInstance w) rfl
instance : TyG Tryz.prog 79 0 0 false 1 := ⟨_, _, Tryz.underlying79, rfl, rfl, Tryz.isAgg3, Tryz.sizeOf3⟩
instance : TyG Tryz.prog 79 1 1 false 1 := ⟨_, _, Tryz.underlying79, rfl, rfl, Tryz.isAgg3, Tryz.sizeOf3⟩
instance : TyG Tryz.prog 79 2 2 false 1 := ⟨_, _, Tryz.underlying79, rfl, rfl, Tryz.isAgg3, Tryz.sizeOf3⟩
instance : TyF Tryz.prog 79 0 0 := ⟨_, _, Tryz.underlying79, rfl, rfl, _, by decide, Tryz.sizeOf3⟩
instance : TyF Tryz.prog 79 1 1 := ⟨_, _, Tryz.underlying79, rfl, rfl, _, by decide, Tryz.sizeOf3⟩
instance : TyF Tryz.prog 79 2 2 := ⟨_, _, Tryz.underlying79, rfl, rfl, _, by decide, Tryz.sizeOf3⟩
instance : TyI Tryz.prog 80 true (.agg #[.int .i64 0, .int .i64 0, .int .i64 0]) 3 24 := ⟨Tryz.isAgg80, Tryz.t80, Tryz.type80, rfl, rfl, rfl⟩
instance : TyB Tryz.prog 80 [(0, 1), (1, 1), (2, 1)] [.int .i64 0, .int .i64 0, .int .i64 0] := tyB_mk Tryz.underlying80 (.cons rfl Tryz.sizeOf3 ( .cons rfl Tryz.sizeOf3 ( .cons rfl Tryz.sizeOf3 (.nil)))) (fun w => TyI.zeroValue inferInstance w) rfl
instance : TyG Tryz.prog 80 0 0 false 1 := ⟨_, _, Tryz.underlying80, rfl, rfl, Tryz.isAgg3, Tryz.sizeOf3⟩
instance : TyG Tryz.prog 80 1 1 false 1 := ⟨_, _, Tryz.underlying80, rfl, rfl, Tryz.isAgg3, Tryz.sizeOf3⟩
instance : TyG Tryz.prog 80 2 2 false 1 := ⟨_, _, Tryz.underlying80, rfl, rfl, Tryz.isAgg3, Tryz.sizeOf3⟩
instance : TyF Tryz.prog 80 0 0 := ⟨_, _, Tryz.underlying80, rfl, rfl, _, by decide, Tryz.sizeOf3⟩
instance : TyF Tryz.prog 80 1 1 := ⟨_, _, Tryz.underlying80, rfl, rfl, _, by decide, Tryz.sizeOf3⟩
instance : TyF Tryz.prog 80 2 2 := ⟨_, _, Tryz.underlying80, rfl, rfl, _, by decide, Tryz.sizeOf3⟩
instance : TyI Tryz.prog 81 false (.nilFunc) 1 8 := ⟨Tryz.isAgg81, Tryz.t81, Tryz.type81, rfl, rfl, rfl⟩
instance : TyI Tryz.prog 82 false (.nilFunc) 1 8 := ⟨Tryz.isAgg82, Tryz.t82, Tryz.type82, rfl, rfl, rfl⟩
instance : TyU Tryz.prog 83 (.int .u32) := ⟨Tryz.underlying83⟩
instance : TyI Tryz.prog 83 false (.int .u32 0) 1 4 := ⟨Tryz.isAgg83, Tryz.t83, Tryz.type83, rfl, rfl, rfl⟩
instance : TyI Tryz.prog 84 true (.agg #[.slice none 0 0, .int .i64 0, .int .u32 0]) 3 40 := ⟨Tryz.isAgg84, Tryz.t84, Tryz.type84, rfl, rfl, rfl⟩
instance : TyB Tryz.prog 84 [(0, 1), (1, 1), (2, 1)] [.slice none 0 0, .int .i64 0, .int .u32 0] := tyB_mk Tryz.underlying84 (.cons rfl Tryz.sizeOf22 ( .cons rfl Tryz.sizeOf3 ( .cons rfl Tryz.sizeOf83 (.nil)))) (fun w => TyI.zeroValue inferInstance w) rfl
instance : TyG Tryz.prog 84 0 0 false 1 := ⟨_, _, Tryz.underlying84, rfl, rfl, Tryz.isAgg22, Tryz.sizeOf22⟩
instance : TyG Tryz.prog 84 1 1 false 1 := ⟨_, _, Tryz.underlying84, rfl, rfl, Tryz.isAgg3, Tryz.sizeOf3⟩
instance : TyG Tryz.prog 84 2 2 false 1 := ⟨_, _, Tryz.underlying84, rfl, rfl, Tryz.isAgg83, Tryz.sizeOf83⟩
instance : TyF Tryz.prog 84 0 0 := ⟨_, _, Tryz.underlying84, rfl, rfl, _, by decide, Tryz.sizeOf22⟩
instance : TyF Tryz.prog 84 1 1 := ⟨_, _, Tryz.underlying84, rfl, rfl, _, by decide, Tryz.sizeOf3⟩
instance : TyF Tryz.prog 84 2 2 := ⟨_, _, Tryz.underlying84, rfl, rfl, _, by decide, Tryz.sizeOf83⟩
instance : TyI Tryz.prog 85 true (.agg #[.slice none 0 0, .int .i64 0, .int .u32 0]) 3 40 := ⟨Tryz.isAgg85, Tryz.t85, Tryz.type85, rfl, rfl, rfl⟩
instance : TyB Tryz.prog 85 [(0, 1), (1, 1), (2, 1)] [.slice none 0 0, .int .i64 0, .int .u32 0] := tyB_mk Tryz.underlying85 (.cons rfl Tryz.sizeOf22 ( .cons rfl Tryz.sizeOf3 ( .cons rfl Tryz.sizeOf83 (.nil)))) (fun w => TyI.zeroValue inferInstance w) rfl
instance : TyG Tryz.prog 85 0 0 false 1 := ⟨_, _, Tryz.underlying85, rfl, rfl, Tryz.isAgg22, Tryz.sizeOf22⟩
instance : TyG Tryz.prog 85 1 1 false 1 := ⟨_, _, Tryz.underlying85, rfl, rfl, Tryz.isAgg3, Tryz.sizeOf3⟩
instance : TyG Tryz.prog 85 2 2 false 1 := ⟨_, _, Tryz.underlying85, rfl, rfl, Tryz.isAgg83, Tryz.sizeOf83⟩
instance : TyF Tryz.prog 85 0 0 := ⟨_, _, Tryz.underlying85, rfl, rfl, _, by decide, Tryz.sizeOf22⟩
instance : TyF Tryz.prog 85 1 1 := ⟨_, _, Tryz.underlying85, rfl, rfl, _, by decide, Tryz.sizeOf3⟩
instance : TyF Tryz.prog 85 2 2 := ⟨_, _, Tryz.underlying85, rfl, rfl, _, by decide, Tryz.sizeOf83⟩
instance : TyI Tryz.prog 86 false (.nilFunc) 1 8 := ⟨Tryz.isAgg86, Tryz.t86, Tryz.type86, rfl, rfl, rfl⟩
instance : TyI Tryz.prog 87 false (.nilFunc) 1 8 := ⟨Tryz.isAgg87, Tryz.t87, Tryz.type87, rfl, rfl, rfl⟩
instance : TyI Tryz.prog 88 false (.nilFunc) 1 8 := ⟨Tryz.isAgg88, Tryz.t88, Tryz.type88, rfl, rfl, rfl⟩
instance : TyI Tryz.prog 89 false (.nilFunc) 1 8 := ⟨Tryz.isAgg89, Tryz.t89, Tryz.type89, rfl, rfl, rfl⟩
instance : TyI Tryz.prog 90 false (.nilFunc) 1 8 := ⟨Tryz.isAgg90, Tryz.t90, Tryz.type90, rfl, rfl, rfl⟩
instance : TyI Tryz.prog 91 false (.nilFunc) 1 8 := ⟨Tryz.isAgg91, Tryz.t91, Tryz.type91, rfl, rfl, rfl⟩
instance : TyI Tryz.prog 92 false (.nilFunc) 1 8 := ⟨Tryz.isAgg92, Tryz.t92, Tryz.type92, rfl, rfl, rfl⟩
instance : TyI Tryz.prog 93 false (.nilFunc) 1 8 := ⟨Tryz.isAgg93, Tryz.t93, Tryz.type93, rfl, rfl, rfl⟩
instance : TyI Tryz.prog 94 false (.nilFunc) 1 8 := ⟨Tryz.isAgg94, Tryz.t94, Tryz.type94, rfl, rfl, rfl⟩
instance : TyI Tryz.prog 95 false (.nilFunc) 1 8 := ⟨Tryz.isAgg95, Tryz.t95, Tryz.type95, rfl, rfl, rfl⟩
instance : TyI Tryz.prog 96 false (.nilFunc) 1 8 := ⟨Tryz.isAgg96, Tryz.t96, Tryz.type96, rfl, rfl, rfl⟩
instance : TyI Tryz.prog 97 false (.nilFunc) 1 8 := ⟨Tryz.isAgg97, Tryz.t97, Tryz.type97, rfl, rfl, rfl⟩
instance : TyU Tryz.prog 98 (.slice 105) := ⟨Tryz.underlying98⟩
instance : TyI Tryz.prog 98 false (.slice none 0 0) 1 24 := ⟨Tryz.isAgg98, Tryz.t98, Tryz.type98, rfl, rfl, rfl⟩
instance : TyI Tryz.prog 99 false (.tuple #[.slice none 0 0, .int .i64 0, .int .i64 0]) 1 0 := ⟨Tryz.isAgg99, Tryz.t99, Tryz.type99, rfl, rfl, rfl⟩
instance : TyI Tryz.prog 100 false (.nilFunc) 1 8 := ⟨Tryz.isAgg100, Tryz.t100, Tryz.type100, rfl, rfl, rfl⟩
instance : TyI Tryz.prog 101 false (.nilFunc) 1 8 := ⟨Tryz.isAgg101, Tryz.t101, Tryz.type101, rfl, rfl, rfl⟩
instance : TyI Tryz.prog 102 false (.nilFunc) 1 8 := ⟨Tryz.isAgg102, Tryz.t102, Tryz.type102, rfl, rfl, rfl⟩
instance : TyI Tryz.prog 103 false (.nilFunc) 1 8 := ⟨Tryz.isAgg103, Tryz.t103, Tryz.type103, rfl, rfl, rfl⟩
instance : TyI Tryz.prog 104 true (.agg #[.int .i64 0, .int .i64 0]) 2 16 := ⟨Tryz.isAgg104, Tryz.t104, Tryz.type104, rfl, rfl, rfl⟩
instance : TyB Tryz.prog 104 [(0, 1), (1, 1)] [.int .i64 0, .int .i64 0] := tyB_mk Tryz.underlying104 (.cons rfl Tryz.sizeOf3 ( .cons rfl Tryz.sizeOf3 (.nil))) (fun w => TyI.zeroValue inferInstance w) rfl
instance : TyG Tryz.prog 104 0 0 false 1 := ⟨_, _, Tryz.underlying104, rfl, rfl, Tryz.isAgg3, Tryz.sizeOf3⟩
instance : TyG Tryz.prog 104 1 1 false 1 := ⟨_, _, Tryz.underlying104, rfl, rfl, Tryz.isAgg3, Tryz.sizeOf3⟩
instance : TyF Tryz.prog 104 0 0 := ⟨_, _, Tryz.underlying104, rfl, rfl, _, by decide, Tryz.sizeOf3⟩
instance : TyF Tryz.prog 104 1 1 := ⟨_, _, Tryz.underlying104, rfl, rfl, _, by decide, Tryz.sizeOf3⟩
instance : TyI Tryz.prog 105 true (.agg #[.int .i64 0, .int .i64 0]) 2 16 := ⟨Tryz.isAgg105, Tryz.t105, Tryz.type105, rfl, rfl, rfl⟩
instance : TyB Tryz.prog 105 [(0, 1), (1, 1)] [.int .i64 0, .int .i64 0] := tyB_mk Tryz.underlying105 (.cons rfl Tryz.sizeOf3 ( .cons rfl Tryz.sizeOf3 (.nil))) (fun w => TyI.zeroValue inferInstance w) rfl
instance : TyG Tryz.prog 105 0 0 false 1 := ⟨_, _, Tryz.underlying105, rfl, rfl, Tryz.isAgg3, Tryz.sizeOf3⟩
instance : TyG Tryz.prog 105 1 1 false 1 := ⟨_, _, Tryz.underlying105, rfl, rfl, Tryz.isAgg3, Tryz.sizeOf3⟩
instance : TyF Tryz.prog 105 0 0 := ⟨_, _, Tryz.underlying105, rfl, rfl, _, by decide, Tryz.sizeOf3⟩
instance : TyF Tryz.prog 105 1 1 := ⟨_, _, Tryz.underlying105, rfl, rfl, _, by decide, Tryz.sizeOf3⟩
instance : TyI Tryz.prog 106 false (.nilFunc) 1 8 := ⟨Tryz.isAgg106, Tryz.t106, Tryz.type106, rfl, rfl, rfl⟩
instance : TyI Tryz.prog 107 false (.nilFunc) 1 8 := ⟨Tryz.isAgg107, Tryz.t107, Tryz.type107, rfl, rfl, rfl⟩
instance : TyI Tryz.prog 108 false (.nilFunc) 1 8 := ⟨Tryz.isAgg108, Tryz.t108, Tryz.type108, rfl, rfl, rfl⟩
instance : TyI Tryz.prog 109 false (.nilFunc) 1 8 := ⟨Tryz.isAgg109, Tryz.t109, Tryz.type109, rfl, rfl, rfl⟩
instance : TyI Tryz.prog 110 false (.nilFunc) 1 8 := ⟨Tryz.isAgg110, Tryz.t110, Tryz.type110, rfl, rfl, rfl⟩
instance : TyI Tryz.prog 111 false (.nilFunc) 1 8 := ⟨Tryz.isAgg111, Tryz.t111, Tryz.type111, rfl, rfl, rfl⟩
instance : TyU Tryz.prog 112 (.pointer 132) := ⟨Tryz.underlying112⟩
instance : TyI Tryz.prog 112 false (.pointer none) 1 8 := ⟨Tryz.isAgg112, Tryz.t112, Tryz.type112, rfl, rfl, rfl⟩
instance : TyI Tryz.prog 113 false (.tuple #[.pointer none, .int .i64 0]) 1 0 := ⟨Tryz.isAgg113, Tryz.t113, Tryz.type113, rfl, rfl, rfl⟩
instance : TyI Tryz.prog 114 false (.nilFunc) 1 8 := ⟨Tryz.isAgg114, Tryz.t114, Tryz.type114, rfl, rfl, rfl⟩
instance : TyI Tryz.prog 115 false (.nilFunc) 1 8 := ⟨Tryz.isAgg115, Tryz.t115, Tryz.type115, rfl, rfl, rfl⟩
instance : TyI Tryz.prog 116 true (.agg #[.nilFunc]) 1 8 := ⟨Tryz.isAgg116, Tryz.t116, Tryz.type116, rfl, rfl, rfl⟩
instance : TyB Tryz.prog 116 [(0, 1)] [.nilFunc] := tyB_mk Tryz.underlying116 (.cons rfl Tryz.sizeOf48 (.nil)) (fun w => TyI.zeroValue inferInstance w) rfl
instance : TyG Tryz.prog 116 0 0 false 1 := ⟨_, _, Tryz.underlying116, rfl, rfl, Tryz.isAgg48, Tryz.sizeOf48⟩
instance : TyF Tryz.prog 116 0 0 := ⟨_, _, Tryz.underlying116, rfl, rfl, _, by decide, Tryz.sizeOf48⟩
instance : TyI Tryz.prog 117 true (.agg #[.nilFunc]) 1 8 := ⟨Tryz.isAgg117, Tryz.t117, Tryz.type117, rfl, rfl, rfl⟩
instance : TyB Tryz.prog 117 [(0, 1)] [.nilFunc] := tyB_mk Tryz.underlying117 (.cons rfl Tryz.sizeOf48 (.nil)) (fun w => TyI.zeroValue inferInstance w) rfl
instance : TyG Tryz.prog 117 0 0 false 1 := ⟨_, _, Tryz.underlying117, rfl, rfl, Tryz.isAgg48, Tryz.sizeOf48⟩
instance : TyF Tryz.prog 117 0 0 := ⟨_, _, Tryz.underlying117, rfl, rfl, _, by decide, Tryz.sizeOf48⟩
instance : TyI Tryz.prog 118 false (.nilFunc) 1 8 := ⟨Tryz.isAgg118, Tryz.t118, Tryz.type118, rfl, rfl, rfl⟩
instance : TyU Tryz.prog 119 (.map 3 3) := ⟨Tryz.underlying119⟩
instance : TyI Tryz.prog 119 false (.map none) 1 8 := ⟨Tryz.isAgg119, Tryz.t119, Tryz.type119, rfl, rfl, rfl⟩
instance : TyI Tryz.prog 120 false (.tuple #[.int .i64 0, .bool false]) 1 0 := ⟨Tryz.isAgg120, Tryz.t120, Tryz.type120, rfl, rfl, rfl⟩
instance : TyI Tryz.prog 121 false (.nilFunc) 1 8 := ⟨Tryz.isAgg121, Tryz.t121, Tryz.type121, rfl, rfl, rfl⟩
instance : TyI Tryz.prog 122 false (.nilFunc) 1 8 := ⟨Tryz.isAgg122, Tryz.t122, Tryz.type122, rfl, rfl, rfl⟩
instance : TyI Tryz.prog 123 false (.nilFunc) 1 8 := ⟨Tryz.isAgg123, Tryz.t123, Tryz.type123, rfl, rfl, rfl⟩
instance : TyU Tryz.prog 124 (.int .u64) := ⟨Tryz.underlying124⟩
instance : TyI Tryz.prog 124 false (.int .u64 0) 1 8 := ⟨Tryz.isAgg124, Tryz.t124, Tryz.type124, rfl, rfl, rfl⟩
instance : TyI Tryz.prog 125 false (.nilFunc) 1 8 := ⟨Tryz.isAgg125, Tryz.t125, Tryz.type125, rfl, rfl, rfl⟩
instance : TyI Tryz.prog 126 false (.tuple #[.slice none 0 0, .int .i64 0]) 1 0 := ⟨Tryz.isAgg126, Tryz.t126, Tryz.type126, rfl, rfl, rfl⟩
instance : TyI Tryz.prog 127 false (.nilFunc) 1 8 := ⟨Tryz.isAgg127, Tryz.t127, Tryz.type127, rfl, rfl, rfl⟩
instance : TyI Tryz.prog 128 false (.nilFunc) 1 8 := ⟨Tryz.isAgg128, Tryz.t128, Tryz.type128, rfl, rfl, rfl⟩
instance : TyU Tryz.prog 129 (.array 10 3) := ⟨Tryz.underlying129⟩
instance : TyI Tryz.prog 129 true (.agg #[.int .i64 0, .int .i64 0, .int .i64 0, .int .i64 0, .int .i64 0, .int .i64 0, .int .i64 0, .int .i64 0, .int .i64 0, .int .i64 0]) 10 80 := ⟨Tryz.isAgg129, Tryz.t129, Tryz.type129, rfl, rfl, rfl⟩
instance : TyU Tryz.prog 130 (.array 10 3) := ⟨Tryz.underlying130⟩
instance : TyI Tryz.prog 130 true (.agg #[.int .i64 0, .int .i64 0, .int .i64 0, .int .i64 0, .int .i64 0, .int .i64 0, .int .i64 0, .int .i64 0, .int .i64 0, .int .i64 0]) 10 80 := ⟨Tryz.isAgg130, Tryz.t130, Tryz.type130, rfl, rfl, rfl⟩
instance : TyI Tryz.prog 131 true (.agg #[.int .i64 0, .int .i64 0, .slice none 0 0, .slice none 0 0, .slice none 0 0, .slice none 0 0, .slice none 0 0, .int .i64 0, .int .i64 0, .int .i64 0, .int .i64 0, .int .i64 0, .int .i64 0, .int .i64 0, .int .i64 0, .int .i64 0, .int .i64 0]) 17 216 := ⟨Tryz.isAgg131, Tryz.t131, Tryz.type131, rfl, rfl, rfl⟩
instance : TyB Tryz.prog 131 [(0, 7), (7, 10)] [.int .i64 0, .int .i64 0, .slice none 0 0, .slice none 0 0, .slice none 0 0, .slice none 0 0, .slice none 0 0, .int .i64 0, .int .i64 0, .int .i64 0, .int .i64 0, .int .i64 0, .int .i64 0, .int .i64 0, .int .i64 0, .int .i64 0, .int .i64 0] := tyB_mk Tryz.underlying131 (.cons rfl Tryz.sizeOf74 ( .cons rfl Tryz.sizeOf130 (.nil))) (fun w => TyI.zeroValue inferInstance w) rfl
instance : TyG Tryz.prog 131 0 0 true 7 := ⟨_, _, Tryz.underlying131, rfl, rfl, Tryz.isAgg74, Tryz.sizeOf74⟩
instance : TyG Tryz.prog 131 1 7 true 10 := ⟨_, _, Tryz.underlying131, rfl, rfl, Tryz.isAgg130, Tryz.sizeOf130⟩
instance : TyF Tryz.prog 131 0 0 := ⟨_, _, Tryz.underlying131, rfl, rfl, _, by decide, Tryz.sizeOf74⟩
instance : TyF Tryz.prog 131 1 7 := ⟨_, _, Tryz.underlying131, rfl, rfl, _, by decide, Tryz.sizeOf130⟩
instance : TyI Tryz.prog 132 true (.agg #[.int .i64 0, .int .i64 0, .slice none 0 0, .slice none 0 0, .slice none 0 0, .slice none 0 0, .slice none 0 0, .int .i64 0, .int .i64 0, .int .i64 0, .int .i64 0, .int .i64 0, .int .i64 0, .int .i64 0, .int .i64 0, .int .i64 0, .int .i64 0]) 17 216 := ⟨Tryz.isAgg132, Tryz.t132, Tryz.type132, rfl, rfl, rfl⟩
instance : TyB Tryz.prog 132 [(0, 7), (7, 10)] [.int .i64 0, .int .i64 0, .slice none 0 0, .slice none 0 0, .slice none 0 0, .slice none 0 0, .slice none 0 0, .int .i64 0, .int .i64 0, .int .i64 0, .int .i64 0, .int .i64 0, .int .i64 0, .int .i64 0, .int .i64 0, .int .i64 0, .int .i64 0] := tyB_mk Tryz.underlying132 (.cons rfl Tryz.sizeOf74 ( .cons rfl Tryz.sizeOf130 (.nil))) (fun w => TyI.zeroValue inferInstance w) rfl
instance : TyG Tryz.prog 132 0 0 true 7 := ⟨_, _, Tryz.underlying132, rfl, rfl, Tryz.isAgg74, Tryz.sizeOf74⟩
instance : TyG Tryz.prog 132 1 7 true 10 := ⟨_, _, Tryz.underlying132, rfl, rfl, Tryz.isAgg130, Tryz.sizeOf130⟩
instance : TyF Tryz.prog 132 0 0 := ⟨_, _, Tryz.underlying132, rfl, rfl, _, by decide, Tryz.sizeOf74⟩
instance : TyF Tryz.prog 132 1 7 := ⟨_, _, Tryz.underlying132, rfl, rfl, _, by decide, Tryz.sizeOf130⟩
instance : TyI Tryz.prog 133 false (.nilFunc) 1 8 := ⟨Tryz.isAgg133, Tryz.t133, Tryz.type133, rfl, rfl, rfl⟩
instance : TyI Tryz.prog 134 false (.nilFunc) 1 8 := ⟨Tryz.isAgg134, Tryz.t134, Tryz.type134, rfl, rfl, rfl⟩
instance : TyI Tryz.prog 135 false (.nilFunc) 1 8 := ⟨Tryz.isAgg135, Tryz.t135, Tryz.type135, rfl, rfl, rfl⟩
instance : TyI Tryz.prog 136 false (.nilFunc) 1 8 := ⟨Tryz.isAgg136, Tryz.t136, Tryz.type136, rfl, rfl, rfl⟩
instance : TyI Tryz.prog 137 false (.nilFunc) 1 8 := ⟨Tryz.isAgg137, Tryz.t137, Tryz.type137, rfl, rfl, rfl⟩
instance : TyI Tryz.prog 138 false (.nilFunc) 1 8 := ⟨Tryz.isAgg138, Tryz.t138, Tryz.type138, rfl, rfl, rfl⟩
instance : TyI Tryz.prog 139 false (.nilFunc) 1 8 := ⟨Tryz.isAgg139, Tryz.t139, Tryz.type139, rfl, rfl, rfl⟩
instance : TyI Tryz.prog 140 false (.nilFunc) 1 8 := ⟨Tryz.isAgg140, Tryz.t140, Tryz.type140, rfl, rfl, rfl⟩
instance : TyI Tryz.prog 141 false (.nilFunc) 1 8 := ⟨Tryz.isAgg141, Tryz.t141, Tryz.type141, rfl, rfl, rfl⟩
instance : TyI Tryz.prog 142 false (.nilFunc) 1 8 := ⟨Tryz.isAgg142, Tryz.t142, Tryz.type142, rfl, rfl, rfl⟩
instance : TyI Tryz.prog 143 false (.nilFunc) 1 8 := ⟨Tryz.isAgg143, Tryz.t143, Tryz.type143, rfl, rfl, rfl⟩
instance : TyI Tryz.prog 144 false (.nilFunc) 1 8 := ⟨Tryz.isAgg144, Tryz.t144, Tryz.type144, rfl, rfl, rfl⟩
instance : TyI Tryz.prog 145 false (.nilFunc) 1 8 := ⟨Tryz.isAgg145, Tryz.t145, Tryz.type145, rfl, rfl, rfl⟩
instance : TyI Tryz.prog 146 false (.nilFunc) 1 8 := ⟨Tryz.isAgg146, Tryz.t146, Tryz.type146, rfl, rfl, rfl⟩
instance : TyI Tryz.prog 147 false (.nilFunc) 1 8 := ⟨Tryz.isAgg147, Tryz.t147, Tryz.type147, rfl, rfl, rfl⟩
instance : TyU Tryz.prog 148 (.int .i64) := ⟨Tryz.underlying148⟩
instance : TyI Tryz.prog 148 false (.int .i64 0) 1 8 := ⟨Tryz.isAgg148, Tryz.t148, Tryz.type148, rfl, rfl, rfl⟩
instance : TyI Tryz.prog 149 false (.tuple #[.int .i64 0, .int .i64 0]) 1 0 := ⟨Tryz.isAgg149, Tryz.t149, Tryz.type149, rfl, rfl, rfl⟩
instance : TyI Tryz.prog 150 false (.nilFunc) 1 8 := ⟨Tryz.isAgg150, Tryz.t150, Tryz.type150, rfl, rfl, rfl⟩
instance : TyI Tryz.prog 151 false (.nilFunc) 1 8 := ⟨Tryz.isAgg151, Tryz.t151, Tryz.type151, rfl, rfl, rfl⟩
instance : TyI Tryz.prog 152 false (.nilFunc) 1 8 := ⟨Tryz.isAgg152, Tryz.t152, Tryz.type152, rfl, rfl, rfl⟩
instance : TyI Tryz.prog 153 false (.nilFunc) 1 8 := ⟨Tryz.isAgg153, Tryz.t153, Tryz.type153, rfl, rfl, rfl⟩
instance : TyI Tryz.prog 154 false (.nilFunc) 1 8 := ⟨Tryz.isAgg154, Tryz.t154, Tryz.type154, rfl, rfl, rfl⟩
instance : TyI Tryz.prog 155 false (.nilFunc) 1 8 := ⟨Tryz.isAgg155, Tryz.t155, Tryz.type155, rfl, rfl, rfl⟩
instance : TyU Tryz.prog 156 (.int .u64) := ⟨Tryz.underlying156⟩
instance : TyI Tryz.prog 156 false (.int .u64 0) 1 8 := ⟨Tryz.isAgg156, Tryz.t156, Tryz.type156, rfl, rfl, rfl⟩
instance : TyI Tryz.prog 157 false (.nilFunc) 1 8 := ⟨Tryz.isAgg157, Tryz.t157, Tryz.type157, rfl, rfl, rfl⟩
instance : TyI Tryz.prog 158 false (.nilFunc) 1 8 := ⟨Tryz.isAgg158, Tryz.t158, Tryz.type158, rfl, rfl, rfl⟩
instance : TyI Tryz.prog 159 false (.nilFunc) 1 8 := ⟨Tryz.isAgg159, Tryz.t159, Tryz.type159, rfl, rfl, rfl⟩
instance : TyU Tryz.prog 160 (.int .u64) := ⟨Tryz.underlying160⟩
instance : TyI Tryz.prog 160 false (.int .u64 0) 1 8 := ⟨Tryz.isAgg160, Tryz.t160, Tryz.type160, rfl, rfl, rfl⟩
instance : TyI Tryz.prog 161 false (.nilFunc) 1 8 := ⟨Tryz.isAgg161, Tryz.t161, Tryz.type161, rfl, rfl, rfl⟩
instance : TyI Tryz.prog 162 false (.nilFunc) 1 8 := ⟨Tryz.isAgg162, Tryz.t162, Tryz.type162, rfl, rfl, rfl⟩
instance : TyI Tryz.prog 163 false (.nilFunc) 1 8 := ⟨Tryz.isAgg163, Tryz.t163, Tryz.type163, rfl, rfl, rfl⟩
instance : TyU Tryz.prog 164 (.pointer 3) := ⟨Tryz.underlying164⟩
instance : TyI Tryz.prog 164 false (.pointer none) 1 8 := ⟨Tryz.isAgg164, Tryz.t164, Tryz.type164, rfl, rfl, rfl⟩
instance : TyI Tryz.prog 165 false (.nilFunc) 1 8 := ⟨Tryz.isAgg165, Tryz.t165, Tryz.type165, rfl, rfl, rfl⟩
instance : TyU Tryz.prog 166 (.pointer 160) := ⟨Tryz.underlying166⟩
instance : TyI Tryz.prog 166 false (.pointer none) 1 8 := ⟨Tryz.isAgg166, Tryz.t166, Tryz.type166, rfl, rfl, rfl⟩
instance : TyI Tryz.prog 167 false (.tuple #[.int .i64 0, .int .i64 0]) 1 0 := ⟨Tryz.isAgg167, Tryz.t167, Tryz.type167, rfl, rfl, rfl⟩
instance : TyI Tryz.prog 168 false (.nilFunc) 1 8 := ⟨Tryz.isAgg168, Tryz.t168, Tryz.type168, rfl, rfl, rfl⟩
instance : TyI Tryz.prog 169 false (.nilFunc) 1 8 := ⟨Tryz.isAgg169, Tryz.t169, Tryz.type169, rfl, rfl, rfl⟩
instance : TyI Tryz.prog 170 true (.agg #[.pointer none, .pointer none, .pointer none, .string .empty]) 4 40 := ⟨Tryz.isAgg170, Tryz.t170, Tryz.type170, rfl, rfl, rfl⟩
instance : TyB Tryz.prog 170 [(0, 1), (1, 1), (2, 1), (3, 1)] [.pointer none, .pointer none, .pointer none, .string .empty] := tyB_mk Tryz.underlying170 (.cons rfl Tryz.sizeOf17 ( .cons rfl Tryz.sizeOf17 ( .cons rfl Tryz.sizeOf17 ( .cons rfl Tryz.sizeOf9 (.nil))))) (fun w => TyI.zeroValue inferInstance w) rfl
instance : TyG Tryz.prog 170 0 0 false 1 := ⟨_, _, Tryz.underlying170, rfl, rfl, Tryz.isAgg17, Tryz.sizeOf17⟩
instance : TyG Tryz.prog 170 1 1 false 1 := ⟨_, _, Tryz.underlying170, rfl, rfl, Tryz.isAgg17, Tryz.sizeOf17⟩
instance : TyG Tryz.prog 170 2 2 false 1 := ⟨_, _, Tryz.underlying170, rfl, rfl, Tryz.isAgg17, Tryz.sizeOf17⟩
instance : TyG Tryz.prog 170 3 3 false 1 := ⟨_, _, Tryz.underlying170, rfl, rfl, Tryz.isAgg9, Tryz.sizeOf9⟩
instance : TyF Tryz.prog 170 0 0 := ⟨_, _, Tryz.underlying170, rfl, rfl, _, by decide, Tryz.sizeOf17⟩
instance : TyF Tryz.prog 170 1 1 := ⟨_, _, Tryz.underlying170, rfl, rfl, _, by decide, Tryz.sizeOf17⟩
instance : TyF Tryz.prog 170 2 2 := ⟨_, _, Tryz.underlying170, rfl, rfl, _, by decide, Tryz.sizeOf17⟩
instance : TyF Tryz.prog 170 3 3 := ⟨_, _, Tryz.underlying170, rfl, rfl, _, by decide, Tryz.sizeOf9⟩
instance : TyI Tryz.prog 171 true (.agg #[.pointer none, .pointer none, .pointer none, .string .empty]) 4 40 := ⟨Tryz.isAgg171, Tryz.t171, Tryz.type171, rfl, rfl, rfl⟩
instance : TyB Tryz.prog 171 [(0, 1), (1, 1), (2, 1), (3, 1)] [.pointer none, .pointer none, .pointer none, .string .empty] := tyB_mk Tryz.underlying171 (.cons rfl Tryz.sizeOf17 ( .cons rfl Tryz.sizeOf17 ( .cons rfl Tryz.sizeOf17 ( .cons rfl Tryz.sizeOf9 (.nil))))) (fun w => TyI.zeroValue inferInstance w) rfl
instance : TyG Tryz.prog 171 0 0 false 1 := ⟨_, _, Tryz.underlying171, rfl, rfl, Tryz.isAgg17, Tryz.sizeOf17⟩
instance : TyG Tryz.prog 171 1 1 false 1 := ⟨_, _, Tryz.underlying171, rfl, rfl, Tryz.isAgg17, Tryz.sizeOf17⟩
instance : TyG Tryz.prog 171 2 2 false 1 := ⟨_, _, Tryz.underlying171, rfl, rfl, Tryz.isAgg17, Tryz.sizeOf17⟩
instance : TyG Tryz.prog 171 3 3 false 1 := ⟨_, _, Tryz.underlying171, rfl, rfl, Tryz.isAgg9, Tryz.sizeOf9⟩
instance : TyF Tryz.prog 171 0 0 := ⟨_, _, Tryz.underlying171, rfl, rfl, _, by decide, Tryz.sizeOf17⟩
instance : TyF Tryz.prog 171 1 1 := ⟨_, _, Tryz.underlying171, rfl, rfl, _, by decide, Tryz.sizeOf17⟩
instance : TyF Tryz.prog 171 2 2 := ⟨_, _, Tryz.underlying171, rfl, rfl, _, by decide, Tryz.sizeOf17⟩
instance : TyF Tryz.prog 171 3 3 := ⟨_, _, Tryz.underlying171, rfl, rfl, _, by decide, Tryz.sizeOf9⟩
instance : TyU Tryz.prog 172 (.array 0 16) := ⟨Tryz.underlying172⟩
instance : TyI Tryz.prog 172 true (.agg #[]) 0 0 := ⟨Tryz.isAgg172, Tryz.t172, Tryz.type172, rfl, rfl, rfl⟩
instance : TyI Tryz.prog 173 true (.agg #[]) 0 0 := ⟨Tryz.isAgg173, Tryz.t173, Tryz.type173, rfl, rfl, rfl⟩
instance : TyB Tryz.prog 173 [(0, 0)] [] := tyB_mk Tryz.underlying173 (.cons rfl Tryz.sizeOf172 (.nil)) (fun w => TyI.zeroValue inferInstance w) rfl
instance : TyG Tryz.prog 173 0 0 true 0 := ⟨_, _, Tryz.underlying173, rfl, rfl, Tryz.isAgg172, Tryz.sizeOf172⟩
instance : TyI Tryz.prog 174 true (.agg #[]) 0 0 := ⟨Tryz.isAgg174, Tryz.t174, Tryz.type174, rfl, rfl, rfl⟩
instance : TyB Tryz.prog 174 [(0, 0)] [] := tyB_mk Tryz.underlying174 (.cons rfl Tryz.sizeOf172 (.nil)) (fun w => TyI.zeroValue inferInstance w) rfl
instance : TyG Tryz.prog 174 0 0 true 0 := ⟨_, _, Tryz.underlying174, rfl, rfl, Tryz.isAgg172, Tryz.sizeOf172⟩
instance : TyU Tryz.prog 175 (.int .u8) := ⟨Tryz.underlying175⟩
instance : TyI Tryz.prog 175 false (.int .u8 0) 1 1 := ⟨Tryz.isAgg175, Tryz.t175, Tryz.type175, rfl, rfl, rfl⟩
instance : TyU Tryz.prog 176 (.int .u8) := ⟨Tryz.underlying176⟩
instance : TyI Tryz.prog 176 false (.int .u8 0) 1 1 := ⟨Tryz.isAgg176, Tryz.t176, Tryz.type176, rfl, rfl, rfl⟩
instance : TyI Tryz.prog 177 false (.nilFunc) 1 8 := ⟨Tryz.isAgg177, Tryz.t177, Tryz.type177, rfl, rfl, rfl⟩
instance : TyU Tryz.prog 178 (.pointer 5) := ⟨Tryz.underlying178⟩
instance : TyI Tryz.prog 178 false (.pointer none) 1 8 := ⟨Tryz.isAgg178, Tryz.t178, Tryz.type178, rfl, rfl, rfl⟩
instance : TyU Tryz.prog 179 (.int .i32) := ⟨Tryz.underlying179⟩
instance : TyI Tryz.prog 179 false (.int .i32 0) 1 4 := ⟨Tryz.isAgg179, Tryz.t179, Tryz.type179, rfl, rfl, rfl⟩
instance : TyU Tryz.prog 180 (.int .i32) := ⟨Tryz.underlying180⟩
instance : TyI Tryz.prog 180 false (.int .i32 0) 1 4 := ⟨Tryz.isAgg180, Tryz.t180, Tryz.type180, rfl, rfl, rfl⟩
instance : Ent Tryz.prog 3 := ⟨Tryz.call3⟩
instance : Ent Tryz.prog 4 := ⟨Tryz.call4⟩
instance : Ent Tryz.prog 5 := ⟨Tryz.call5⟩
instance : Ent Tryz.prog 6 := ⟨Tryz.call6⟩
instance : Ent Tryz.prog 7 := ⟨Tryz.call7⟩
instance : Ent Tryz.prog 8 := ⟨Tryz.call8⟩
instance : Ent Tryz.prog 9 := ⟨Tryz.call9⟩
instance : Ent Tryz.prog 10 := ⟨Tryz.call10⟩
instance : Ent Tryz.prog 11 := ⟨Tryz.call11⟩
instance : Ent Tryz.prog 12 := ⟨Tryz.call12⟩
instance : Ent Tryz.prog 13 := ⟨Tryz.call13⟩
instance : Ent Tryz.prog 14 := ⟨Tryz.call14⟩
instance : Ent Tryz.prog 15 := ⟨Tryz.call15⟩
instance : Ent Tryz.prog 16 := ⟨Tryz.call16⟩
instance : Ent Tryz.prog 17 := ⟨Tryz.call17⟩
instance : Ent Tryz.prog 18 := ⟨Tryz.call18⟩
instance : Ent Tryz.prog 19 := ⟨Tryz.call19⟩
instance : Ent Tryz.prog 20 := ⟨Tryz.call20⟩
instance : Ent Tryz.prog 21 := ⟨Tryz.call21⟩
instance : Ent Tryz.prog 22 := ⟨Tryz.call22⟩
instance : Ent Tryz.prog 23 := ⟨Tryz.call23⟩
instance : Ent Tryz.prog 24 := ⟨Tryz.call24⟩
instance : Ent Tryz.prog 25 := ⟨Tryz.call25⟩
instance : Ent Tryz.prog 26 := ⟨Tryz.call26⟩
instance : Ent Tryz.prog 27 := ⟨Tryz.call27⟩
instance : Ent Tryz.prog 28 := ⟨Tryz.call28⟩
instance : Ent Tryz.prog 29 := ⟨Tryz.call29⟩
instance : Ent Tryz.prog 30 := ⟨Tryz.call30⟩
instance : Ent Tryz.prog 31 := ⟨Tryz.call31⟩
instance : Ent Tryz.prog 32 := ⟨Tryz.call32⟩
instance : Ent Tryz.prog 33 := ⟨Tryz.call33⟩
instance : Ent Tryz.prog 34 := ⟨Tryz.call34⟩
instance : Ent Tryz.prog 35 := ⟨Tryz.call35⟩
instance : Ent Tryz.prog 36 := ⟨Tryz.call36⟩
instance : Ent Tryz.prog 37 := ⟨Tryz.call37⟩
instance : Ent Tryz.prog 38 := ⟨Tryz.call38⟩
instance : Ent Tryz.prog 39 := ⟨Tryz.call39⟩
instance : Ent Tryz.prog 40 := ⟨Tryz.call40⟩
instance : Ent Tryz.prog 41 := ⟨Tryz.call41⟩
instance : Ent Tryz.prog 42 := ⟨Tryz.call42⟩
instance : Ent Tryz.prog 43 := ⟨Tryz.call43⟩
instance : Ent Tryz.prog 44 := ⟨Tryz.call44⟩
instance : Ent Tryz.prog 45 := ⟨Tryz.call45⟩
instance : Ent Tryz.prog 46 := ⟨Tryz.call46⟩
instance : Ent Tryz.prog 47 := ⟨Tryz.call47⟩
instance : Ent Tryz.prog 48 := ⟨Tryz.call48⟩
instance : Ent Tryz.prog 49 := ⟨Tryz.call49⟩
instance : Ent Tryz.prog 50 := ⟨Tryz.call50⟩
instance : Ent Tryz.prog 51 := ⟨Tryz.call51⟩
instance : Ent Tryz.prog 52 := ⟨Tryz.call52⟩
instance : Ent Tryz.prog 53 := ⟨Tryz.call53⟩
instance : Ent Tryz.prog 54 := ⟨Tryz.call54⟩
instance : Ent Tryz.prog 55 := ⟨Tryz.call55⟩
instance : Ent Tryz.prog 56 := ⟨Tryz.call56⟩
instance : Ent Tryz.prog 57 := ⟨Tryz.call57⟩
instance : Ent Tryz.prog 58 := ⟨Tryz.call58⟩
instance : Ent Tryz.prog 59 := ⟨Tryz.call59⟩
instance : Ent Tryz.prog 60 := ⟨Tryz.call60⟩
instance : Ent Tryz.prog 61 := ⟨Tryz.call61⟩
instance : Ent Tryz.prog 62 := ⟨Tryz.call62⟩
instance : Ent Tryz.prog 63 := ⟨Tryz.call63⟩
instance : Ent Tryz.prog 64 := ⟨Tryz.call64⟩
instance : Ent Tryz.prog 65 := ⟨Tryz.call65⟩
instance : Ent Tryz.prog 66 := ⟨Tryz.call66⟩
instance : Ent Tryz.prog 67 := ⟨Tryz.call67⟩
instance : Ent Tryz.prog 68 := ⟨Tryz.call68⟩
instance : Ent Tryz.prog 69 := ⟨Tryz.call69⟩
instance : Ent Tryz.prog 70 := ⟨Tryz.call70⟩
instance : Ent Tryz.prog 71 := ⟨Tryz.call71⟩
instance : Ent Tryz.prog 72 := ⟨Tryz.call72⟩
instance : Ent Tryz.prog 73 := ⟨Tryz.call73⟩
instance : Ent Tryz.prog 74 := ⟨Tryz.call74⟩
instance : Ent Tryz.prog 75 := ⟨Tryz.call75⟩
instance : Ent Tryz.prog 76 := ⟨Tryz.call76⟩
instance : Ent Tryz.prog 77 := ⟨Tryz.call77⟩
instance : Ent Tryz.prog 78 := ⟨Tryz.call78⟩
instance : Ent Tryz.prog 79 := ⟨Tryz.call79⟩
instance : Ent Tryz.prog 80 := ⟨Tryz.call80⟩
instance : Ent Tryz.prog 81 := ⟨Tryz.call81⟩
instance : Ent Tryz.prog 82 := ⟨Tryz.call82⟩
instance : Ent Tryz.prog 83 := ⟨Tryz.call83⟩
instance : Ent Tryz.prog 84 := ⟨Tryz.call84⟩
instance : Ent Tryz.prog 85 := ⟨Tryz.call85⟩
instance : Ent Tryz.prog 86 := ⟨Tryz.call86⟩
instance : Ent Tryz.prog 87 := ⟨Tryz.call87⟩
instance : Ent Tryz.prog 88 := ⟨Tryz.call88⟩
instance : Ent Tryz.prog 89 := ⟨Tryz.call89⟩
instance : Ent Tryz.prog 90 := ⟨Tryz.call90⟩
instance : Ent Tryz.prog 91 := ⟨Tryz.call91⟩
instance : Ent Tryz.prog 92 := ⟨Tryz.call92⟩
instance : Ent Tryz.prog 93 := ⟨Tryz.call93⟩
instance : Ent Tryz.prog 94 := ⟨Tryz.call94⟩
instance : Ent Tryz.prog 95 := ⟨Tryz.call95⟩
instance : Ent Tryz.prog 96 := ⟨Tryz.call96⟩
instance : Ent Tryz.prog 97 := ⟨Tryz.call97⟩
instance : Ent Tryz.prog 98 := ⟨Tryz.call98⟩
instance : Ent Tryz.prog 99 := ⟨Tryz.call99⟩
instance : Ent Tryz.prog 100 := ⟨Tryz.call100⟩
instance : Ent Tryz.prog 101 := ⟨Tryz.call101⟩
instance : Ent Tryz.prog 102 := ⟨Tryz.call102⟩
instance : Ent Tryz.prog 103 := ⟨Tryz.call103⟩
instance : Ent Tryz.prog 104 := ⟨Tryz.call104⟩
instance : Ent Tryz.prog 105 := ⟨Tryz.call105⟩
instance : Ent Tryz.prog 106 := ⟨Tryz.call106⟩
instance : Ent Tryz.prog 107 := ⟨Tryz.call107⟩
instance : Ent Tryz.prog 109 := ⟨Tryz.call109⟩
instance : Ent Tryz.prog 110 := ⟨Tryz.call110⟩
instance : Ent Tryz.prog 111 := ⟨Tryz.call111⟩
instance : Ent Tryz.prog 112 := ⟨Tryz.call112⟩
instance : Ent Tryz.prog 113 := ⟨Tryz.call113⟩
instance : Ent Tryz.prog 114 := ⟨Tryz.call114⟩
instance : Ent Tryz.prog 115 := ⟨Tryz.call115⟩
instance : Ent Tryz.prog 116 := ⟨Tryz.call116⟩
instance : Ent Tryz.prog 117 := ⟨Tryz.call117⟩
instance : Ent Tryz.prog 118 := ⟨Tryz.call118⟩
instance : Ent Tryz.prog 119 := ⟨Tryz.call119⟩
instance : Ent Tryz.prog 120 := ⟨Tryz.call120⟩
instance : Ent Tryz.prog 121 := ⟨Tryz.call121⟩
instance : Ent Tryz.prog 122 := ⟨Tryz.call122⟩
instance : Ent Tryz.prog 123 := ⟨Tryz.call123⟩
instance : Ent Tryz.prog 124 := ⟨Tryz.call124⟩
instance : Ent Tryz.prog 125 := ⟨Tryz.call125⟩
instance : Ent Tryz.prog 126 := ⟨Tryz.call126⟩
instance : Ent Tryz.prog 127 := ⟨Tryz.call127⟩
instance : Ent Tryz.prog 128 := ⟨Tryz.call128⟩
instance : Ent Tryz.prog 129 := ⟨Tryz.call129⟩
instance : Ent Tryz.prog 130 := ⟨Tryz.call130⟩
instance : Ent Tryz.prog 131 := ⟨Tryz.call131⟩
instance : Ent Tryz.prog 132 := ⟨Tryz.call132⟩
instance : Ent Tryz.prog 133 := ⟨Tryz.call133⟩
instance : Ent Tryz.prog 134 := ⟨Tryz.call134⟩
instance : Ent Tryz.prog 135 := ⟨Tryz.call135⟩
instance : Ent Tryz.prog 136 := ⟨Tryz.call136⟩
instance : Ent Tryz.prog 137 := ⟨Tryz.call137⟩
instance : Ent Tryz.prog 138 := ⟨Tryz.call138⟩
instance : Ent Tryz.prog 139 := ⟨Tryz.call139⟩
instance : Ent Tryz.prog 140 := ⟨Tryz.call140⟩
instance : Ent Tryz.prog 141 := ⟨Tryz.call141⟩
instance : Ent Tryz.prog 142 := ⟨Tryz.call142⟩
instance : Ent Tryz.prog 143 := ⟨Tryz.call143⟩
instance : Ent Tryz.prog 144 := ⟨Tryz.call144⟩
instance : Ent Tryz.prog 145 := ⟨Tryz.call145⟩
instance : Ent Tryz.prog 146 := ⟨Tryz.call146⟩
instance : Ent Tryz.prog 147 := ⟨Tryz.call147⟩
instance : Ent Tryz.prog 148 := ⟨Tryz.call148⟩
instance : Ent Tryz.prog 149 := ⟨Tryz.call149⟩
instance : Ent Tryz.prog 150 := ⟨Tryz.call150⟩
instance : Ent Tryz.prog 151 := ⟨Tryz.call151⟩
instance : Ent Tryz.prog 152 := ⟨Tryz.call152⟩
instance : Ent Tryz.prog 153 := ⟨Tryz.call153⟩
instance : Ent Tryz.prog 154 := ⟨Tryz.call154⟩
instance : Ent Tryz.prog 155 := ⟨Tryz.call155⟩
instance : Ent Tryz.prog 156 := ⟨Tryz.call156⟩
theorem mixed : Tryz.prog.follows .mixedOrders = true := by kernel_rfl
end Go.Proofs.YtmhfhfhdblccjaaGreat
/-
  An own logic over the kit's calculus: sets by bits, shifts, rows of parts, stores of symbolic values, clear.
-/
namespace Go.Proofs.YtmhfhfhdblccjaaGreat
set_option linter.unusedSimpArgs false
open Go Go.RowKit
set_option linter.unusedVariables false

/-- What a value of one cell, or of some, stands for as an element of a row. -/
class ValOf (v : Value) (α : outParam Type) (enc : outParam (Enc α)) (x : outParam α) : Prop where
  out : v.cells = (enc.cells x).toArray
instance (n : Int) : ValOf (.int .i64 n) Int encInt n := ⟨rfl⟩
instance (b : Bool) : ValOf (.bool b) Bool encBool b := ⟨rfl⟩
instance (u : SlV) : ValOf u.v SlV encSl u := ⟨encSl.vc u⟩
instance (a : Option Addr) (n c : Nat) : ValOf (.slice a n c) SlV encSl ⟨.slice a n c, _, _, _, rfl⟩ := ⟨rfl⟩
theorem SlV.sub (u : SlV) (k lo hi : Nat) : ∃ a n c, subsl k u.v lo hi = .slice a n c := by
  obtain ⟨a, n, c, e⟩ := u.is; exact ⟨_, _, _, by rw [e]; rfl⟩
def subu (k : Nat) (u : SlV) (lo hi : Nat) : SlV := ⟨subsl k u.v lo hi, u.sub k lo hi⟩
instance (u : SlV) (k lo hi : Nat) : ValOf (subsl k u.v lo hi) SlV encSl (subu k u lo hi) := ⟨encSl.vc (subu k u lo hi)⟩
instance (L : List SP) (u : SlV) (k lo hi : Nat) : One1 L (subsl k u.v lo hi) := ⟨fun _ _ => by obtain ⟨a, n, c, e⟩ := u.sub k lo hi; rw [e]; rfl⟩
/-- Structs of numbers. -/
instance enc2 : Enc (Int × Int) where
  k := 2
  cells x := [.int .i64 x.1, .int .i64 x.2]
  val x := .agg #[.int .i64 x.1, .int .i64 x.2]
  len _ := rfl
  one x u h := by simp at h; rcases h with h | h <;> subst h <;> rfl
  vc _ := rfl
  pos := by decide
instance enc3 : Enc (Int × Int × Int) where
  k := 3
  cells x := [.int .i64 x.1, .int .i64 x.2.1, .int .i64 x.2.2]
  val x := .agg #[.int .i64 x.1, .int .i64 x.2.1, .int .i64 x.2.2]
  len _ := rfl
  one x u h := by simp at h; rcases h with h | h | h <;> subst h <;> rfl
  vc _ := rfl
  pos := by decide
instance (a b : Int) : ValOf (.agg (List.toArray [.int .i64 a, .int .i64 b])) (Int × Int) enc2 (a, b) := ⟨rfl⟩
instance (a b c : Int) : ValOf (.agg (List.toArray [.int .i64 a, .int .i64 b, .int .i64 c])) (Int × Int × Int) enc3 (a, b, c) := ⟨rfl⟩
instance (α : Type) (enc : Enc α) (x : α) : ValOf (enc.val x) α enc x := ⟨enc.vc x⟩
class ValsOf {α : Type} (enc : Enc α) (i : Nat) (vs : List (Nat × Value)) (xs : outParam (List α)) : Prop where
  out : vs.length = xs.length ∧ ∀ k x, xs[k]? = some x → ∃ v, vs[k]? = some (i + k, v) ∧ v.cells = (enc.cells x).toArray
instance {α : Type} (enc : Enc α) (i : Nat) : ValsOf enc i [] [] := ⟨rfl, fun k x h => by simp at h⟩
instance {α : Type} (enc : Enc α) (i j : Nat) (v : Value) (x : α) (vs : List (Nat × Value)) (xs : List α) [e : Eqn j i] [h : ValOf v α enc x] [t : ValsOf enc (i + 1) vs xs] : ValsOf enc i ((j, v) :: vs) (x :: xs) := ⟨by simp [t.out.1], fun k y hy => by
  have e' := e.out; subst e'
  cases k with
  | zero => simp at hy; subst hy; exact ⟨v, by simp, h.out⟩
  | succ k =>
    simp at hy
    obtain ⟨u, h1, h2⟩ := t.out.2 k y hy
    exact ⟨u, by simp [h1]; omega, h2⟩⟩
class ValsN (i : Nat) (vs : List (Nat × Value)) (α : outParam Type) (enc : outParam (Enc α)) (xs : outParam (List α)) : Prop where
  out : ValsOf enc i vs xs
instance (i j : Nat) (v : Value) (α : Type) (enc : Enc α) (x : α) [e : Eqn j i] [h : ValOf v α enc x] : ValsN i [(j, v)] α enc [x] := ⟨inferInstance⟩
instance (i j : Nat) (v : Value) (α : Type) (enc : Enc α) (x : α) (p : Nat × Value) (vs : List (Nat × Value)) (xs : List α) [e : Eqn j i] [h : ValOf v α enc x] [t : ValsN (i + 1) (p :: vs) α enc xs] : ValsN i ((j, v) :: p :: vs) α enc (x :: xs) := ⟨by haveI := t.out; exact inferInstance⟩
theorem fill_vals {α : Type} (enc : Enc α) (size : Nat) (hk : enc.k = size) : ∀ (xs done : List α) (i : Nat) (vs : List (Nat × Value)) (rest : List Value), done.length = i → ValsOf enc i vs xs → rest.length = xs.length * size →
    Instr.fill (fun i => some (i * size, size)) (done.flatMap enc.cells ++ rest).toArray vs = some ((done ++ xs).flatMap enc.cells).toArray
  | [], done, i, vs, rest, hi, h, hr => by
    have := h.out.1
    have hv : vs = [] := List.eq_nil_of_length_eq_zero (by simpa using this)
    have hr' : rest = [] := List.eq_nil_of_length_eq_zero (by simpa using hr)
    subst hv; subst hr'
    simp [Instr.fill]
  | x :: xs, done, i, vs, rest, hi, h, hr => by
    obtain ⟨v, h1, h2⟩ := h.out.2 0 x rfl
    cases vs with
    | nil => simp at h1
    | cons p vs =>
      simp at h1
      subst h1
      have hlen : (enc.cells x).length = size := by rw [enc.len, hk]
      have hdl : (done.flatMap enc.cells).length = i * size := by rw [flatMap_len, hi, hk]
      simp only [List.length_cons, Nat.succ_mul] at hr
      have h5 := foldl_set (enc.cells x) 0 (i * size) (done.flatMap enc.cells ++ rest).toArray (by simp only [List.size_toArray, List.length_append, hdl, hlen]; omega)
      have h6 : (enc.cells x).toArray.zipIdx = ((enc.cells x).zipIdx 0).toArray := by simp
      have hval : ValsOf enc (i + 1) vs xs := ⟨by have := h.out.1; simpa using this, fun k y hy => by
        obtain ⟨u, g1, g2⟩ := h.out.2 (k + 1) y (by simpa using hy)
        simp at g1
        exact ⟨u, by rw [g1]; congr 1; congr 1; omega, g2⟩⟩
      have ih := fill_vals enc size hk xs (done ++ [x]) (i + 1) vs (rest.drop size) (by simp [hi]) hval (by simp; omega)
      rw [Instr.fill]
      simp only [h2]
      rw [if_neg (by simp only [List.size_toArray, List.length_append, hdl, hlen]; simp; omega)]
      rw [h6]
      simp only [List.foldl_toArray']
      simp only [Nat.add_zero, hlen] at h5
      rw [h5]
      have e1 : List.take (i * size) (done.flatMap enc.cells ++ rest) = done.flatMap enc.cells := by rw [← hdl]; simp
      have e2 : List.drop (i * size + size) (done.flatMap enc.cells ++ rest) = rest.drop size := by
        rw [← hdl, List.drop_append]; simp
      rw [e1, e2]
      simp only [List.flatMap_append, List.flatMap_cons, List.flatMap_nil, List.append_nil, List.append_assoc] at ih ⊢
      simpa using ih

section
variable {P : Program} {ro : Option Nat} {sz : Nat} {fr : Fr} {ds : List Deferred} {L : List SP} {Q : Post} {ops : Array Oper} {l : List Oper} {d : Nat} {ty : TypeId} {pos : String} {aft : Array Edge}
theorem so_buildSliceV {T E : TypeId} {z : Value} {agg : Bool} {size bytes n : Nat} {α : Type} {enc : Enc α} {pl : List (Nat × Operand)} {vs : List (Nat × Value)} {xs : List α} (hp : Fr.evp fr pl = some vs) [hT : TyU P T (.slice E)] [hE : TyI P E agg z size bytes] (hv : ValsOf enc 0 vs xs)
    (hk : (Nat.beq enc.k size && Nat.beq n xs.length && Nat.ble (n * size) 16777216) = true) (hz : z.cells.size = size) (hd : Nat.blt d sz = true)
    (k : ∀ u : SlV, SO l P ro sz ops ((d, u.v) :: fr) ds (ownSl E enc u.v xs :: L) Q) : SO (⟨some d, .buildSlice T n pl.toArray, ty, pos, aft, none⟩ :: l) P ro sz ops fr ds L Q := by
  simp only [Bool.and_eq_true] at hk
  have hk1 := Nat.eq_of_beq_eq_true hk.1.1
  have hk2 := Nat.eq_of_beq_eq_true hk.1.2
  have hk3 := Nat.le_of_ble_eq_true hk.2
  refine so_gen (fun c h => by cases h) (fun v' L' => ∃ u : SlV, v' = u.v ∧ L' = ownSl E enc v' xs :: L) (fun tm w h1 h2 h3 => ?_) hd (fun v' L' ⟨u, e1, e⟩ => by subst e; subst e1; exact k u)
  have e7 := h2.evp (ds := ds) hp
  have e8 : (Array.map (fun x : Nat × Operand => match x with | (i, x) => (i, (Act.mk tm ds).eval x)) pl.toArray) = vs.toArray := by
    rw [← e7]; simp
  have hpos : 0 < size := by rw [← hk1]; exact enc.pos
  have hfill : ∀ zero : Array Value, Instr.fill (fun i => some (i * size, size)) ((Array.range (n * size)).map (zero[· % zero.size]!)) vs = some (xs.flatMap enc.cells).toArray := fun zero => by
    have := fill_vals enc size hk1 xs [] 0 vs ((Array.range (n * size)).map (zero[· % zero.size]!)).toList rfl hv (by simp [hk2])
    rw [List.flatMap_nil, List.nil_append, Array.toArray_toList, List.nil_append] at this
    exact this
  refine ⟨.slice (some ⟨w.heap.size, 0, none⟩) xs.length xs.length, w.alloc (.cells (xs.flatMap enc.cells).toArray E), _, ?_, ⟨⟨_, _, _, _, rfl⟩, rfl, rfl⟩, ?_, ⟨rfl, rfl, rfl, by simp⟩⟩
  · simp only [execOp, e8, Instr.buildSlice, Sem.run_bind, run_underlying hT.out, Result.andThen_ok, hE.sizeOf]
    rw [if_neg (by omega)]
    by_cases h0 : n * size = 0
    · rw [if_pos h0]
      simp only [Sem.run_pure, Result.andThen_ok, hfill]
      simp [newRow, hk2]
    · rw [if_neg h0]
      simp only [Sem.run_bind, Sem.run_pure, Result.andThen_ok, hE.zeroValue, hfill]
      simp [newRow, hk2]
  · exact own_new h3 rfl (Nat.le_refl _) (by rw [List.size_toArray, flatMap_len]) (by
      rw [← hk2]
      have : n * 1 ≤ n * size := Nat.mul_le_mul_left _ hpos
      omega) (fun j x hx i u hu => by
      rw [List.getElem?_toArray]
      have := flatMap_get enc xs [] j x hx i u hu
      rwa [List.append_nil] at this)

theorem so_buildSlice {T E : TypeId} {z : Value} {agg : Bool} {size bytes n : Nat} {α : Type} {enc : Enc α} {pl : List (Nat × Operand)} {vs : List (Nat × Value)} {xs : List α} (hp : Fr.evp fr pl = some vs) [hT : TyU P T (.slice E)] [hE : TyI P E agg z size bytes] [hv : ValsN 0 vs α enc xs]
    (hk : (Nat.beq enc.k size && Nat.beq n xs.length && Nat.ble (n * size) 16777216) = true) (hz : Nat.beq z.cells.size size = true) (hd : Nat.blt d sz = true)
    (k : ∀ u : SlV, SO l P ro sz ops ((d, u.v) :: fr) ds (ownSl E enc u.v xs :: L) Q) : SO (⟨some d, .buildSlice T n pl.toArray, ty, pos, aft, none⟩ :: l) P ro sz ops fr ds L Q :=
  so_buildSliceV hp hv.out hk (Nat.eq_of_beq_eq_true hz) hd k

/-! ### sets by bits -/
theorem vo_and {x y : Operand} {T T' : TypeId} {κ : IntKind} {m n : Int} (hx : Fr.ev fr x = some (.int κ m)) (hy : Fr.ev fr y = some (.int κ n)) : VO P ds ⟨some d, .binOp .and T x y T', ty, pos, aft, none⟩ fr L (.int κ (κ.wrap (BitVec.ofInt κ.bits m &&& BitVec.ofInt κ.bits n).toNat)) :=
  ⟨(fun c h => by cases h), fun tm w h2 h3 => by simp [execOp, h2.ev hx, h2.ev hy, eqGuard, binOp, Op.intBits]⟩
theorem vo_or {x y : Operand} {T T' : TypeId} {κ : IntKind} {m n : Int} (hx : Fr.ev fr x = some (.int κ m)) (hy : Fr.ev fr y = some (.int κ n)) : VO P ds ⟨some d, .binOp .or T x y T', ty, pos, aft, none⟩ fr L (.int κ (κ.wrap (BitVec.ofInt κ.bits m ||| BitVec.ofInt κ.bits n).toNat)) :=
  ⟨(fun c h => by cases h), fun tm w h2 h3 => by simp [execOp, h2.ev hx, h2.ev hy, eqGuard, binOp, Op.intBits]⟩
theorem vo_xor {x y : Operand} {T T' : TypeId} {κ : IntKind} {m n : Int} (hx : Fr.ev fr x = some (.int κ m)) (hy : Fr.ev fr y = some (.int κ n)) : VO P ds ⟨some d, .binOp .xor T x y T', ty, pos, aft, none⟩ fr L (.int κ (κ.wrap (BitVec.ofInt κ.bits m ^^^ BitVec.ofInt κ.bits n).toNat)) :=
  ⟨(fun c h => by cases h), fun tm w h2 h3 => by simp [execOp, h2.ev hx, h2.ev hy, eqGuard, binOp, Op.intBits]⟩
theorem vo_andNot {x y : Operand} {T T' : TypeId} {κ : IntKind} {m n : Int} (hx : Fr.ev fr x = some (.int κ m)) (hy : Fr.ev fr y = some (.int κ n)) : VO P ds ⟨some d, .binOp .andNot T x y T', ty, pos, aft, none⟩ fr L (.int κ (κ.wrap (BitVec.ofInt κ.bits m &&& ~~~BitVec.ofInt κ.bits n).toNat)) :=
  ⟨(fun c h => by cases h), fun tm w h2 h3 => by simp [execOp, h2.ev hx, h2.ev hy, eqGuard, binOp, Op.intBits]⟩
theorem vo_shl {x y : Operand} {T T' : TypeId} {κ κ' : IntKind} {m n : Int} (hx : Fr.ev fr x = some (.int κ m)) (hy : Fr.ev fr y = some (.int κ' n)) (hn : 0 ≤ n ∧ n ≤ κ.bits) : VO P ds ⟨some d, .binOp .shl T x y T', ty, pos, aft, none⟩ fr L (.int κ (κ.wrap (m * 2 ^ n.toNat))) :=
  ⟨(fun c h => by cases h), fun tm w h2 h3 => by
    have h0 : ¬ n < 0 := by omega
    have h1 : min n.toNat κ.bits = n.toNat := by omega
    simp [execOp, h2.ev hx, h2.ev hy, eqGuard, binOp, Op.shift, h0, h1]⟩
theorem vo_shr {x y : Operand} {T T' : TypeId} {κ κ' : IntKind} {m n : Int} (hx : Fr.ev fr x = some (.int κ m)) (hy : Fr.ev fr y = some (.int κ' n)) (hn : 0 ≤ n ∧ n ≤ κ.bits) : VO P ds ⟨some d, .binOp .shr T x y T', ty, pos, aft, none⟩ fr L (.int κ (m / 2 ^ n.toNat)) :=
  ⟨(fun c h => by cases h), fun tm w h2 h3 => by
    have h0 : ¬ n < 0 := by omega
    have h1 : min n.toNat κ.bits = n.toNat := by omega
    have h5 : m.fdiv (2 ^ n.toNat) = m / 2 ^ n.toNat := Int.fdiv_eq_ediv_of_nonneg _ (Int.le_of_lt (Int.pow_pos (by decide)))
    simp [execOp, h2.ev hx, h2.ev hy, eqGuard, binOp, Op.shift, h0, h1, h5]⟩
/-- a store of a value whose form is not seen -/
theorem so_store1 {x y : Operand} {T b o : Nat} {z u : Value} {bytes E : Nat} {agg : Bool} {cs cs' : List Value} {L' : List SP} (hx : Fr.ev fr x = some (.pointer (some ⟨b, o, none⟩))) (hy : Fr.ev fr y = some u) [hu : One1 L u] [ht : TyI P T agg z 1 bytes] [hc : Cl L b E cs] [hs : LSet cs o u cs'] [hl : ClSet L b cs' L']
    (k : SO l P ro sz ops fr ds L' Q) : SO (⟨none, .store T x y, ty, pos, aft, none⟩ :: l) P ro sz ops fr ds L Q :=
  so_gen0 (fun c h => by cases h) (fun M => M = L') (fun tm w h1 h2 h3 => by
    have hb := hc.block h3
    refine ⟨w.setCell ⟨b, o, none⟩ u, L', ?_, rfl, hl.run h3 (fun T' cs1 e => ?_) (fun k hk => Below.heap_setCell _ _ _ _ hk), set_kept _ _ _⟩
    · have := run_storeVar1 (P := P) (ht.sizeOf w) hb (by simpa using hs.out.1) (hu.out _ h3)
      simp [execOp, h2.ev hx, h2.ev hy, Instr.storeAt, Instr.sureAddr, this]
    · rw [setCell_heap w b o u _ _ _ e]
      rw [hb] at e; injection e with e; injection e with e1 e2; subst e1; subst e2
      simp [hs.out.2]) (fun _ e => by subst e; exact k)
theorem so_box1 {x : Operand} {E : Nat} {u : Value} {cs : List Value} (hx : Fr.ev fr x = some u) [hu : PC L u cs] (hd : Nat.blt d sz = true)
    (k : ∀ b, SO l P ro sz ops ((d, .pointer (some ⟨b, 0, none⟩)) :: fr) ds (cl b E cs :: L) Q) : SO (⟨some d, .box E x, ty, pos, aft, none⟩ :: l) P ro sz ops fr ds L Q :=
  so_gen (fun c h => by cases h) (fun v L' => ∃ b, v = .pointer (some ⟨b, 0, none⟩) ∧ L' = cl b E cs :: L) (fun tm w h1 h2 h3 =>
    ⟨_, w.alloc (.cells u.cells E), _, by simp [execOp, h2.ev hx, Instr.box, newVar, newRow], ⟨w.heap.size, rfl, rfl⟩, by rw [(hu.out _ h3).1]; exact h3.alloc rfl, alloc_kept w _⟩) hd
    (fun v L' ⟨b, e1, e2⟩ => by subst e1; subst e2; exact k b)
theorem vo_cap {x : Operand} {T E : TypeId} {a : Option Addr} {n c : Nat} (hx : Fr.ev fr x = some (.slice a n c)) [hT : TyU P T (.slice E)] : VO P ds ⟨some d, .call ⟨.builtin .cap, #[x], #[T]⟩, ty, pos, aft, none⟩ fr L (.int .i64 c) :=
  ⟨(fun c h => by cases h), fun tm w h2 h3 => by
    simp [execOp, resolve, invoke, builtin, Builtin.cap_, h2.ev hx, run_underlying hT.out, goInt]⟩
end
end Go.Proofs.YtmhfhfhdblccjaaGreat
/-
  An own logic over the kit's calculus: contracts that change one item, wherever it stands.
-/
namespace Go.Proofs.YtmhfhfhdblccjaaGreat
open Go Go.RowKit
set_option linter.unusedVariables false

theorem FnC.perm {P : Program} {f : Nat} {args : List Value} {L L1 : List SP} {R : Value → List SP → Prop} (p : L.Perm L1) (h : FnC P f args L1 R) : FnC P f args L R := FnC.mem (fun w H => Sat.perm p H) h
theorem FnC.post {P : Program} {f : Nat} {args : List Value} {L : List SP} {R R' : Value → List SP → Prop} (h : FnC P f args L R) (k : ∀ v M, R v M → ∃ M', R' v M' ∧ ∀ w, Sat M w → Sat M' w) : FnC P f args L R' :=
  fun w hw => (h w hw).mono fun _ _ ⟨v, L', e, r, s, x⟩ => by
    obtain ⟨M', g1, g2⟩ := k v L' r
    exact ⟨v, M', e, g1, g2 _ s, x⟩
theorem FnC.hole {P : Program} {f : Nat} {args : List Value} {L : List SP} {A : SP} {K : SP → List SP} [hh : Hole L A K] {R : Value → SP → Prop} (h : ∀ L0, L.Perm (A :: L0) → FnC P f args (A :: L0) (fun v M => ∃ B, R v B ∧ M = B :: L0)) : FnC P f args L (fun v M => ∃ B, R v B ∧ M = K B) := by
  obtain ⟨L0, p, q⟩ := hh.out
  exact ((h L0 p).perm p).post fun v M ⟨B, r, e⟩ => ⟨K B, ⟨B, r, rfl⟩, fun w H => Sat.perm (q B) (e ▸ H)⟩
theorem RdSl.perm {L0 L : List SP} {v : Value} {α : Type} {enc : Enc α} {xs : List α} (p : L.Perm L0) (h : RdSl L0 v α enc xs) : RdSl L v α enc xs := ⟨fun g H => h.out g (Holds.perm p _ H)⟩
/-- v reads as xs, whatever becomes of the item A of L. -/
class RdO (L : List SP) (A : SP) (v : Value) (α : outParam Type) (enc : outParam (Enc α)) (xs : outParam (List α)) : Prop where
  out : ∃ L0, L.Perm (A :: L0) ∧ RdSl L0 v α enc xs
instance (priority := high) RdO.here (A : SP) (L : List SP) (v : Value) (α : Type) (enc : Enc α) (xs : List α) [h : RdSl L v α enc xs] : RdO (A :: L) A v α enc xs := ⟨L, .refl _, h⟩
instance (priority := low) RdO.there (B A : SP) (L : List SP) (v : Value) (α : Type) (enc : Enc α) (xs : List α) [h : RdO L A v α enc xs] : RdO (B :: L) A v α enc xs := by
  obtain ⟨L0, p, r⟩ := h.out
  exact ⟨B :: L0, (List.Perm.cons B p).trans (.swap _ _ _), inferInstance⟩
theorem RdO.rd {L L1 : List SP} {A : SP} {v : Value} {α : Type} {enc : Enc α} {xs : List α} (h : RdO L A v α enc xs) (p : L.Perm (A :: L1)) : RdSl L1 v α enc xs := by
  obtain ⟨L0, q, r⟩ := h.out
  exact RdSl.perm ((List.Perm.cons_inv (p.symm.trans q))) r
theorem RdO.len {L : List SP} {A : SP} {v : Value} {α : Type} {enc : Enc α} {xs : List α} (h : RdO L A v α enc xs) (w : World) (H : Sat L w) : xs.length ≤ 140737488355328 := by
  obtain ⟨L0, p, r⟩ := h.out
  exact r.len w (Sat.perm p H).tail
instance : ValOf (.int .u8 0) UInt8 encU8 0 := ⟨rfl⟩
section
variable {P : Program} {ro : Option Nat} {sz : Nat} {fr : Fr} {ds : List Deferred} {L : List SP} {Q : Post}
/-- a slice against nil -/
def isNil : Value → Bool
  | .slice none _ _ => true
  | _ => false
theorem run_equal_nil {T E : TypeId} (h : TyU P T (.slice E)) (u : SlV) (w : World) : (Op.equal T u.v (.slice none 0 0)).run P w = .ok (isNil u.v) w := by
  obtain ⟨a, n, c, e⟩ := u.is
  have hd : ∀ d : Nat, (Op.equalIn (d + 1) T u.v (.slice none 0 0)).run P w = .ok (isNil u.v) w := fun d => by
    rw [e]; cases a <;> simp [Op.equalIn, run_underlying h.out, isNil]
  simp [Op.equal, Op.maxDepth, hd 9999]
theorem vo_eql_nil {x y : Operand} {T E T' : TypeId} {u : SlV} {d : Nat} {ty : TypeId} {pos : String} {aft : Array Edge} (hx : Fr.ev fr x = some u.v) (hy : Fr.ev fr y = some (.slice none 0 0)) [h : TyU P T (.slice E)] : VO P ds ⟨some d, .binOp .eql T x y T', ty, pos, aft, none⟩ fr L (.bool (isNil u.v)) :=
  ⟨(fun c h => by cases h), fun tm w h2 h3 => by
    have e := run_equal_nil h u w
    obtain ⟨a, n, c, e1⟩ := u.is
    rw [e1] at e
    simp [execOp, h2.ev hx, h2.ev hy, eqGuard, binOp, e1, e]⟩
theorem RdSl.nilE {v : Value} {α : Type} {enc : Enc α} {xs : List α} (k : RdSl L v α enc xs) (w : World) (H : Sat L w) : isNil v = true → xs = [] := fun hn => by
  obtain ⟨a, c, e1, h1, h2, h3⟩ := k.at H
  subst e1
  cases a with
  | none =>
    cases xs with
    | nil => rfl
    | cons x xs => obtain ⟨b, off, cs, T, fz, g, _⟩ := h3 (by simp); cases g
  | some a => simp [isNil] at hn
theorem so_buildSlice0 {ops : Array Oper} {l : List Oper} {d : Nat} {ty : TypeId} {pos : String} {aft : Array Edge} {T E : TypeId} {z : Value} {agg : Bool} {size bytes : Nat} {α : Type} {enc : Enc α} {x0 : α} [hT : TyU P T (.slice E)] [hE : TyI P E agg z size bytes] [hz : ValOf z α enc x0]
    (hk : (Nat.beq enc.k size && Nat.beq z.cells.size size) = true) (hd : Nat.blt d sz = true)
    (k : ∀ u : SlV, SO l P ro sz ops ((d, u.v) :: fr) ds (ownSl E enc u.v [] :: L) Q) : SO (⟨some d, .buildSlice T 0 (List.toArray []), ty, pos, aft, none⟩ :: l) P ro sz ops fr ds L Q := by
  simp only [Bool.and_eq_true] at hk
  exact so_buildSliceV (enc := enc) (vs := []) (pl := []) (xs := []) rfl inferInstance (by simpa using hk.1) (Nat.eq_of_beq_eq_true hk.2) hd k
/-- an operation behind a guard, on both ways -/
theorem so_guard {ops : Array Oper} {l : List Oper} {ty : TypeId} {pos : String} {aft : Array Edge} {dst : Nat} {op : Op} {j t : Nat} {b want : Bool} (ht : ((ops[j]?).bind (·.dst)) = some t) (hb : Fr.get fr t = some (.bool b)) (hd : Nat.blt dst sz = true)
    (k1 : b = want → SO (⟨some dst, op, ty, pos, aft, none⟩ :: l) P ro sz ops fr ds L Q) (k2 : b = (!want) → SO l P ro sz ops ((dst, undef) :: fr) ds L Q) : SO (⟨some dst, op, ty, pos, aft, some (j, want)⟩ :: l) P ro sz ops fr ds L Q := by
  by_cases h : b = want
  · exact so_on ht hb h (k1 h)
  · have h' : b = !want := by cases b <;> cases want <;> simp_all
    exact so_off ht hb h' hd (k2 h')
theorem so_makeSlice' {ops : Array Oper} {l : List Oper} {d : Nat} {ty : TypeId} {pos : String} {aft : Array Edge} {x y : Operand} {T E : TypeId} {z : Value} {m n : Int} {agg : Bool} {size bytes : Nat} {α : Type} {enc : Enc α} {x0 : α} (hx : Fr.ev fr x = some (.int .i64 m)) (hy : Fr.ev fr y = some (.int .i64 n)) [hT : TyU P T (.slice E)] [hE : TyI P E agg z size bytes] [hz : ValOf z α enc x0]
    (hk : (Nat.beq enc.k size && Nat.ble bytes 4096) = true) (hd : Nat.blt d sz = true) (hm : 0 ≤ m ∧ m ≤ n ∧ n ≤ 1000000000)
    (k : ∀ u : SlV, SO l P ro sz ops ((d, u.v) :: fr) ds (ownSl E enc u.v (List.replicate m.toNat x0) :: L) Q) : SO (⟨some d, .makeSlice T x y, ty, pos, aft, none⟩ :: l) P ro sz ops fr ds L Q := so_makeSlice x0 hx hy hz.out hk hd hm k
theorem so_makeSlice0 {ops : Array Oper} {l : List Oper} {d : Nat} {ty : TypeId} {pos : String} {aft : Array Edge} {x y : Operand} {T E : TypeId} {z : Value} {n : Int} {agg : Bool} {size bytes : Nat} {α : Type} {enc : Enc α} {x0 : α} (hx : Fr.ev fr x = some (.int .i64 0)) (hy : Fr.ev fr y = some (.int .i64 n)) [hT : TyU P T (.slice E)] [hE : TyI P E agg z size bytes] [hz : ValOf z α enc x0]
    (hk : (Nat.beq enc.k size && Nat.ble bytes 4096) = true) (hd : Nat.blt d sz = true) (hm : 0 ≤ n ∧ n ≤ 1000000000)
    (k : ∀ u : SlV, SO l P ro sz ops ((d, u.v) :: fr) ds (ownSl E enc u.v [] :: L) Q) : SO (⟨some d, .makeSlice T x y, ty, pos, aft, none⟩ :: l) P ro sz ops fr ds L Q := so_makeSlice x0 hx hy hz.out hk hd ⟨Int.le_refl _, hm⟩ k
/-- a cut behind x: only this is known there -/
theorem sw_mid {x : Code} {σ : Type} {K : Fr → List Deferred → List SP → Prop} (F : σ → Fr) (M : σ → List SP) (I : σ → Prop) [hq : QE Q .normal K] (hK : ∀ f' L' fr L, FSub f' fr → (∀ w, Sat L w → Sat L' w) → K f' ds L' → K fr ds L)
    (hx : ∀ Q', QThen Q' (fun f ds' L' => ds' = ds ∧ ∃ s, I s ∧ FSub (F s) f ∧ ∀ w, Sat L' w → Sat (M s) w) Q → SW x P ro sz fr ds L Q') (hy : ∀ s, I s → K (F s) ds (M s)) : SW x P ro sz fr ds L Q :=
  (hx (fun e fr' ds' L' => match e with
    | .normal => ds' = ds ∧ ∃ s, I s ∧ FSub (F s) fr' ∧ ∀ w, Sat L' w → Sat (M s) w
    | e => Q e fr' ds' L') ⟨fun _ _ _ h => h, fun e _ _ _ hne h => by cases e <;> first | exact h | exact absurd rfl hne⟩).mono fun e fr' ds' L' h => by
      cases e with
      | normal =>
        obtain ⟨e, s, h1, h2, h3⟩ := h
        subst e
        exact hq.out _ _ _ (hK _ _ _ _ h2 h3 (hy s h1))
      | _ => exact h
end
end Go.Proofs.YtmhfhfhdblccjaaGreat
/-
  An own logic over the kit's calculus: rows of rows.
-/
namespace Go.Proofs.YtmhfhfhdblccjaaGreat
open Go Go.RowKit
set_option linter.unusedVariables false

theorem Holds.group {M L : List SP} {h : PH} (H : Holds (M ++ L) h) : Holds ((fun k => Holds M k) :: L) h := by
  induction M generalizing h with
  | nil => exact ⟨fun _ => none, h, trivial, H, fun _ => .inl rfl, (fun _ _ e => by cases e), PH.le.refl _⟩
  | cons A M ih =>
    obtain ⟨a, b, ha, hb, d, e1, e2⟩ := H
    obtain ⟨m, l, hm, hl, d2, e3, e4⟩ := ih hb
    have dam : a.disj m := (d.symm.of_le e3).symm
    have dal : a.disj l := (d.symm.of_le e4).symm
    exact ⟨a.join m, l, ⟨a, m, ha, hm, dam, a.le_join_left m, PH.le_join_right dam⟩, hl, (PH.disj_join dal.symm d2.symm).symm, PH.join_le e1 (e3.trans e2), e4.trans e2⟩
theorem Holds.ungroup {M L : List SP} {h : PH} (H : Holds ((fun k => Holds M k) :: L) h) : Holds (M ++ L) h := by
  obtain ⟨m, l, hm, hl, d, e1, e2⟩ := H
  induction M generalizing m h with
  | nil => exact hl.up e2
  | cons A M ih =>
    obtain ⟨a, m2, ha, hm2, d2, e3, e4⟩ := hm
    have d3 : m2.disj l := d.of_le e4
    have d4 : a.disj l := d.of_le e3
    exact ⟨a, m2.join l, ha, ih m2 hm2 d3 (PH.le_join_left _ _) (PH.le_join_right d3), PH.disj_join d2 d4, e3.trans e1, PH.join_le (e4.trans e1) e2⟩

def nilS : SlV := ⟨.slice none 0 0, _, _, _, rfl⟩
def at' (us : List SlV) (i : Nat) : SlV := us[i]?.getD nilS
def atx {α : Type} (xss : List (List α)) (i : Nat) : List α := xss[i]?.getD []
theorem atx_eq {α : Type} {xss : List (List α)} {i : Nat} {xs : List α} (h : xss[i]? = some xs) : atx xss i = xs := by simp [atx, h]
theorem at_eq {us : List SlV} {i : Nat} {u : SlV} (h : us[i]? = some u) : at' us i = u := by simp [at', h]
theorem atx_get {α : Type} {xss : List (List α)} {i : Nat} (h : i < xss.length) : xss[i]? = some (atx xss i) := by simp [atx, h]
theorem at_get {us : List SlV} {i : Nat} (h : i < us.length) : us[i]? = some (at' us i) := by simp [at', h]
/-- The rows of a row, each with a block of its own. -/
def rows (T : TypeId) {α : Type} (enc : Enc α) (us : List SlV) (xss : List (List α)) : SP := fun h => us.length = xss.length ∧ Holds (List.zipWith (fun (u : SlV) xs => ownSl T enc u.v xs) us xss) h
section
variable {T : TypeId} {α : Type} {enc : Enc α} {us : List SlV} {xss : List (List α)} {L : List SP}
theorem rows_out {h : PH} (H : Holds (rows T enc us xss :: L) h) : us.length = xss.length ∧ Holds (List.zipWith (fun (u : SlV) xs => ownSl T enc u.v xs) us xss ++ L) h := by
  obtain ⟨a, r, ⟨e, ha⟩, x⟩ := H
  exact ⟨e, Holds.ungroup ⟨a, r, ha, x⟩⟩
theorem rows_in {h : PH} (e : us.length = xss.length) (H : Holds (List.zipWith (fun (u : SlV) xs => ownSl T enc u.v xs) us xss ++ L) h) : Holds (rows T enc us xss :: L) h := by
  obtain ⟨a, r, ha, x⟩ := Holds.group H
  exact ⟨a, r, ⟨e, ha⟩, x⟩
theorem own_nil (a : Option Addr) {h : PH} (H : Holds L h) : Holds (ownSl T enc (.slice a 0 0) [] :: L) h :=
  ⟨fun _ => none, h, ⟨by simp, .inl ⟨a, rfl, rfl⟩⟩, H, fun _ => .inl rfl, (fun _ _ e => by cases e), PH.le.refl _⟩
theorem zip_at {β γ δ : Type} (f : β → γ → δ) : ∀ (us : List β) (xss : List γ) (i : Nat) (u : β) (xs : γ), us[i]? = some u → xss[i]? = some xs → (List.zipWith f us xss).Perm (f u xs :: (List.zipWith f us xss).eraseIdx i)
  | [], _, i, _, _, h, _ => by simp at h
  | _ :: _, [], i, _, _, _, h => by simp at h
  | a :: us, b :: xss, 0, u, xs, h, k => by simp at h k; subst h; subst k; exact .refl _
  | a :: us, b :: xss, i + 1, u, xs, h, k => by
    simp at h k
    simp only [List.zipWith_cons_cons, List.eraseIdx_cons_succ]
    exact ((zip_at f us xss i u xs h k).cons _).trans (.swap _ _ _)
theorem zip_set {β γ δ : Type} (f : β → γ → δ) : ∀ (us : List β) (xss : List γ) (i : Nat) (u : β) (xs : γ), i < us.length → i < xss.length → (List.zipWith f (us.set i u) (xss.set i xs)).Perm (f u xs :: (List.zipWith f us xss).eraseIdx i)
  | [], _, i, _, _, h, _ => by simp at h
  | _ :: _, [], i, _, _, _, h => by simp at h
  | a :: us, b :: xss, 0, u, xs, h, k => by simp
  | a :: us, b :: xss, i + 1, u, xs, h, k => by
    simp at h k
    simp only [List.set_cons_succ, List.zipWith_cons_cons, List.eraseIdx_cons_succ]
    exact ((zip_set f us xss i u xs h k).cons _).trans (.swap _ _ _)
theorem rows_take {i : Nat} {h : PH} (hi : i < xss.length) (H : Holds (rows T enc us xss :: L) h) : Holds (ownSl T enc (at' us i).v (atx xss i) :: rows T enc (us.set i nilS) (xss.set i []) :: L) h := by
  obtain ⟨e, H⟩ := rows_out H
  have p := zip_at (fun (u : SlV) xs => ownSl T enc u.v xs) us xss i _ _ (at_get (by omega)) (atx_get hi)
  have H1 := Holds.perm (p.append_right L) _ H
  refine Holds.cons_mono (fun k Hk => rows_in (by simp [e]) ?_) H1
  have q := zip_set (fun (u : SlV) xs => ownSl T enc u.v xs) us xss i nilS [] (by omega) hi
  exact Holds.perm (q.append_right L).symm _ (own_nil none Hk)
theorem rows_put {i : Nat} {h : PH} {u : SlV} {xs : List α} (hi : i < xss.length) (H : Holds (ownSl T enc u.v xs :: rows T enc us xss :: L) h) : Holds (rows T enc (us.set i u) (xss.set i xs) :: L) h := by
  have H1 := H.swap
  obtain ⟨e, H2⟩ := rows_out H1
  have p := zip_at (fun (u : SlV) xs => ownSl T enc u.v xs) us xss i _ _ (at_get (by omega)) (atx_get hi)
  have q := zip_set (fun (u : SlV) xs => ownSl T enc u.v xs) us xss i u xs (by omega) hi
  refine rows_in (by simp [e]) (Holds.perm (q.append_right L).symm _ ?_)
  have H3 := (Holds.perm (p.append_right (ownSl T enc u.v xs :: L)) _ H2).tail
  exact Holds.perm List.perm_middle _ H3
theorem rows_push {h : PH} {u : SlV} {xs : List α} (H : Holds (ownSl T enc u.v xs :: rows T enc us xss :: L) h) : Holds (rows T enc (us ++ [u]) (xss ++ [xs]) :: L) h := by
  obtain ⟨e, H2⟩ := rows_out H.swap
  refine rows_in (by simp [e]) ?_
  rw [List.zipWith_append (by simpa using e)]
  simpa using H2
theorem rows_nil {h : PH} (H : Holds L h) : Holds (rows T enc [] [] :: L) h := rows_in rfl (by simpa using H)
theorem rows_len {h : PH} (H : Holds (rows T enc us xss :: L) h) : us.length = xss.length := (rows_out H).1
/-- all rows written anew with the same slices -/
theorem rows_get {i : Nat} {h : PH} (H : Holds (rows T enc us xss :: L) h) {u : SlV} {xs : List α} (h1 : us[i]? = some u) (h2 : xss[i]? = some xs) : IsSl enc h u.v xs := by
  obtain ⟨e, H⟩ := rows_out H
  have p := zip_at (fun (u : SlV) xs => ownSl T enc u.v xs) us xss i _ _ h1 h2
  obtain ⟨k, hk, l⟩ := (Holds.perm (p.append_right L) _ H).head
  exact hk.isSl.up l
end
/-- The rows us read as xss. -/
class RdM (L : List SP) (us : List SlV) (α : outParam Type) (enc : outParam (Enc α)) (xss : outParam (List (List α))) : Prop where
  out : ∀ h, Holds L h → us.length = xss.length ∧ ∀ (i : Nat) (u : SlV) (xs : List α), us[i]? = some u → xss[i]? = some xs → IsSl enc h u.v xs
instance (priority := high) RdM.here (T : TypeId) (α : Type) (enc : Enc α) (us : List SlV) (xss : List (List α)) (L : List SP) : RdM (rows T enc us xss :: L) us α enc xss := ⟨fun h H => ⟨rows_len H, fun i u xs h1 h2 => rows_get H h1 h2⟩⟩
instance (priority := low) RdM.there (A : SP) (L : List SP) (us : List SlV) (α : Type) (enc : Enc α) (xss : List (List α)) [k : RdM L us α enc xss] : RdM (A :: L) us α enc xss := ⟨fun _ H => k.out _ H.tail⟩
theorem RdM.perm {L0 L : List SP} {us : List SlV} {α : Type} {enc : Enc α} {xss : List (List α)} (p : L.Perm L0) (h : RdM L0 us α enc xss) : RdM L us α enc xss := ⟨fun g H => h.out g (Holds.perm p _ H)⟩
theorem RdM.len {L : List SP} {us : List SlV} {α : Type} {enc : Enc α} {xss : List (List α)} (k : RdM L us α enc xss) (w : World) (H : Sat L w) : us.length = xss.length := (k.out _ H).1
theorem IsSl.nil {α : Type} (enc : Enc α) (h : PH) (a : Option Addr) (c : Nat) : IsSl enc h (.slice a 0 c) [] := ⟨a, c, rfl, Nat.zero_le _, by simp, fun h => absurd rfl h⟩
instance RdSl.ofM (L : List SP) (us : List SlV) (i : Nat) (α : Type) (enc : Enc α) (xss : List (List α)) [k : RdM L us α enc xss] : RdSl L (at' us i).v α enc (atx xss i) := ⟨fun h H => by
  obtain ⟨e, g⟩ := k.out h H
  rcases Nat.lt_or_ge i us.length with hi | hi
  · exact g i _ _ (at_get hi) (atx_get (by omega))
  · have h1 : us[i]? = none := by simp [hi]
    have h2 : xss[i]? = none := by simp; omega
    simp only [at', atx, h1, h2, Option.getD_none, nilS]
    exact IsSl.nil enc h none 0⟩
/-- the item rows .. us xss, wherever it stands -/
class RowsIn (L : List SP) (us : List SlV) (T : outParam TypeId) (α : outParam Type) (enc : outParam (Enc α)) (xss : outParam (List (List α))) (K : outParam (SP → List SP)) : Prop where
  out : Hole L (rows T enc us xss) K
instance (priority := high) RowsIn.here (T : TypeId) (α : Type) (enc : Enc α) (us : List SlV) (xss : List (List α)) (L : List SP) : RowsIn (rows T enc us xss :: L) us T α enc xss (fun X => X :: L) := ⟨inferInstance⟩
instance (priority := low) RowsIn.there (B : SP) (L : List SP) (us : List SlV) (T : TypeId) (α : Type) (enc : Enc α) (xss : List (List α)) (K : SP → List SP) [h : RowsIn L us T α enc xss K] : RowsIn (B :: L) us T α enc xss (fun X => B :: K X) := ⟨@Hole.there _ _ _ _ h.out⟩
section
variable {P : Program} {ro : Option Nat} {sz : Nat} {fr : Fr} {ds : List Deferred} {L : List SP} {Q : Post} {ops : Array Oper} {l : List Oper} {d : Nat} {ty : TypeId} {pos : String} {aft : Array Edge}
theorem vo_indexAddr_nat {x y : Operand} {T E : TypeId} {v z : Value} {m : Nat} {agg : Bool} {size bytes : Nat} {α : Type} {enc : Enc α} {xs : List α} (hx : Fr.ev fr x = some v) (hy : Fr.ev fr y = some (.int .i64 (m : Int))) [hT : TyU P T (.slice E)] [hE : TyI P E agg z size bytes] [hr : RdSl L v α enc xs] (hk : Nat.beq enc.k size = true)
    (hm : m < xs.length) : VO P ds ⟨some d, .indexAddr T x y, ty, pos, aft, none⟩ fr L (elt size v m 0) := vo_indexAddr hx hy hk (by omega)
/-- v is a slice of n elements that is not nil -/
def Hdr (v : Value) (n : Nat) : Prop := ∃ b off c, v = .slice (some ⟨b, off, none⟩) n c
theorem RdSl.hdr {v : Value} {α : Type} {enc : Enc α} {xs : List α} (k : RdSl L v α enc xs) (w : World) (H : Sat L w) : xs ≠ [] → Hdr v xs.length := fun hne => by
  obtain ⟨a, c, e1, h1, h2, h3⟩ := k.at H
  obtain ⟨b, off, cs, T, fz, g, _⟩ := h3 hne
  exact ⟨b, off, c, by rw [e1, g]⟩
theorem vo_indexAddr_hd {x y : Operand} {T E : TypeId} {v z : Value} {m n : Nat} {agg : Bool} {size bytes : Nat} (hx : Fr.ev fr x = some v) (hy : Fr.ev fr y = some (.int .i64 (m : Int))) [hT : TyU P T (.slice E)] [hE : TyI P E agg z size bytes] (hh : Hdr v n) (hm : m < n) : VO P ds ⟨some d, .indexAddr T x y, ty, pos, aft, none⟩ fr L (elt size v m 0) :=
  ⟨(fun c h => by cases h), fun tm w h2 h3 => by
    obtain ⟨b, off, c, e1⟩ := hh
    subst e1
    have h5 : (m : Int) < n := by omega
    simp [execOp, h2.ev hx, h2.ev hy, Instr.indexAt, asIntOf, run_underlying hT.out, hm, hE.sizeOf, addr_add, elt]⟩
/-- a row of a row -/
theorem vo_load_at {x : Operand} {T : TypeId} {v z : Value} {j size bytes : Nat} {us : List SlV} (hx : Fr.ev fr x = some (elt 1 v j 0)) [ht : TyI P T false z size bytes] [hr : RdSl L v SlV encSl us] (hj : j < us.length) : VO P ds ⟨some d, .load T x, ty, pos, aft, none⟩ fr L (at' us j).v :=
  vo_load_elt hx (by rfl) (at_get hj) rfl
/-- an element of a row of a row is written -/
theorem so_store_row {x y : Operand} {T E : TypeId} {kk : Nat} {u z : Value} {j i o bytes : Nat} {agg : Bool} {α : Type} {enc : Enc α} {us : List SlV} {xss : List (List α)} {x0 : α} {ws : List Value} {K : SP → List SP} (x' : α) (hx : Fr.ev fr x = some (elt kk (at' us i).v j o)) (hy : Fr.ev fr y = some u) (hus : u.cells = ws.toArray) [ht : TyI P T agg z ws.length bytes] [ho : RowsIn L us E α enc xss K] (hk : Nat.beq enc.k kk = true) (hi : i < xss.length) (hj : (atx xss i)[j]? = some x0)
    (hx' : enc.cells x' = (enc.cells x0).take o ++ ws ++ (enc.cells x0).drop (o + ws.length)) (hul' : Nat.ble (o + ws.length) enc.k = true)
    (k : SO l P ro sz ops fr ds (K (rows E enc us (xss.set i ((atx xss i).set j x')))) Q) : SO (⟨none, .store T x y, ty, pos, aft, none⟩ :: l) P ro sz ops fr ds L Q := by
  obtain ⟨L0, p, q⟩ := ho.out.out
  refine so_pure (fun w H => rows_len (Sat.perm p H)) fun hl => ?_
  refine so_mem (fun w H => rows_take hi (Sat.perm p H)) ?_
  refine so_store_elt x' hx hy hus hk hj hx' hul' (so_mem (fun w H => ?_) k)
  have h1 := rows_put (i := i) (by simpa using hi) H
  rw [List.set_set, List.set_set] at h1
  have h2 : us.set i (at' us i) = us := by
    have := at_get (us := us) (i := i) (by omega)
    exact List.ext_getElem? fun n => by
      by_cases hn : i = n
      · subst hn; rw [List.getElem?_set_self (by omega), this]
      · rw [List.getElem?_set_ne hn]
  rw [h2] at h1
  exact Sat.perm (q _) h1
/-- with an element whose one cell is seen -/
theorem so_store_row1 {x y : Operand} {T E : TypeId} {u z : Value} {j i bytes : Nat} {agg : Bool} {α : Type} {enc : Enc α} {us : List SlV} {xss : List (List α)} {x' : α} {K : SP → List SP} (hx : Fr.ev fr x = some (elt 1 (at' us i).v j 0)) (hy : Fr.ev fr y = some u) [hv : ValOf u α enc x'] [ht : TyI P T agg z 1 bytes] [ho : RowsIn L us E α enc xss K] (hk : Nat.beq enc.k 1 = true) (hi : i < xss.length ∧ j < (atx xss i).length)
    (k : SO l P ro sz ops fr ds (K (rows E enc us (xss.set i ((atx xss i).set j x')))) Q) : SO (⟨none, .store T x y, ty, pos, aft, none⟩ :: l) P ro sz ops fr ds L Q := by
  have hk' : enc.k = 1 := Nat.eq_of_beq_eq_true hk
  have h1 := enc.len x'
  rw [hk'] at h1
  haveI : TyI P T agg z (enc.cells x').length bytes := by rw [h1]; exact ht
  refine so_store_row (x0 := (atx xss i)[j]'hi.2) x' hx hy hv.out (by rw [hk']; rfl) hi.1 (List.getElem?_eq_getElem _) ?_ (by rw [h1, hk']; rfl) k
  have h2 := enc.len ((atx xss i)[j]'hi.2)
  rw [hk'] at h2
  rw [h1, List.drop_of_length_le (by omega)]; simp
/-- an element of one cell is written -/
theorem so_store_elt1 {x y : Operand} {T E : TypeId} {v u z : Value} {j bytes : Nat} {agg : Bool} {α : Type} {enc : Enc α} {xs : List α} {x' : α} {L' : List SP} (hx : Fr.ev fr x = some (elt 1 v j 0)) (hy : Fr.ev fr y = some u) [hv : ValOf u α enc x'] [ht : TyI P T agg z 1 bytes] [ho : Own L v E α enc xs] (hk : Nat.beq enc.k 1 = true) [hl : Put L (ownSl E enc v xs) (ownSl E enc v (xs.set j x')) L'] (hj : j < xs.length)
    (k : SO l P ro sz ops fr ds L' Q) : SO (⟨none, .store T x y, ty, pos, aft, none⟩ :: l) P ro sz ops fr ds L Q := by
  have hk' : enc.k = 1 := Nat.eq_of_beq_eq_true hk
  have h1 := enc.len x'
  rw [hk'] at h1
  haveI : TyI P T agg z (enc.cells x').length bytes := by rw [h1]; exact ht
  refine so_store_elt (x0 := xs[j]'hj) x' hx hy hv.out (by rw [hk']; rfl) (List.getElem?_eq_getElem _) ?_ (by rw [h1, hk']; rfl) k
  have h2 := enc.len (xs[j]'hj)
  rw [hk'] at h2
  rw [h1, List.drop_of_length_le (by omega)]; simp
end
end Go.Proofs.YtmhfhfhdblccjaaGreat
/-
  An own logic over the kit's calculus: scopes without jumps.
-/
namespace Go.Proofs.YtmhfhfhdblccjaaGreat
open Go Go.RowKit
set_option linter.unusedVariables false
theorem stepR_scope {P : Program} {b : Frame} {a : Act} {k : List Item} {cs : List Frame} {w : World} {c : Code} : step P (lone (b.atR a (.code (.scope c) :: k)) cs w) = .next (lone (b.atR a (.code c :: .inScope c :: k)) cs w) :=
  step_lone_go (by simp [stepG, stepG.exec, Frame.atR])
theorem stepR_inScope {P : Program} {b : Frame} {a : Act} {k : List Item} {cs : List Frame} {w : World} {c : Code} : step P (lone (b.atR a (.inScope c :: k)) cs w) = .next (lone (b.atR a k) cs w) :=
  step_lone_go (by simp [stepG, stepG.exec, Frame.atR])
theorem wpIn_scope_straight {F : Fence} {n : Nat} {P : Program} {Q : Exit → Act → World → Prop} {a : Act} {w : World} {c : Code} (h : c.wpIn F n P (Exit.noGoto Q) a w) : (Code.scope c).wpIn F n P Q a w := by
  intro b k cs hro hb hr
  have h0 : (lone (b.atR a (.code (.scope c) :: k)) cs w).fenced P F := fenced_calm hb hr rfl
  obtain ⟨e, a₁, w₁, hq, harr⟩ := h b (.inScope c :: k) cs hro hb hr
  cases e with
  | normal => exact ⟨.normal, a₁, w₁, hq, .head h0 stepR_scope (StepsIn.trans harr (.one (fenced_calm hb hr rfl) stepR_inScope))⟩
  | exit id =>
    have hx : ∀ k', exitTo id k = some k' → exitTo id (.inScope c :: k) = some k' := fun k' h => by simp [exitTo, h]
    have hn : ∀ {k'}, exitTo id (.inScope c :: k) = k' → exitTo id k = k' := fun {k'} h => by simpa [exitTo] using h
    exact ⟨.exit id, a₁, w₁, hq, fun k' hk => .head h0 stepR_scope (harr.1 k' (hx k' hk)), fun hr' hk => let ⟨k₁, h1, h2⟩ := harr.2 hr' (by simpa [exitTo] using hk); ⟨k₁, h1, .head h0 stepR_scope h2⟩⟩
  | goto l => exact hq.elim
  | ret => exact ⟨_, a₁, w₁, hq, .of_steps (.one h0 stepR_scope) harr⟩
  | panic ch => exact ⟨_, a₁, w₁, hq, .of_steps (.one h0 stepR_scope) harr⟩
  | outgrown => exact ⟨_, a₁, w₁, hq, .of_steps (.one h0 stepR_scope) harr⟩
class QScope (Q' : Post) (Q : outParam Post) : Prop where
  same : ∀ e fr ds L, (∀ l, e ≠ .goto l) → Q e fr ds L → Q' e fr ds L
instance QE.scope_normal (Q' Q : Post) (K : Fr → List Deferred → List SP → Prop) [h : QScope Q' Q] [k : QE Q .normal K] : QE Q' .normal K := ⟨fun fr ds L x => h.same _ _ _ _ (by simp) (k.out fr ds L x)⟩
instance QE.scope_exit (Q' Q : Post) (i : Nat) (K : Fr → List Deferred → List SP → Prop) [h : QScope Q' Q] [k : QE Q (.exit i) K] : QE Q' (.exit i) K := ⟨fun fr ds L x => h.same _ _ _ _ (by simp) (k.out fr ds L x)⟩
instance QE.scope_ret (Q' Q : Post) (K : Fr → List Deferred → List SP → Prop) [h : QScope Q' Q] [k : QE Q .ret K] : QE Q' .ret K := ⟨fun fr ds L x => h.same _ _ _ _ (by simp) (k.out fr ds L x)⟩
section
variable {P : Program} {ro : Option Nat} {sz : Nat} {fr : Fr} {ds : List Deferred} {L : List SP} {Q : Post}
theorem sw_scope {c : Code} (h : ∀ Q', QScope Q' Q → SW c P ro sz fr ds L Q') : SW (.scope c) P ro sz fr ds L Q := by
  intro tm w n h1 h2 h3
  refine wpIn_scope_straight (wpIn_mono (h (fun e fr ds L => (∀ l, e ≠ .goto l) ∧ Q e fr ds L) ⟨fun e fr ds L h1 h2 => ⟨h1, h2⟩⟩ tm w n h1 h2 h3) ?_)
  rintro e a w' ⟨f', L', ⟨q0, q⟩, k⟩
  cases e with
  | goto l => exact absurd rfl (q0 l)
  | _ => exact ⟨f', L', q, k⟩
end
end Go.Proofs.YtmhfhfhdblccjaaGreat
