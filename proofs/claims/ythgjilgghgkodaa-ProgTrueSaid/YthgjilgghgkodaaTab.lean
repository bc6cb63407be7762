/- Facts on the types of this program, one row each, made by program. -/
import Derived.Test.YthgjilgghgkodaaBase9
import Derived.Test.YthgjilgghgkodaaProg
import Derived.KernelRfl
namespace Go.TF
open Go Go.RowKit Go.Proofs
theorem mixed : Try.prog.follows .mixedOrders = true := by kernel_rfl
theorem ty_1 : Ty Try.prog 1 1 false := ⟨Try.sizeOf1, Try.isAgg1, by decide⟩
theorem ty_2 : Ty Try.prog 2 1 false := ⟨Try.sizeOf2, Try.isAgg2, by decide⟩
theorem ty_3 : Ty Try.prog 3 1 false := ⟨Try.sizeOf3, Try.isAgg3, by decide⟩
theorem ty_4 : Ty Try.prog 4 1 false := ⟨Try.sizeOf4, Try.isAgg4, by decide⟩
theorem ty_5 : Ty Try.prog 5 1 false := ⟨Try.sizeOf5, Try.isAgg5, by decide⟩
theorem ty_6 : Ty Try.prog 6 1 false := ⟨Try.sizeOf6, Try.isAgg6, by decide⟩
theorem ty_7 : Ty Try.prog 7 4 true := ⟨Try.sizeOf7, Try.isAgg7, by decide⟩
theorem ty_8 : Ty Try.prog 8 4 true := ⟨Try.sizeOf8, Try.isAgg8, by decide⟩
theorem ty_9 : Ty Try.prog 9 1 false := ⟨Try.sizeOf9, Try.isAgg9, by decide⟩
theorem ty_10 : Ty Try.prog 10 1 false := ⟨Try.sizeOf10, Try.isAgg10, by decide⟩
theorem ty_11 : Ty Try.prog 11 1 false := ⟨Try.sizeOf11, Try.isAgg11, by decide⟩
theorem ty_12 : Ty Try.prog 12 1 false := ⟨Try.sizeOf12, Try.isAgg12, by decide⟩
theorem ty_13 : Ty Try.prog 13 2 true := ⟨Try.sizeOf13, Try.isAgg13, by decide⟩
theorem fa_13_0 : FA Try.prog 13 0 0 := fun a w => by simp [Instr.fieldAt, Try.runUnderlying13, Instr.sureAddr, fieldPlace, Try.sizeOf9]
theorem fd_13_0 : Fd Try.prog 13 0 9 0 := ⟨_, _, Try.underlying13, rfl, rfl, rfl⟩
theorem fa_13_1 : FA Try.prog 13 1 1 := fun a w => by simp [Instr.fieldAt, Try.runUnderlying13, Instr.sureAddr, fieldPlace, Try.sizeOf12]
theorem fd_13_1 : Fd Try.prog 13 1 12 1 := ⟨_, _, Try.underlying13, rfl, rfl, rfl⟩
theorem pl_13 : Pl Try.prog 13 [(0, 1), (1, 1)] := ⟨_, Try.underlying13, fun w => by simp [Try.sizeOf12, Try.sizeOf9]⟩
theorem ty_14 : Ty Try.prog 14 2 true := ⟨Try.sizeOf14, Try.isAgg14, by decide⟩
theorem ty_15 : Ty Try.prog 15 1 false := ⟨Try.sizeOf15, Try.isAgg15, by decide⟩
theorem ty_16 : Ty Try.prog 16 1 false := ⟨Try.sizeOf16, Try.isAgg16, by decide⟩
theorem ty_17 : Ty Try.prog 17 1 false := ⟨Try.sizeOf17, Try.isAgg17, by decide⟩
theorem ty_18 : Ty Try.prog 18 1 true := ⟨Try.sizeOf18, Try.isAgg18, by decide⟩
theorem ty_19 : Ty Try.prog 19 1 true := ⟨Try.sizeOf19, Try.isAgg19, by decide⟩
theorem ty_21 : Ty Try.prog 21 1 false := ⟨Try.sizeOf21, Try.isAgg21, by decide⟩
theorem ty_22 : Ty Try.prog 22 1 false := ⟨Try.sizeOf22, Try.isAgg22, by decide⟩
theorem ty_24 : Ty Try.prog 24 1 false := ⟨Try.sizeOf24, Try.isAgg24, by decide⟩
theorem ty_25 : Ty Try.prog 25 1 false := ⟨Try.sizeOf25, Try.isAgg25, by decide⟩
theorem ty_26 : Ty Try.prog 26 1 false := ⟨Try.sizeOf26, Try.isAgg26, by decide⟩
theorem ty_27 : Ty Try.prog 27 1 false := ⟨Try.sizeOf27, Try.isAgg27, by decide⟩
theorem ty_29 : Ty Try.prog 29 1 false := ⟨Try.sizeOf29, Try.isAgg29, by decide⟩
theorem ty_30 : Ty Try.prog 30 1 false := ⟨Try.sizeOf30, Try.isAgg30, by decide⟩
theorem ty_31 : Ty Try.prog 31 1 false := ⟨Try.sizeOf31, Try.isAgg31, by decide⟩
theorem ty_32 : Ty Try.prog 32 1 false := ⟨Try.sizeOf32, Try.isAgg32, by decide⟩
theorem ty_33 : Ty Try.prog 33 1 false := ⟨Try.sizeOf33, Try.isAgg33, by decide⟩
theorem ty_34 : Ty Try.prog 34 2 true := ⟨Try.sizeOf34, Try.isAgg34, by decide⟩
theorem fa_34_0 : FA Try.prog 34 0 0 := fun a w => by simp [Instr.fieldAt, Try.runUnderlying34, Instr.sureAddr, fieldPlace, Try.sizeOf3]
theorem fd_34_0 : Fd Try.prog 34 0 3 0 := ⟨_, _, Try.underlying34, rfl, rfl, rfl⟩
theorem fa_34_1 : FA Try.prog 34 1 1 := fun a w => by simp [Instr.fieldAt, Try.runUnderlying34, Instr.sureAddr, fieldPlace, Try.sizeOf33]
theorem fd_34_1 : Fd Try.prog 34 1 33 1 := ⟨_, _, Try.underlying34, rfl, rfl, rfl⟩
theorem pl_34 : Pl Try.prog 34 [(0, 1), (1, 1)] := ⟨_, Try.underlying34, fun w => by simp [Try.sizeOf3, Try.sizeOf33]⟩
theorem ty_35 : Ty Try.prog 35 2 true := ⟨Try.sizeOf35, Try.isAgg35, by decide⟩
theorem fa_35_0 : FA Try.prog 35 0 0 := fun a w => by simp [Instr.fieldAt, Try.runUnderlying35, Instr.sureAddr, fieldPlace, Try.sizeOf3]
theorem fd_35_0 : Fd Try.prog 35 0 3 0 := ⟨_, _, Try.underlying35, rfl, rfl, rfl⟩
theorem fa_35_1 : FA Try.prog 35 1 1 := fun a w => by simp [Instr.fieldAt, Try.runUnderlying35, Instr.sureAddr, fieldPlace, Try.sizeOf33]
theorem fd_35_1 : Fd Try.prog 35 1 33 1 := ⟨_, _, Try.underlying35, rfl, rfl, rfl⟩
theorem pl_35 : Pl Try.prog 35 [(0, 1), (1, 1)] := ⟨_, Try.underlying35, fun w => by simp [Try.sizeOf3, Try.sizeOf33]⟩
theorem ty_36 : Ty Try.prog 36 1 false := ⟨Try.sizeOf36, Try.isAgg36, by decide⟩
theorem ty_37 : Ty Try.prog 37 5 true := ⟨Try.sizeOf37, Try.isAgg37, by decide⟩
theorem fa_37_0 : FA Try.prog 37 0 0 := fun a w => by simp [Instr.fieldAt, Try.runUnderlying37, Instr.sureAddr, fieldPlace, Try.sizeOf35]
theorem fd_37_0 : Fd Try.prog 37 0 35 0 := ⟨_, _, Try.underlying37, rfl, rfl, rfl⟩
theorem fa_37_1 : FA Try.prog 37 1 2 := fun a w => by simp [Instr.fieldAt, Try.runUnderlying37, Instr.sureAddr, fieldPlace, Try.sizeOf3]
theorem fd_37_1 : Fd Try.prog 37 1 3 2 := ⟨_, _, Try.underlying37, rfl, rfl, rfl⟩
theorem fa_37_2 : FA Try.prog 37 2 3 := fun a w => by simp [Instr.fieldAt, Try.runUnderlying37, Instr.sureAddr, fieldPlace, Try.sizeOf3]
theorem fd_37_2 : Fd Try.prog 37 2 3 3 := ⟨_, _, Try.underlying37, rfl, rfl, rfl⟩
theorem fa_37_3 : FA Try.prog 37 3 4 := fun a w => by simp [Instr.fieldAt, Try.runUnderlying37, Instr.sureAddr, fieldPlace, Try.sizeOf36]
theorem fd_37_3 : Fd Try.prog 37 3 36 4 := ⟨_, _, Try.underlying37, rfl, rfl, rfl⟩
theorem pl_37 : Pl Try.prog 37 [(0, 2), (2, 1), (3, 1), (4, 1)] := ⟨_, Try.underlying37, fun w => by simp [Try.sizeOf3, Try.sizeOf35, Try.sizeOf36]⟩
theorem ty_38 : Ty Try.prog 38 5 true := ⟨Try.sizeOf38, Try.isAgg38, by decide⟩
theorem fa_38_0 : FA Try.prog 38 0 0 := fun a w => by simp [Instr.fieldAt, Try.runUnderlying38, Instr.sureAddr, fieldPlace, Try.sizeOf35]
theorem fd_38_0 : Fd Try.prog 38 0 35 0 := ⟨_, _, Try.underlying38, rfl, rfl, rfl⟩
theorem fa_38_1 : FA Try.prog 38 1 2 := fun a w => by simp [Instr.fieldAt, Try.runUnderlying38, Instr.sureAddr, fieldPlace, Try.sizeOf3]
theorem fd_38_1 : Fd Try.prog 38 1 3 2 := ⟨_, _, Try.underlying38, rfl, rfl, rfl⟩
theorem fa_38_2 : FA Try.prog 38 2 3 := fun a w => by simp [Instr.fieldAt, Try.runUnderlying38, Instr.sureAddr, fieldPlace, Try.sizeOf3]
theorem fd_38_2 : Fd Try.prog 38 2 3 3 := ⟨_, _, Try.underlying38, rfl, rfl, rfl⟩
theorem fa_38_3 : FA Try.prog 38 3 4 := fun a w => by simp [Instr.fieldAt, Try.runUnderlying38, Instr.sureAddr, fieldPlace, Try.sizeOf36]
theorem fd_38_3 : Fd Try.prog 38 3 36 4 := ⟨_, _, Try.underlying38, rfl, rfl, rfl⟩
theorem pl_38 : Pl Try.prog 38 [(0, 2), (2, 1), (3, 1), (4, 1)] := ⟨_, Try.underlying38, fun w => by simp [Try.sizeOf3, Try.sizeOf35, Try.sizeOf36]⟩
theorem ty_39 : Ty Try.prog 39 1 false := ⟨Try.sizeOf39, Try.isAgg39, by decide⟩
theorem ty_40 : Ty Try.prog 40 1 false := ⟨Try.sizeOf40, Try.isAgg40, by decide⟩
theorem ty_41 : Ty Try.prog 41 1 false := ⟨Try.sizeOf41, Try.isAgg41, by decide⟩
theorem ty_42 : Ty Try.prog 42 3 true := ⟨Try.sizeOf42, Try.isAgg42, by decide⟩
theorem ty_43 : Ty Try.prog 43 4 true := ⟨Try.sizeOf43, Try.isAgg43, by decide⟩
theorem fa_43_0 : FA Try.prog 43 0 0 := fun a w => by simp [Instr.fieldAt, Try.runUnderlying43, Instr.sureAddr, fieldPlace, Try.sizeOf3]
theorem fd_43_0 : Fd Try.prog 43 0 3 0 := ⟨_, _, Try.underlying43, rfl, rfl, rfl⟩
theorem fa_43_1 : FA Try.prog 43 1 1 := fun a w => by simp [Instr.fieldAt, Try.runUnderlying43, Instr.sureAddr, fieldPlace, Try.sizeOf3]
theorem fd_43_1 : Fd Try.prog 43 1 3 1 := ⟨_, _, Try.underlying43, rfl, rfl, rfl⟩
theorem fa_43_2 : FA Try.prog 43 2 2 := fun a w => by simp [Instr.fieldAt, Try.runUnderlying43, Instr.sureAddr, fieldPlace, Try.sizeOf3]
theorem fd_43_2 : Fd Try.prog 43 2 3 2 := ⟨_, _, Try.underlying43, rfl, rfl, rfl⟩
theorem fa_43_3 : FA Try.prog 43 3 3 := fun a w => by simp [Instr.fieldAt, Try.runUnderlying43, Instr.sureAddr, fieldPlace, Try.sizeOf3]
theorem fd_43_3 : Fd Try.prog 43 3 3 3 := ⟨_, _, Try.underlying43, rfl, rfl, rfl⟩
theorem pl_43 : Pl Try.prog 43 [(0, 1), (1, 1), (2, 1), (3, 1)] := ⟨_, Try.underlying43, fun w => by simp [Try.sizeOf3]⟩
theorem ty_44 : Ty Try.prog 44 4 true := ⟨Try.sizeOf44, Try.isAgg44, by decide⟩
theorem fa_44_0 : FA Try.prog 44 0 0 := fun a w => by simp [Instr.fieldAt, Try.runUnderlying44, Instr.sureAddr, fieldPlace, Try.sizeOf3]
theorem fd_44_0 : Fd Try.prog 44 0 3 0 := ⟨_, _, Try.underlying44, rfl, rfl, rfl⟩
theorem fa_44_1 : FA Try.prog 44 1 1 := fun a w => by simp [Instr.fieldAt, Try.runUnderlying44, Instr.sureAddr, fieldPlace, Try.sizeOf3]
theorem fd_44_1 : Fd Try.prog 44 1 3 1 := ⟨_, _, Try.underlying44, rfl, rfl, rfl⟩
theorem fa_44_2 : FA Try.prog 44 2 2 := fun a w => by simp [Instr.fieldAt, Try.runUnderlying44, Instr.sureAddr, fieldPlace, Try.sizeOf3]
theorem fd_44_2 : Fd Try.prog 44 2 3 2 := ⟨_, _, Try.underlying44, rfl, rfl, rfl⟩
theorem fa_44_3 : FA Try.prog 44 3 3 := fun a w => by simp [Instr.fieldAt, Try.runUnderlying44, Instr.sureAddr, fieldPlace, Try.sizeOf3]
theorem fd_44_3 : Fd Try.prog 44 3 3 3 := ⟨_, _, Try.underlying44, rfl, rfl, rfl⟩
theorem pl_44 : Pl Try.prog 44 [(0, 1), (1, 1), (2, 1), (3, 1)] := ⟨_, Try.underlying44, fun w => by simp [Try.sizeOf3]⟩
theorem ty_46 : Ty Try.prog 46 1 false := ⟨Try.sizeOf46, Try.isAgg46, by decide⟩
theorem ty_47 : Ty Try.prog 47 1 false := ⟨Try.sizeOf47, Try.isAgg47, by decide⟩
theorem ty_48 : Ty Try.prog 48 3 true := ⟨Try.sizeOf48, Try.isAgg48, by decide⟩
theorem fa_48_0 : FA Try.prog 48 0 0 := fun a w => by simp [Instr.fieldAt, Try.runUnderlying48, Instr.sureAddr, fieldPlace, Try.sizeOf9]
theorem fd_48_0 : Fd Try.prog 48 0 9 0 := ⟨_, _, Try.underlying48, rfl, rfl, rfl⟩
theorem fa_48_1 : FA Try.prog 48 1 1 := fun a w => by simp [Instr.fieldAt, Try.runUnderlying48, Instr.sureAddr, fieldPlace, Try.sizeOf3]
theorem fd_48_1 : Fd Try.prog 48 1 3 1 := ⟨_, _, Try.underlying48, rfl, rfl, rfl⟩
theorem fa_48_2 : FA Try.prog 48 2 2 := fun a w => by simp [Instr.fieldAt, Try.runUnderlying48, Instr.sureAddr, fieldPlace, Try.sizeOf3]
theorem fd_48_2 : Fd Try.prog 48 2 3 2 := ⟨_, _, Try.underlying48, rfl, rfl, rfl⟩
theorem pl_48 : Pl Try.prog 48 [(0, 1), (1, 1), (2, 1)] := ⟨_, Try.underlying48, fun w => by simp [Try.sizeOf3, Try.sizeOf9]⟩
theorem ty_49 : Ty Try.prog 49 3 true := ⟨Try.sizeOf49, Try.isAgg49, by decide⟩
theorem fa_49_0 : FA Try.prog 49 0 0 := fun a w => by simp [Instr.fieldAt, Try.runUnderlying49, Instr.sureAddr, fieldPlace, Try.sizeOf9]
theorem fd_49_0 : Fd Try.prog 49 0 9 0 := ⟨_, _, Try.underlying49, rfl, rfl, rfl⟩
theorem fa_49_1 : FA Try.prog 49 1 1 := fun a w => by simp [Instr.fieldAt, Try.runUnderlying49, Instr.sureAddr, fieldPlace, Try.sizeOf3]
theorem fd_49_1 : Fd Try.prog 49 1 3 1 := ⟨_, _, Try.underlying49, rfl, rfl, rfl⟩
theorem fa_49_2 : FA Try.prog 49 2 2 := fun a w => by simp [Instr.fieldAt, Try.runUnderlying49, Instr.sureAddr, fieldPlace, Try.sizeOf3]
theorem fd_49_2 : Fd Try.prog 49 2 3 2 := ⟨_, _, Try.underlying49, rfl, rfl, rfl⟩
theorem pl_49 : Pl Try.prog 49 [(0, 1), (1, 1), (2, 1)] := ⟨_, Try.underlying49, fun w => by simp [Try.sizeOf3, Try.sizeOf9]⟩
theorem ty_50 : Ty Try.prog 50 1 false := ⟨Try.sizeOf50, Try.isAgg50, by decide⟩
theorem ty_51 : Ty Try.prog 51 1 false := ⟨Try.sizeOf51, Try.isAgg51, by decide⟩
theorem ty_52 : Ty Try.prog 52 1 false := ⟨Try.sizeOf52, Try.isAgg52, by decide⟩
theorem ty_53 : Ty Try.prog 53 2 true := ⟨Try.sizeOf53, Try.isAgg53, by decide⟩
theorem fa_53_0 : FA Try.prog 53 0 0 := fun a w => by simp [Instr.fieldAt, Try.runUnderlying53, Instr.sureAddr, fieldPlace, Try.sizeOf32]
theorem fd_53_0 : Fd Try.prog 53 0 32 0 := ⟨_, _, Try.underlying53, rfl, rfl, rfl⟩
theorem fa_53_1 : FA Try.prog 53 1 1 := fun a w => by simp [Instr.fieldAt, Try.runUnderlying53, Instr.sureAddr, fieldPlace, Try.sizeOf52]
theorem fd_53_1 : Fd Try.prog 53 1 52 1 := ⟨_, _, Try.underlying53, rfl, rfl, rfl⟩
theorem pl_53 : Pl Try.prog 53 [(0, 1), (1, 1)] := ⟨_, Try.underlying53, fun w => by simp [Try.sizeOf32, Try.sizeOf52]⟩
theorem ty_54 : Ty Try.prog 54 2 true := ⟨Try.sizeOf54, Try.isAgg54, by decide⟩
theorem fa_54_0 : FA Try.prog 54 0 0 := fun a w => by simp [Instr.fieldAt, Try.runUnderlying54, Instr.sureAddr, fieldPlace, Try.sizeOf32]
theorem fd_54_0 : Fd Try.prog 54 0 32 0 := ⟨_, _, Try.underlying54, rfl, rfl, rfl⟩
theorem fa_54_1 : FA Try.prog 54 1 1 := fun a w => by simp [Instr.fieldAt, Try.runUnderlying54, Instr.sureAddr, fieldPlace, Try.sizeOf52]
theorem fd_54_1 : Fd Try.prog 54 1 52 1 := ⟨_, _, Try.underlying54, rfl, rfl, rfl⟩
theorem pl_54 : Pl Try.prog 54 [(0, 1), (1, 1)] := ⟨_, Try.underlying54, fun w => by simp [Try.sizeOf32, Try.sizeOf52]⟩
theorem ty_55 : Ty Try.prog 55 1 false := ⟨Try.sizeOf55, Try.isAgg55, by decide⟩
theorem ty_56 : Ty Try.prog 56 1 false := ⟨Try.sizeOf56, Try.isAgg56, by decide⟩
theorem ty_57 : Ty Try.prog 57 1 false := ⟨Try.sizeOf57, Try.isAgg57, by decide⟩
theorem ty_58 : Ty Try.prog 58 1 false := ⟨Try.sizeOf58, Try.isAgg58, by decide⟩
theorem ty_60 : Ty Try.prog 60 1 false := ⟨Try.sizeOf60, Try.isAgg60, by decide⟩
theorem ty_61 : Ty Try.prog 61 1 false := ⟨Try.sizeOf61, Try.isAgg61, by decide⟩
theorem ty_63 : Ty Try.prog 63 1 false := ⟨Try.sizeOf63, Try.isAgg63, by decide⟩
theorem ty_64 : Ty Try.prog 64 1 false := ⟨Try.sizeOf64, Try.isAgg64, by decide⟩
theorem ty_65 : Ty Try.prog 65 1 false := ⟨Try.sizeOf65, Try.isAgg65, by decide⟩
theorem ty_66 : Ty Try.prog 66 1 false := ⟨Try.sizeOf66, Try.isAgg66, by decide⟩
theorem ty_67 : Ty Try.prog 67 1 false := ⟨Try.sizeOf67, Try.isAgg67, by decide⟩
theorem ty_68 : Ty Try.prog 68 1 false := ⟨Try.sizeOf68, Try.isAgg68, by decide⟩
theorem ty_69 : Ty Try.prog 69 1 false := ⟨Try.sizeOf69, Try.isAgg69, by decide⟩
theorem ty_70 : Ty Try.prog 70 3 true := ⟨Try.sizeOf70, Try.isAgg70, by decide⟩
theorem fa_70_0 : FA Try.prog 70 0 0 := fun a w => by simp [Instr.fieldAt, Try.runUnderlying70, Instr.sureAddr, fieldPlace, Try.sizeOf4]
theorem fd_70_0 : Fd Try.prog 70 0 4 0 := ⟨_, _, Try.underlying70, rfl, rfl, rfl⟩
theorem fa_70_1 : FA Try.prog 70 1 1 := fun a w => by simp [Instr.fieldAt, Try.runUnderlying70, Instr.sureAddr, fieldPlace, Try.sizeOf35]
theorem fd_70_1 : Fd Try.prog 70 1 35 1 := ⟨_, _, Try.underlying70, rfl, rfl, rfl⟩
theorem pl_70 : Pl Try.prog 70 [(0, 1), (1, 2)] := ⟨_, Try.underlying70, fun w => by simp [Try.sizeOf35, Try.sizeOf4]⟩
theorem ty_71 : Ty Try.prog 71 3 true := ⟨Try.sizeOf71, Try.isAgg71, by decide⟩
theorem fa_71_0 : FA Try.prog 71 0 0 := fun a w => by simp [Instr.fieldAt, Try.runUnderlying71, Instr.sureAddr, fieldPlace, Try.sizeOf4]
theorem fd_71_0 : Fd Try.prog 71 0 4 0 := ⟨_, _, Try.underlying71, rfl, rfl, rfl⟩
theorem fa_71_1 : FA Try.prog 71 1 1 := fun a w => by simp [Instr.fieldAt, Try.runUnderlying71, Instr.sureAddr, fieldPlace, Try.sizeOf35]
theorem fd_71_1 : Fd Try.prog 71 1 35 1 := ⟨_, _, Try.underlying71, rfl, rfl, rfl⟩
theorem pl_71 : Pl Try.prog 71 [(0, 1), (1, 2)] := ⟨_, Try.underlying71, fun w => by simp [Try.sizeOf35, Try.sizeOf4]⟩
theorem ty_72 : Ty Try.prog 72 1 false := ⟨Try.sizeOf72, Try.isAgg72, by decide⟩
theorem ty_74 : Ty Try.prog 74 1 false := ⟨Try.sizeOf74, Try.isAgg74, by decide⟩
theorem ty_75 : Ty Try.prog 75 1 false := ⟨Try.sizeOf75, Try.isAgg75, by decide⟩
theorem ty_76 : Ty Try.prog 76 1 false := ⟨Try.sizeOf76, Try.isAgg76, by decide⟩
theorem ty_77 : Ty Try.prog 77 1 false := ⟨Try.sizeOf77, Try.isAgg77, by decide⟩
theorem ty_78 : Ty Try.prog 78 1 false := ⟨Try.sizeOf78, Try.isAgg78, by decide⟩
theorem ty_79 : Ty Try.prog 79 1 false := ⟨Try.sizeOf79, Try.isAgg79, by decide⟩
theorem ty_80 : Ty Try.prog 80 1 false := ⟨Try.sizeOf80, Try.isAgg80, by decide⟩
theorem ty_81 : Ty Try.prog 81 1 false := ⟨Try.sizeOf81, Try.isAgg81, by decide⟩
theorem ty_82 : Ty Try.prog 82 2 true := ⟨Try.sizeOf82, Try.isAgg82, by decide⟩
theorem fa_82_0 : FA Try.prog 82 0 0 := fun a w => by simp [Instr.fieldAt, Try.runUnderlying82, Instr.sureAddr, fieldPlace, Try.sizeOf4]
theorem fd_82_0 : Fd Try.prog 82 0 4 0 := ⟨_, _, Try.underlying82, rfl, rfl, rfl⟩
theorem fa_82_1 : FA Try.prog 82 1 1 := fun a w => by simp [Instr.fieldAt, Try.runUnderlying82, Instr.sureAddr, fieldPlace, Try.sizeOf3]
theorem fd_82_1 : Fd Try.prog 82 1 3 1 := ⟨_, _, Try.underlying82, rfl, rfl, rfl⟩
theorem pl_82 : Pl Try.prog 82 [(0, 1), (1, 1)] := ⟨_, Try.underlying82, fun w => by simp [Try.sizeOf3, Try.sizeOf4]⟩
theorem ty_83 : Ty Try.prog 83 2 true := ⟨Try.sizeOf83, Try.isAgg83, by decide⟩
theorem fa_83_0 : FA Try.prog 83 0 0 := fun a w => by simp [Instr.fieldAt, Try.runUnderlying83, Instr.sureAddr, fieldPlace, Try.sizeOf4]
theorem fd_83_0 : Fd Try.prog 83 0 4 0 := ⟨_, _, Try.underlying83, rfl, rfl, rfl⟩
theorem fa_83_1 : FA Try.prog 83 1 1 := fun a w => by simp [Instr.fieldAt, Try.runUnderlying83, Instr.sureAddr, fieldPlace, Try.sizeOf3]
theorem fd_83_1 : Fd Try.prog 83 1 3 1 := ⟨_, _, Try.underlying83, rfl, rfl, rfl⟩
theorem pl_83 : Pl Try.prog 83 [(0, 1), (1, 1)] := ⟨_, Try.underlying83, fun w => by simp [Try.sizeOf3, Try.sizeOf4]⟩
theorem ty_84 : Ty Try.prog 84 1 false := ⟨Try.sizeOf84, Try.isAgg84, by decide⟩
theorem ty_85 : Ty Try.prog 85 1 false := ⟨Try.sizeOf85, Try.isAgg85, by decide⟩
theorem ty_86 : Ty Try.prog 86 1 false := ⟨Try.sizeOf86, Try.isAgg86, by decide⟩
theorem ty_88 : Ty Try.prog 88 1 false := ⟨Try.sizeOf88, Try.isAgg88, by decide⟩
theorem ty_89 : Ty Try.prog 89 1 false := ⟨Try.sizeOf89, Try.isAgg89, by decide⟩
theorem ty_90 : Ty Try.prog 90 1 false := ⟨Try.sizeOf90, Try.isAgg90, by decide⟩
theorem ty_91 : Ty Try.prog 91 1 false := ⟨Try.sizeOf91, Try.isAgg91, by decide⟩
theorem ty_92 : Ty Try.prog 92 1 false := ⟨Try.sizeOf92, Try.isAgg92, by decide⟩
theorem ty_93 : Ty Try.prog 93 1 false := ⟨Try.sizeOf93, Try.isAgg93, by decide⟩
theorem ty_94 : Ty Try.prog 94 1 false := ⟨Try.sizeOf94, Try.isAgg94, by decide⟩
theorem ty_95 : Ty Try.prog 95 1 false := ⟨Try.sizeOf95, Try.isAgg95, by decide⟩
theorem ty_96 : Ty Try.prog 96 1 false := ⟨Try.sizeOf96, Try.isAgg96, by decide⟩
theorem ty_97 : Ty Try.prog 97 1 false := ⟨Try.sizeOf97, Try.isAgg97, by decide⟩
theorem ty_98 : Ty Try.prog 98 1 false := ⟨Try.sizeOf98, Try.isAgg98, by decide⟩
theorem ty_100 : Ty Try.prog 100 1 false := ⟨Try.sizeOf100, Try.isAgg100, by decide⟩
theorem ty_101 : Ty Try.prog 101 1 false := ⟨Try.sizeOf101, Try.isAgg101, by decide⟩
theorem ty_102 : Ty Try.prog 102 1 false := ⟨Try.sizeOf102, Try.isAgg102, by decide⟩
theorem ty_103 : Ty Try.prog 103 1 false := ⟨Try.sizeOf103, Try.isAgg103, by decide⟩
theorem ty_104 : Ty Try.prog 104 1 false := ⟨Try.sizeOf104, Try.isAgg104, by decide⟩
theorem ty_105 : Ty Try.prog 105 1 false := ⟨Try.sizeOf105, Try.isAgg105, by decide⟩
theorem ty_106 : Ty Try.prog 106 1 false := ⟨Try.sizeOf106, Try.isAgg106, by decide⟩
theorem ty_107 : Ty Try.prog 107 1 false := ⟨Try.sizeOf107, Try.isAgg107, by decide⟩
theorem ty_108 : Ty Try.prog 108 1 false := ⟨Try.sizeOf108, Try.isAgg108, by decide⟩
theorem ty_109 : Ty Try.prog 109 1 false := ⟨Try.sizeOf109, Try.isAgg109, by decide⟩
theorem ty_110 : Ty Try.prog 110 1 false := ⟨Try.sizeOf110, Try.isAgg110, by decide⟩
theorem ty_111 : Ty Try.prog 111 1 false := ⟨Try.sizeOf111, Try.isAgg111, by decide⟩
theorem ty_112 : Ty Try.prog 112 2 true := ⟨Try.sizeOf112, Try.isAgg112, by decide⟩
theorem fa_112_0 : FA Try.prog 112 0 0 := fun a w => by simp [Instr.fieldAt, Try.runUnderlying112, Instr.sureAddr, fieldPlace, Try.sizeOf69]
theorem fd_112_0 : Fd Try.prog 112 0 69 0 := ⟨_, _, Try.underlying112, rfl, rfl, rfl⟩
theorem fa_112_1 : FA Try.prog 112 1 1 := fun a w => by simp [Instr.fieldAt, Try.runUnderlying112, Instr.sureAddr, fieldPlace, Try.sizeOf69]
theorem fd_112_1 : Fd Try.prog 112 1 69 1 := ⟨_, _, Try.underlying112, rfl, rfl, rfl⟩
theorem pl_112 : Pl Try.prog 112 [(0, 1), (1, 1)] := ⟨_, Try.underlying112, fun w => by simp [Try.sizeOf69]⟩
theorem ty_113 : Ty Try.prog 113 2 true := ⟨Try.sizeOf113, Try.isAgg113, by decide⟩
theorem fa_113_0 : FA Try.prog 113 0 0 := fun a w => by simp [Instr.fieldAt, Try.runUnderlying113, Instr.sureAddr, fieldPlace, Try.sizeOf69]
theorem fd_113_0 : Fd Try.prog 113 0 69 0 := ⟨_, _, Try.underlying113, rfl, rfl, rfl⟩
theorem fa_113_1 : FA Try.prog 113 1 1 := fun a w => by simp [Instr.fieldAt, Try.runUnderlying113, Instr.sureAddr, fieldPlace, Try.sizeOf69]
theorem fd_113_1 : Fd Try.prog 113 1 69 1 := ⟨_, _, Try.underlying113, rfl, rfl, rfl⟩
theorem pl_113 : Pl Try.prog 113 [(0, 1), (1, 1)] := ⟨_, Try.underlying113, fun w => by simp [Try.sizeOf69]⟩
theorem ty_114 : Ty Try.prog 114 8 true := ⟨Try.sizeOf114, Try.isAgg114, by decide⟩
theorem ty_115 : Ty Try.prog 115 1 false := ⟨Try.sizeOf115, Try.isAgg115, by decide⟩
theorem ty_116 : Ty Try.prog 116 1 false := ⟨Try.sizeOf116, Try.isAgg116, by decide⟩
theorem ty_117 : Ty Try.prog 117 1 false := ⟨Try.sizeOf117, Try.isAgg117, by decide⟩
theorem ty_118 : Ty Try.prog 118 2 true := ⟨Try.sizeOf118, Try.isAgg118, by decide⟩
theorem ty_119 : Ty Try.prog 119 1 false := ⟨Try.sizeOf119, Try.isAgg119, by decide⟩
theorem ty_120 : Ty Try.prog 120 1 false := ⟨Try.sizeOf120, Try.isAgg120, by decide⟩
theorem ty_121 : Ty Try.prog 121 1 false := ⟨Try.sizeOf121, Try.isAgg121, by decide⟩
theorem ty_122 : Ty Try.prog 122 1 false := ⟨Try.sizeOf122, Try.isAgg122, by decide⟩
theorem ty_123 : Ty Try.prog 123 1 false := ⟨Try.sizeOf123, Try.isAgg123, by decide⟩
theorem ty_124 : Ty Try.prog 124 1 false := ⟨Try.sizeOf124, Try.isAgg124, by decide⟩
theorem ty_125 : Ty Try.prog 125 1 false := ⟨Try.sizeOf125, Try.isAgg125, by decide⟩
theorem ty_126 : Ty Try.prog 126 1 false := ⟨Try.sizeOf126, Try.isAgg126, by decide⟩
theorem ty_127 : Ty Try.prog 127 4 true := ⟨Try.sizeOf127, Try.isAgg127, by decide⟩
theorem ty_128 : Ty Try.prog 128 4 true := ⟨Try.sizeOf128, Try.isAgg128, by decide⟩
theorem ty_129 : Ty Try.prog 129 0 true := ⟨Try.sizeOf129, Try.isAgg129, by decide⟩
theorem ty_130 : Ty Try.prog 130 0 true := ⟨Try.sizeOf130, Try.isAgg130, by decide⟩
theorem ty_131 : Ty Try.prog 131 0 true := ⟨Try.sizeOf131, Try.isAgg131, by decide⟩
theorem ty_132 : Ty Try.prog 132 1 false := ⟨Try.sizeOf132, Try.isAgg132, by decide⟩
theorem ty_133 : Ty Try.prog 133 1 false := ⟨Try.sizeOf133, Try.isAgg133, by decide⟩
theorem ty_134 : Ty Try.prog 134 1 false := ⟨Try.sizeOf134, Try.isAgg134, by decide⟩
theorem ty_135 : Ty Try.prog 135 1 false := ⟨Try.sizeOf135, Try.isAgg135, by decide⟩
theorem ty_136 : Ty Try.prog 136 1 false := ⟨Try.sizeOf136, Try.isAgg136, by decide⟩
theorem ty_137 : Ty Try.prog 137 1 false := ⟨Try.sizeOf137, Try.isAgg137, by decide⟩
theorem ty_138 : Ty Try.prog 138 1 false := ⟨Try.sizeOf138, Try.isAgg138, by decide⟩
theorem ty_139 : Ty Try.prog 139 1 false := ⟨Try.sizeOf139, Try.isAgg139, by decide⟩
theorem ty_140 : Ty Try.prog 140 11 true := ⟨Try.sizeOf140, Try.isAgg140, by decide⟩
theorem ty_141 : Ty Try.prog 141 11 true := ⟨Try.sizeOf141, Try.isAgg141, by decide⟩
theorem eq_44 (a0 : Int) (a1 : Int) (a2 : Int) (a3 : Int) (b0 : Int) (b1 : Int) (b2 : Int) (b3 : Int) (w : World) : (Op.equalIn 10000 44 (.agg #[.int .i64 a0, .int .i64 a1, .int .i64 a2, .int .i64 a3]) (.agg #[.int .i64 b0, .int .i64 b1, .int .i64 b2, .int .i64 b3])).run Try.prog w = .ok ((a0 == b0) && ((a1 == b1) && ((a2 == b2) && ((a3 == b3) && true)))) w := by
  rw [show 10000 = 9998 + 1 + 1 from rfl, run_equalIn_struct w _ 44 _ _ (by simp only [Program.fieldsOf, Try.underlying44]) Try.stoodInHeld44]
  simp only [Program.fieldsOf, Try.underlying44, Op.eqFields]
  have p : ∀ T, (∀ w, (isAgg T).run Try.prog w = .ok false w) → ∀ (cs : Array Value) (o : Nat) v, cs[o]? = some v → (Go.part T cs o).run Try.prog w = .ok v w := fun T h cs o v hv => part_leaf h hv w
  cases h0 : (a0 == b0) <;> cases h1 : (a1 == b1) <;> cases h2 : (a2 == b2) <;> cases h3 : (a3 == b3) <;> simp [p 3 Try.isAgg3, run_equalIn_int w _ 3 .i64 .i64 _ _ Try.underlying3, h0, h1, h2, h3]
theorem eq_49 (a0 : ByteArray) (a1 : Int) (a2 : Int) (b0 : ByteArray) (b1 : Int) (b2 : Int) (w : World) : (Op.equalIn 10000 49 (.agg #[.string a0, .int .i64 a1, .int .i64 a2]) (.agg #[.string b0, .int .i64 b1, .int .i64 b2])).run Try.prog w = .ok ((a0.toList == b0.toList) && ((a1 == b1) && ((a2 == b2) && true))) w := by
  rw [show 10000 = 9998 + 1 + 1 from rfl, run_equalIn_struct w _ 49 _ _ (by simp only [Program.fieldsOf, Try.underlying49]) Try.stoodInHeld49]
  simp only [Program.fieldsOf, Try.underlying49, Op.eqFields]
  have p : ∀ T, (∀ w, (isAgg T).run Try.prog w = .ok false w) → ∀ (cs : Array Value) (o : Nat) v, cs[o]? = some v → (Go.part T cs o).run Try.prog w = .ok v w := fun T h cs o v hv => part_leaf h hv w
  cases h0 : (a0.toList == b0.toList) <;> cases h1 : (a1 == b1) <;> cases h2 : (a2 == b2) <;> simp [p 3 Try.isAgg3, p 9 Try.isAgg9, run_equalIn_int w _ 3 .i64 .i64 _ _ Try.underlying3, run_equalIn_string w _ 9 _ _ Try.underlying9, h0, h1, h2]
theorem eq_83 (a0 : Bool) (a1 : Int) (b0 : Bool) (b1 : Int) (w : World) : (Op.equalIn 10000 83 (.agg #[.bool a0, .int .i64 a1]) (.agg #[.bool b0, .int .i64 b1])).run Try.prog w = .ok ((a0 == b0) && ((a1 == b1) && true)) w := by
  rw [show 10000 = 9998 + 1 + 1 from rfl, run_equalIn_struct w _ 83 _ _ (by simp only [Program.fieldsOf, Try.underlying83]) Try.stoodInHeld83]
  simp only [Program.fieldsOf, Try.underlying83, Op.eqFields]
  have p : ∀ T, (∀ w, (isAgg T).run Try.prog w = .ok false w) → ∀ (cs : Array Value) (o : Nat) v, cs[o]? = some v → (Go.part T cs o).run Try.prog w = .ok v w := fun T h cs o v hv => part_leaf h hv w
  cases h0 : (a0 == b0) <;> cases h1 : (a1 == b1) <;> simp [p 3 Try.isAgg3, p 4 Try.isAgg4, run_equalIn_bool' w _ 4 _ _ Try.underlying4, run_equalIn_int w _ 3 .i64 .i64 _ _ Try.underlying3, h0, h1]
theorem et_3 : ElT Try.prog 3 1 8 (.int .i64 0) := ⟨by kernel_rfl, rfl, by decide⟩
theorem et_4 : ElT Try.prog 4 1 1 (.bool false) := ⟨by kernel_rfl, rfl, by decide⟩
theorem et_35 : ElT Try.prog 35 2 32 (.agg #[.int .i64 0, .slice none 0 0]) := ⟨by kernel_rfl, rfl, by decide⟩
theorem et_38 : ElT Try.prog 38 5 72 (.agg #[.int .i64 0, .slice none 0 0, .int .i64 0, .int .i64 0, .slice none 0 0]) := ⟨by kernel_rfl, rfl, by decide⟩
theorem et_49 : ElT Try.prog 49 3 32 (.agg #[.string ByteArray.empty, .int .i64 0, .int .i64 0]) := ⟨by kernel_rfl, rfl, by decide⟩
theorem et_52 : ElT Try.prog 52 1 24 (.slice none 0 0) := ⟨by kernel_rfl, rfl, by decide⟩
theorem et_54 : ElT Try.prog 54 2 48 (.agg #[.slice none 0 0, .slice none 0 0]) := ⟨by kernel_rfl, rfl, by decide⟩
theorem et_71 : ElT Try.prog 71 3 40 (.agg #[.bool false, .int .i64 0, .slice none 0 0]) := ⟨by kernel_rfl, rfl, by decide⟩
theorem et_83 : ElT Try.prog 83 2 16 (.agg #[.bool false, .int .i64 0]) := ⟨by kernel_rfl, rfl, by decide⟩
end Go.TF
