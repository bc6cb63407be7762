/- Facts on the types of this program, one row each, made by program. -/
import Derived.Test.YtenigglapeajdaaBase9
import Derived.Test.YtenigglapeajdaaProg
import Derived.KernelRfl
namespace Go.TF
open Go Go.RowKit Go.Proofs
theorem mixed : Try.prog.follows .mixedOrders = true := by kernel_rfl
theorem ty_1 : Ty Try.prog 1 1 false := ⟨Try.sizeOf1, Try.isAgg1, by decide⟩
theorem ty_2 : Ty Try.prog 2 1 false := ⟨Try.sizeOf2, Try.isAgg2, by decide⟩
theorem ty_3 : Ty Try.prog 3 1 false := ⟨Try.sizeOf3, Try.isAgg3, by decide⟩
theorem ty_4 : Ty Try.prog 4 1 false := ⟨Try.sizeOf4, Try.isAgg4, by decide⟩
theorem ty_5 : Ty Try.prog 5 1 false := ⟨Try.sizeOf5, Try.isAgg5, by decide⟩
theorem ty_6 : Ty Try.prog 6 1 false := ⟨Try.sizeOf6, Try.isAgg6, by decide⟩
theorem ty_7 : Ty Try.prog 7 4 true := ⟨Try.sizeOf7, Try.isAgg7, by decide⟩
theorem ty_8 : Ty Try.prog 8 4 true := ⟨Try.sizeOf8, Try.isAgg8, by decide⟩
theorem ty_9 : Ty Try.prog 9 1 false := ⟨Try.sizeOf9, Try.isAgg9, by decide⟩
theorem ty_10 : Ty Try.prog 10 1 false := ⟨Try.sizeOf10, Try.isAgg10, by decide⟩
theorem ty_11 : Ty Try.prog 11 1 false := ⟨Try.sizeOf11, Try.isAgg11, by decide⟩
theorem ty_12 : Ty Try.prog 12 1 false := ⟨Try.sizeOf12, Try.isAgg12, by decide⟩
theorem ty_13 : Ty Try.prog 13 2 true := ⟨Try.sizeOf13, Try.isAgg13, by decide⟩
theorem fa_13_0 : FA Try.prog 13 0 0 := fun a w => by simp [Instr.fieldAt, Try.runUnderlying13, Instr.sureAddr, fieldPlace, Try.sizeOf9]
theorem fd_13_0 : Fd Try.prog 13 0 9 0 := ⟨_, _, Try.underlying13, rfl, rfl, rfl⟩
theorem fa_13_1 : FA Try.prog 13 1 1 := fun a w => by simp [Instr.fieldAt, Try.runUnderlying13, Instr.sureAddr, fieldPlace, Try.sizeOf12]
theorem fd_13_1 : Fd Try.prog 13 1 12 1 := ⟨_, _, Try.underlying13, rfl, rfl, rfl⟩
theorem pl_13 : Pl Try.prog 13 [(0, 1), (1, 1)] := ⟨_, Try.underlying13, fun w => by simp [Try.sizeOf12, Try.sizeOf9]⟩
theorem ty_14 : Ty Try.prog 14 2 true := ⟨Try.sizeOf14, Try.isAgg14, by decide⟩
theorem ty_15 : Ty Try.prog 15 1 false := ⟨Try.sizeOf15, Try.isAgg15, by decide⟩
theorem ty_16 : Ty Try.prog 16 1 false := ⟨Try.sizeOf16, Try.isAgg16, by decide⟩
theorem ty_17 : Ty Try.prog 17 1 false := ⟨Try.sizeOf17, Try.isAgg17, by decide⟩
theorem ty_18 : Ty Try.prog 18 1 true := ⟨Try.sizeOf18, Try.isAgg18, by decide⟩
theorem ty_19 : Ty Try.prog 19 1 true := ⟨Try.sizeOf19, Try.isAgg19, by decide⟩
theorem ty_21 : Ty Try.prog 21 1 false := ⟨Try.sizeOf21, Try.isAgg21, by decide⟩
theorem ty_22 : Ty Try.prog 22 1 false := ⟨Try.sizeOf22, Try.isAgg22, by decide⟩
theorem ty_23 : Ty Try.prog 23 1 false := ⟨Try.sizeOf23, Try.isAgg23, by decide⟩
theorem ty_24 : Ty Try.prog 24 2 true := ⟨Try.sizeOf24, Try.isAgg24, by decide⟩
theorem fa_24_0 : FA Try.prog 24 0 0 := fun a w => by simp [Instr.fieldAt, Try.runUnderlying24, Instr.sureAddr, fieldPlace, Try.sizeOf22]
theorem fd_24_0 : Fd Try.prog 24 0 22 0 := ⟨_, _, Try.underlying24, rfl, rfl, rfl⟩
theorem fa_24_1 : FA Try.prog 24 1 1 := fun a w => by simp [Instr.fieldAt, Try.runUnderlying24, Instr.sureAddr, fieldPlace, Try.sizeOf23]
theorem fd_24_1 : Fd Try.prog 24 1 23 1 := ⟨_, _, Try.underlying24, rfl, rfl, rfl⟩
theorem pl_24 : Pl Try.prog 24 [(0, 1), (1, 1)] := ⟨_, Try.underlying24, fun w => by simp [Try.sizeOf22, Try.sizeOf23]⟩
theorem ty_25 : Ty Try.prog 25 2 true := ⟨Try.sizeOf25, Try.isAgg25, by decide⟩
theorem fa_25_0 : FA Try.prog 25 0 0 := fun a w => by simp [Instr.fieldAt, Try.runUnderlying25, Instr.sureAddr, fieldPlace, Try.sizeOf22]
theorem fd_25_0 : Fd Try.prog 25 0 22 0 := ⟨_, _, Try.underlying25, rfl, rfl, rfl⟩
theorem fa_25_1 : FA Try.prog 25 1 1 := fun a w => by simp [Instr.fieldAt, Try.runUnderlying25, Instr.sureAddr, fieldPlace, Try.sizeOf23]
theorem fd_25_1 : Fd Try.prog 25 1 23 1 := ⟨_, _, Try.underlying25, rfl, rfl, rfl⟩
theorem pl_25 : Pl Try.prog 25 [(0, 1), (1, 1)] := ⟨_, Try.underlying25, fun w => by simp [Try.sizeOf22, Try.sizeOf23]⟩
theorem ty_26 : Ty Try.prog 26 1 false := ⟨Try.sizeOf26, Try.isAgg26, by decide⟩
theorem ty_28 : Ty Try.prog 28 1 false := ⟨Try.sizeOf28, Try.isAgg28, by decide⟩
theorem ty_29 : Ty Try.prog 29 1 false := ⟨Try.sizeOf29, Try.isAgg29, by decide⟩
theorem ty_30 : Ty Try.prog 30 1 false := ⟨Try.sizeOf30, Try.isAgg30, by decide⟩
theorem ty_31 : Ty Try.prog 31 1 false := ⟨Try.sizeOf31, Try.isAgg31, by decide⟩
theorem ty_32 : Ty Try.prog 32 1 false := ⟨Try.sizeOf32, Try.isAgg32, by decide⟩
theorem ty_33 : Ty Try.prog 33 1 false := ⟨Try.sizeOf33, Try.isAgg33, by decide⟩
theorem ty_34 : Ty Try.prog 34 4 true := ⟨Try.sizeOf34, Try.isAgg34, by decide⟩
theorem fa_34_0 : FA Try.prog 34 0 0 := fun a w => by simp [Instr.fieldAt, Try.runUnderlying34, Instr.sureAddr, fieldPlace, Try.sizeOf3]
theorem fd_34_0 : Fd Try.prog 34 0 3 0 := ⟨_, _, Try.underlying34, rfl, rfl, rfl⟩
theorem fa_34_1 : FA Try.prog 34 1 1 := fun a w => by simp [Instr.fieldAt, Try.runUnderlying34, Instr.sureAddr, fieldPlace, Try.sizeOf3]
theorem fd_34_1 : Fd Try.prog 34 1 3 1 := ⟨_, _, Try.underlying34, rfl, rfl, rfl⟩
theorem fa_34_2 : FA Try.prog 34 2 2 := fun a w => by simp [Instr.fieldAt, Try.runUnderlying34, Instr.sureAddr, fieldPlace, Try.sizeOf3]
theorem fd_34_2 : Fd Try.prog 34 2 3 2 := ⟨_, _, Try.underlying34, rfl, rfl, rfl⟩
theorem fa_34_3 : FA Try.prog 34 3 3 := fun a w => by simp [Instr.fieldAt, Try.runUnderlying34, Instr.sureAddr, fieldPlace, Try.sizeOf3]
theorem fd_34_3 : Fd Try.prog 34 3 3 3 := ⟨_, _, Try.underlying34, rfl, rfl, rfl⟩
theorem pl_34 : Pl Try.prog 34 [(0, 1), (1, 1), (2, 1), (3, 1)] := ⟨_, Try.underlying34, fun w => by simp [Try.sizeOf3]⟩
theorem ty_35 : Ty Try.prog 35 4 true := ⟨Try.sizeOf35, Try.isAgg35, by decide⟩
theorem fa_35_0 : FA Try.prog 35 0 0 := fun a w => by simp [Instr.fieldAt, Try.runUnderlying35, Instr.sureAddr, fieldPlace, Try.sizeOf3]
theorem fd_35_0 : Fd Try.prog 35 0 3 0 := ⟨_, _, Try.underlying35, rfl, rfl, rfl⟩
theorem fa_35_1 : FA Try.prog 35 1 1 := fun a w => by simp [Instr.fieldAt, Try.runUnderlying35, Instr.sureAddr, fieldPlace, Try.sizeOf3]
theorem fd_35_1 : Fd Try.prog 35 1 3 1 := ⟨_, _, Try.underlying35, rfl, rfl, rfl⟩
theorem fa_35_2 : FA Try.prog 35 2 2 := fun a w => by simp [Instr.fieldAt, Try.runUnderlying35, Instr.sureAddr, fieldPlace, Try.sizeOf3]
theorem fd_35_2 : Fd Try.prog 35 2 3 2 := ⟨_, _, Try.underlying35, rfl, rfl, rfl⟩
theorem fa_35_3 : FA Try.prog 35 3 3 := fun a w => by simp [Instr.fieldAt, Try.runUnderlying35, Instr.sureAddr, fieldPlace, Try.sizeOf3]
theorem fd_35_3 : Fd Try.prog 35 3 3 3 := ⟨_, _, Try.underlying35, rfl, rfl, rfl⟩
theorem pl_35 : Pl Try.prog 35 [(0, 1), (1, 1), (2, 1), (3, 1)] := ⟨_, Try.underlying35, fun w => by simp [Try.sizeOf3]⟩
theorem ty_37 : Ty Try.prog 37 1 false := ⟨Try.sizeOf37, Try.isAgg37, by decide⟩
theorem ty_38 : Ty Try.prog 38 1 false := ⟨Try.sizeOf38, Try.isAgg38, by decide⟩
theorem ty_39 : Ty Try.prog 39 1 false := ⟨Try.sizeOf39, Try.isAgg39, by decide⟩
theorem ty_41 : Ty Try.prog 41 1 false := ⟨Try.sizeOf41, Try.isAgg41, by decide⟩
theorem ty_43 : Ty Try.prog 43 1 false := ⟨Try.sizeOf43, Try.isAgg43, by decide⟩
theorem ty_44 : Ty Try.prog 44 1 false := ⟨Try.sizeOf44, Try.isAgg44, by decide⟩
theorem ty_45 : Ty Try.prog 45 1 false := ⟨Try.sizeOf45, Try.isAgg45, by decide⟩
theorem ty_46 : Ty Try.prog 46 1 false := ⟨Try.sizeOf46, Try.isAgg46, by decide⟩
theorem ty_47 : Ty Try.prog 47 1 false := ⟨Try.sizeOf47, Try.isAgg47, by decide⟩
theorem ty_48 : Ty Try.prog 48 1 false := ⟨Try.sizeOf48, Try.isAgg48, by decide⟩
theorem ty_49 : Ty Try.prog 49 1 false := ⟨Try.sizeOf49, Try.isAgg49, by decide⟩
theorem ty_50 : Ty Try.prog 50 3 true := ⟨Try.sizeOf50, Try.isAgg50, by decide⟩
theorem fa_50_0 : FA Try.prog 50 0 0 := fun a w => by simp [Instr.fieldAt, Try.runUnderlying50, Instr.sureAddr, fieldPlace, Try.sizeOf9]
theorem fd_50_0 : Fd Try.prog 50 0 9 0 := ⟨_, _, Try.underlying50, rfl, rfl, rfl⟩
theorem fa_50_1 : FA Try.prog 50 1 1 := fun a w => by simp [Instr.fieldAt, Try.runUnderlying50, Instr.sureAddr, fieldPlace, Try.sizeOf3]
theorem fd_50_1 : Fd Try.prog 50 1 3 1 := ⟨_, _, Try.underlying50, rfl, rfl, rfl⟩
theorem fa_50_2 : FA Try.prog 50 2 2 := fun a w => by simp [Instr.fieldAt, Try.runUnderlying50, Instr.sureAddr, fieldPlace, Try.sizeOf3]
theorem fd_50_2 : Fd Try.prog 50 2 3 2 := ⟨_, _, Try.underlying50, rfl, rfl, rfl⟩
theorem pl_50 : Pl Try.prog 50 [(0, 1), (1, 1), (2, 1)] := ⟨_, Try.underlying50, fun w => by simp [Try.sizeOf3, Try.sizeOf9]⟩
theorem ty_51 : Ty Try.prog 51 3 true := ⟨Try.sizeOf51, Try.isAgg51, by decide⟩
theorem fa_51_0 : FA Try.prog 51 0 0 := fun a w => by simp [Instr.fieldAt, Try.runUnderlying51, Instr.sureAddr, fieldPlace, Try.sizeOf9]
theorem fd_51_0 : Fd Try.prog 51 0 9 0 := ⟨_, _, Try.underlying51, rfl, rfl, rfl⟩
theorem fa_51_1 : FA Try.prog 51 1 1 := fun a w => by simp [Instr.fieldAt, Try.runUnderlying51, Instr.sureAddr, fieldPlace, Try.sizeOf3]
theorem fd_51_1 : Fd Try.prog 51 1 3 1 := ⟨_, _, Try.underlying51, rfl, rfl, rfl⟩
theorem fa_51_2 : FA Try.prog 51 2 2 := fun a w => by simp [Instr.fieldAt, Try.runUnderlying51, Instr.sureAddr, fieldPlace, Try.sizeOf3]
theorem fd_51_2 : Fd Try.prog 51 2 3 2 := ⟨_, _, Try.underlying51, rfl, rfl, rfl⟩
theorem pl_51 : Pl Try.prog 51 [(0, 1), (1, 1), (2, 1)] := ⟨_, Try.underlying51, fun w => by simp [Try.sizeOf3, Try.sizeOf9]⟩
theorem ty_52 : Ty Try.prog 52 1 false := ⟨Try.sizeOf52, Try.isAgg52, by decide⟩
theorem ty_53 : Ty Try.prog 53 1 false := ⟨Try.sizeOf53, Try.isAgg53, by decide⟩
theorem ty_54 : Ty Try.prog 54 1 false := ⟨Try.sizeOf54, Try.isAgg54, by decide⟩
theorem ty_55 : Ty Try.prog 55 2 true := ⟨Try.sizeOf55, Try.isAgg55, by decide⟩
theorem fa_55_0 : FA Try.prog 55 0 0 := fun a w => by simp [Instr.fieldAt, Try.runUnderlying55, Instr.sureAddr, fieldPlace, Try.sizeOf3]
theorem fd_55_0 : Fd Try.prog 55 0 3 0 := ⟨_, _, Try.underlying55, rfl, rfl, rfl⟩
theorem fa_55_1 : FA Try.prog 55 1 1 := fun a w => by simp [Instr.fieldAt, Try.runUnderlying55, Instr.sureAddr, fieldPlace, Try.sizeOf54]
theorem fd_55_1 : Fd Try.prog 55 1 54 1 := ⟨_, _, Try.underlying55, rfl, rfl, rfl⟩
theorem pl_55 : Pl Try.prog 55 [(0, 1), (1, 1)] := ⟨_, Try.underlying55, fun w => by simp [Try.sizeOf3, Try.sizeOf54]⟩
theorem ty_56 : Ty Try.prog 56 2 true := ⟨Try.sizeOf56, Try.isAgg56, by decide⟩
theorem fa_56_0 : FA Try.prog 56 0 0 := fun a w => by simp [Instr.fieldAt, Try.runUnderlying56, Instr.sureAddr, fieldPlace, Try.sizeOf3]
theorem fd_56_0 : Fd Try.prog 56 0 3 0 := ⟨_, _, Try.underlying56, rfl, rfl, rfl⟩
theorem fa_56_1 : FA Try.prog 56 1 1 := fun a w => by simp [Instr.fieldAt, Try.runUnderlying56, Instr.sureAddr, fieldPlace, Try.sizeOf54]
theorem fd_56_1 : Fd Try.prog 56 1 54 1 := ⟨_, _, Try.underlying56, rfl, rfl, rfl⟩
theorem pl_56 : Pl Try.prog 56 [(0, 1), (1, 1)] := ⟨_, Try.underlying56, fun w => by simp [Try.sizeOf3, Try.sizeOf54]⟩
theorem ty_57 : Ty Try.prog 57 1 false := ⟨Try.sizeOf57, Try.isAgg57, by decide⟩
theorem ty_58 : Ty Try.prog 58 5 true := ⟨Try.sizeOf58, Try.isAgg58, by decide⟩
theorem fa_58_0 : FA Try.prog 58 0 0 := fun a w => by simp [Instr.fieldAt, Try.runUnderlying58, Instr.sureAddr, fieldPlace, Try.sizeOf56]
theorem fd_58_0 : Fd Try.prog 58 0 56 0 := ⟨_, _, Try.underlying58, rfl, rfl, rfl⟩
theorem fa_58_1 : FA Try.prog 58 1 2 := fun a w => by simp [Instr.fieldAt, Try.runUnderlying58, Instr.sureAddr, fieldPlace, Try.sizeOf3]
theorem fd_58_1 : Fd Try.prog 58 1 3 2 := ⟨_, _, Try.underlying58, rfl, rfl, rfl⟩
theorem fa_58_2 : FA Try.prog 58 2 3 := fun a w => by simp [Instr.fieldAt, Try.runUnderlying58, Instr.sureAddr, fieldPlace, Try.sizeOf3]
theorem fd_58_2 : Fd Try.prog 58 2 3 3 := ⟨_, _, Try.underlying58, rfl, rfl, rfl⟩
theorem fa_58_3 : FA Try.prog 58 3 4 := fun a w => by simp [Instr.fieldAt, Try.runUnderlying58, Instr.sureAddr, fieldPlace, Try.sizeOf57]
theorem fd_58_3 : Fd Try.prog 58 3 57 4 := ⟨_, _, Try.underlying58, rfl, rfl, rfl⟩
theorem pl_58 : Pl Try.prog 58 [(0, 2), (2, 1), (3, 1), (4, 1)] := ⟨_, Try.underlying58, fun w => by simp [Try.sizeOf3, Try.sizeOf56, Try.sizeOf57]⟩
theorem ty_59 : Ty Try.prog 59 5 true := ⟨Try.sizeOf59, Try.isAgg59, by decide⟩
theorem fa_59_0 : FA Try.prog 59 0 0 := fun a w => by simp [Instr.fieldAt, Try.runUnderlying59, Instr.sureAddr, fieldPlace, Try.sizeOf56]
theorem fd_59_0 : Fd Try.prog 59 0 56 0 := ⟨_, _, Try.underlying59, rfl, rfl, rfl⟩
theorem fa_59_1 : FA Try.prog 59 1 2 := fun a w => by simp [Instr.fieldAt, Try.runUnderlying59, Instr.sureAddr, fieldPlace, Try.sizeOf3]
theorem fd_59_1 : Fd Try.prog 59 1 3 2 := ⟨_, _, Try.underlying59, rfl, rfl, rfl⟩
theorem fa_59_2 : FA Try.prog 59 2 3 := fun a w => by simp [Instr.fieldAt, Try.runUnderlying59, Instr.sureAddr, fieldPlace, Try.sizeOf3]
theorem fd_59_2 : Fd Try.prog 59 2 3 3 := ⟨_, _, Try.underlying59, rfl, rfl, rfl⟩
theorem fa_59_3 : FA Try.prog 59 3 4 := fun a w => by simp [Instr.fieldAt, Try.runUnderlying59, Instr.sureAddr, fieldPlace, Try.sizeOf57]
theorem fd_59_3 : Fd Try.prog 59 3 57 4 := ⟨_, _, Try.underlying59, rfl, rfl, rfl⟩
theorem pl_59 : Pl Try.prog 59 [(0, 2), (2, 1), (3, 1), (4, 1)] := ⟨_, Try.underlying59, fun w => by simp [Try.sizeOf3, Try.sizeOf56, Try.sizeOf57]⟩
theorem ty_60 : Ty Try.prog 60 1 false := ⟨Try.sizeOf60, Try.isAgg60, by decide⟩
theorem ty_61 : Ty Try.prog 61 1 false := ⟨Try.sizeOf61, Try.isAgg61, by decide⟩
theorem ty_62 : Ty Try.prog 62 1 false := ⟨Try.sizeOf62, Try.isAgg62, by decide⟩
theorem ty_63 : Ty Try.prog 63 1 false := ⟨Try.sizeOf63, Try.isAgg63, by decide⟩
theorem ty_64 : Ty Try.prog 64 1 false := ⟨Try.sizeOf64, Try.isAgg64, by decide⟩
theorem ty_65 : Ty Try.prog 65 3 true := ⟨Try.sizeOf65, Try.isAgg65, by decide⟩
theorem fa_65_0 : FA Try.prog 65 0 0 := fun a w => by simp [Instr.fieldAt, Try.runUnderlying65, Instr.sureAddr, fieldPlace, Try.sizeOf4]
theorem fd_65_0 : Fd Try.prog 65 0 4 0 := ⟨_, _, Try.underlying65, rfl, rfl, rfl⟩
theorem fa_65_1 : FA Try.prog 65 1 1 := fun a w => by simp [Instr.fieldAt, Try.runUnderlying65, Instr.sureAddr, fieldPlace, Try.sizeOf56]
theorem fd_65_1 : Fd Try.prog 65 1 56 1 := ⟨_, _, Try.underlying65, rfl, rfl, rfl⟩
theorem pl_65 : Pl Try.prog 65 [(0, 1), (1, 2)] := ⟨_, Try.underlying65, fun w => by simp [Try.sizeOf4, Try.sizeOf56]⟩
theorem ty_66 : Ty Try.prog 66 3 true := ⟨Try.sizeOf66, Try.isAgg66, by decide⟩
theorem fa_66_0 : FA Try.prog 66 0 0 := fun a w => by simp [Instr.fieldAt, Try.runUnderlying66, Instr.sureAddr, fieldPlace, Try.sizeOf4]
theorem fd_66_0 : Fd Try.prog 66 0 4 0 := ⟨_, _, Try.underlying66, rfl, rfl, rfl⟩
theorem fa_66_1 : FA Try.prog 66 1 1 := fun a w => by simp [Instr.fieldAt, Try.runUnderlying66, Instr.sureAddr, fieldPlace, Try.sizeOf56]
theorem fd_66_1 : Fd Try.prog 66 1 56 1 := ⟨_, _, Try.underlying66, rfl, rfl, rfl⟩
theorem pl_66 : Pl Try.prog 66 [(0, 1), (1, 2)] := ⟨_, Try.underlying66, fun w => by simp [Try.sizeOf4, Try.sizeOf56]⟩
theorem ty_67 : Ty Try.prog 67 1 false := ⟨Try.sizeOf67, Try.isAgg67, by decide⟩
theorem ty_69 : Ty Try.prog 69 1 false := ⟨Try.sizeOf69, Try.isAgg69, by decide⟩
theorem ty_70 : Ty Try.prog 70 1 false := ⟨Try.sizeOf70, Try.isAgg70, by decide⟩
theorem ty_71 : Ty Try.prog 71 1 false := ⟨Try.sizeOf71, Try.isAgg71, by decide⟩
theorem ty_72 : Ty Try.prog 72 1 false := ⟨Try.sizeOf72, Try.isAgg72, by decide⟩
theorem ty_73 : Ty Try.prog 73 1 false := ⟨Try.sizeOf73, Try.isAgg73, by decide⟩
theorem ty_74 : Ty Try.prog 74 1 false := ⟨Try.sizeOf74, Try.isAgg74, by decide⟩
theorem ty_75 : Ty Try.prog 75 1 false := ⟨Try.sizeOf75, Try.isAgg75, by decide⟩
theorem ty_77 : Ty Try.prog 77 1 false := ⟨Try.sizeOf77, Try.isAgg77, by decide⟩
theorem ty_78 : Ty Try.prog 78 1 false := ⟨Try.sizeOf78, Try.isAgg78, by decide⟩
theorem ty_79 : Ty Try.prog 79 1 false := ⟨Try.sizeOf79, Try.isAgg79, by decide⟩
theorem ty_80 : Ty Try.prog 80 1 false := ⟨Try.sizeOf80, Try.isAgg80, by decide⟩
theorem ty_81 : Ty Try.prog 81 1 false := ⟨Try.sizeOf81, Try.isAgg81, by decide⟩
theorem ty_82 : Ty Try.prog 82 1 false := ⟨Try.sizeOf82, Try.isAgg82, by decide⟩
theorem ty_83 : Ty Try.prog 83 1 false := ⟨Try.sizeOf83, Try.isAgg83, by decide⟩
theorem ty_84 : Ty Try.prog 84 1 false := ⟨Try.sizeOf84, Try.isAgg84, by decide⟩
theorem ty_86 : Ty Try.prog 86 1 false := ⟨Try.sizeOf86, Try.isAgg86, by decide⟩
theorem ty_87 : Ty Try.prog 87 1 false := ⟨Try.sizeOf87, Try.isAgg87, by decide⟩
theorem ty_88 : Ty Try.prog 88 1 false := ⟨Try.sizeOf88, Try.isAgg88, by decide⟩
theorem ty_89 : Ty Try.prog 89 1 false := ⟨Try.sizeOf89, Try.isAgg89, by decide⟩
theorem ty_90 : Ty Try.prog 90 2 true := ⟨Try.sizeOf90, Try.isAgg90, by decide⟩
theorem fa_90_0 : FA Try.prog 90 0 0 := fun a w => by simp [Instr.fieldAt, Try.runUnderlying90, Instr.sureAddr, fieldPlace, Try.sizeOf4]
theorem fd_90_0 : Fd Try.prog 90 0 4 0 := ⟨_, _, Try.underlying90, rfl, rfl, rfl⟩
theorem fa_90_1 : FA Try.prog 90 1 1 := fun a w => by simp [Instr.fieldAt, Try.runUnderlying90, Instr.sureAddr, fieldPlace, Try.sizeOf3]
theorem fd_90_1 : Fd Try.prog 90 1 3 1 := ⟨_, _, Try.underlying90, rfl, rfl, rfl⟩
theorem pl_90 : Pl Try.prog 90 [(0, 1), (1, 1)] := ⟨_, Try.underlying90, fun w => by simp [Try.sizeOf3, Try.sizeOf4]⟩
theorem ty_91 : Ty Try.prog 91 2 true := ⟨Try.sizeOf91, Try.isAgg91, by decide⟩
theorem fa_91_0 : FA Try.prog 91 0 0 := fun a w => by simp [Instr.fieldAt, Try.runUnderlying91, Instr.sureAddr, fieldPlace, Try.sizeOf4]
theorem fd_91_0 : Fd Try.prog 91 0 4 0 := ⟨_, _, Try.underlying91, rfl, rfl, rfl⟩
theorem fa_91_1 : FA Try.prog 91 1 1 := fun a w => by simp [Instr.fieldAt, Try.runUnderlying91, Instr.sureAddr, fieldPlace, Try.sizeOf3]
theorem fd_91_1 : Fd Try.prog 91 1 3 1 := ⟨_, _, Try.underlying91, rfl, rfl, rfl⟩
theorem pl_91 : Pl Try.prog 91 [(0, 1), (1, 1)] := ⟨_, Try.underlying91, fun w => by simp [Try.sizeOf3, Try.sizeOf4]⟩
theorem ty_92 : Ty Try.prog 92 1 false := ⟨Try.sizeOf92, Try.isAgg92, by decide⟩
theorem ty_93 : Ty Try.prog 93 1 false := ⟨Try.sizeOf93, Try.isAgg93, by decide⟩
theorem ty_94 : Ty Try.prog 94 1 false := ⟨Try.sizeOf94, Try.isAgg94, by decide⟩
theorem ty_95 : Ty Try.prog 95 1 false := ⟨Try.sizeOf95, Try.isAgg95, by decide⟩
theorem ty_96 : Ty Try.prog 96 1 false := ⟨Try.sizeOf96, Try.isAgg96, by decide⟩
theorem ty_97 : Ty Try.prog 97 1 false := ⟨Try.sizeOf97, Try.isAgg97, by decide⟩
theorem ty_98 : Ty Try.prog 98 1 false := ⟨Try.sizeOf98, Try.isAgg98, by decide⟩
theorem ty_99 : Ty Try.prog 99 1 false := ⟨Try.sizeOf99, Try.isAgg99, by decide⟩
theorem ty_100 : Ty Try.prog 100 1 false := ⟨Try.sizeOf100, Try.isAgg100, by decide⟩
theorem ty_101 : Ty Try.prog 101 1 false := ⟨Try.sizeOf101, Try.isAgg101, by decide⟩
theorem ty_102 : Ty Try.prog 102 1 false := ⟨Try.sizeOf102, Try.isAgg102, by decide⟩
theorem ty_103 : Ty Try.prog 103 1 false := ⟨Try.sizeOf103, Try.isAgg103, by decide⟩
theorem ty_104 : Ty Try.prog 104 1 false := ⟨Try.sizeOf104, Try.isAgg104, by decide⟩
theorem ty_105 : Ty Try.prog 105 1 false := ⟨Try.sizeOf105, Try.isAgg105, by decide⟩
theorem ty_106 : Ty Try.prog 106 1 false := ⟨Try.sizeOf106, Try.isAgg106, by decide⟩
theorem ty_107 : Ty Try.prog 107 1 false := ⟨Try.sizeOf107, Try.isAgg107, by decide⟩
theorem ty_108 : Ty Try.prog 108 1 false := ⟨Try.sizeOf108, Try.isAgg108, by decide⟩
theorem ty_110 : Ty Try.prog 110 1 false := ⟨Try.sizeOf110, Try.isAgg110, by decide⟩
theorem ty_111 : Ty Try.prog 111 1 false := ⟨Try.sizeOf111, Try.isAgg111, by decide⟩
theorem ty_112 : Ty Try.prog 112 1 false := ⟨Try.sizeOf112, Try.isAgg112, by decide⟩
theorem ty_113 : Ty Try.prog 113 1 false := ⟨Try.sizeOf113, Try.isAgg113, by decide⟩
theorem ty_114 : Ty Try.prog 114 1 false := ⟨Try.sizeOf114, Try.isAgg114, by decide⟩
theorem ty_115 : Ty Try.prog 115 1 false := ⟨Try.sizeOf115, Try.isAgg115, by decide⟩
theorem ty_116 : Ty Try.prog 116 1 false := ⟨Try.sizeOf116, Try.isAgg116, by decide⟩
theorem ty_117 : Ty Try.prog 117 1 false := ⟨Try.sizeOf117, Try.isAgg117, by decide⟩
theorem ty_118 : Ty Try.prog 118 1 false := ⟨Try.sizeOf118, Try.isAgg118, by decide⟩
theorem ty_119 : Ty Try.prog 119 1 false := ⟨Try.sizeOf119, Try.isAgg119, by decide⟩
theorem ty_120 : Ty Try.prog 120 2 true := ⟨Try.sizeOf120, Try.isAgg120, by decide⟩
theorem fa_120_0 : FA Try.prog 120 0 0 := fun a w => by simp [Instr.fieldAt, Try.runUnderlying120, Instr.sureAddr, fieldPlace, Try.sizeOf99]
theorem fd_120_0 : Fd Try.prog 120 0 99 0 := ⟨_, _, Try.underlying120, rfl, rfl, rfl⟩
theorem fa_120_1 : FA Try.prog 120 1 1 := fun a w => by simp [Instr.fieldAt, Try.runUnderlying120, Instr.sureAddr, fieldPlace, Try.sizeOf99]
theorem fd_120_1 : Fd Try.prog 120 1 99 1 := ⟨_, _, Try.underlying120, rfl, rfl, rfl⟩
theorem pl_120 : Pl Try.prog 120 [(0, 1), (1, 1)] := ⟨_, Try.underlying120, fun w => by simp [Try.sizeOf99]⟩
theorem ty_121 : Ty Try.prog 121 2 true := ⟨Try.sizeOf121, Try.isAgg121, by decide⟩
theorem fa_121_0 : FA Try.prog 121 0 0 := fun a w => by simp [Instr.fieldAt, Try.runUnderlying121, Instr.sureAddr, fieldPlace, Try.sizeOf99]
theorem fd_121_0 : Fd Try.prog 121 0 99 0 := ⟨_, _, Try.underlying121, rfl, rfl, rfl⟩
theorem fa_121_1 : FA Try.prog 121 1 1 := fun a w => by simp [Instr.fieldAt, Try.runUnderlying121, Instr.sureAddr, fieldPlace, Try.sizeOf99]
theorem fd_121_1 : Fd Try.prog 121 1 99 1 := ⟨_, _, Try.underlying121, rfl, rfl, rfl⟩
theorem pl_121 : Pl Try.prog 121 [(0, 1), (1, 1)] := ⟨_, Try.underlying121, fun w => by simp [Try.sizeOf99]⟩
theorem ty_122 : Ty Try.prog 122 8 true := ⟨Try.sizeOf122, Try.isAgg122, by decide⟩
theorem ty_123 : Ty Try.prog 123 1 false := ⟨Try.sizeOf123, Try.isAgg123, by decide⟩
theorem ty_124 : Ty Try.prog 124 1 false := ⟨Try.sizeOf124, Try.isAgg124, by decide⟩
theorem ty_125 : Ty Try.prog 125 1 false := ⟨Try.sizeOf125, Try.isAgg125, by decide⟩
theorem ty_126 : Ty Try.prog 126 1 false := ⟨Try.sizeOf126, Try.isAgg126, by decide⟩
theorem ty_127 : Ty Try.prog 127 1 false := ⟨Try.sizeOf127, Try.isAgg127, by decide⟩
theorem ty_128 : Ty Try.prog 128 1 false := ⟨Try.sizeOf128, Try.isAgg128, by decide⟩
theorem ty_129 : Ty Try.prog 129 1 false := ⟨Try.sizeOf129, Try.isAgg129, by decide⟩
theorem ty_130 : Ty Try.prog 130 1 false := ⟨Try.sizeOf130, Try.isAgg130, by decide⟩
theorem ty_131 : Ty Try.prog 131 1 false := ⟨Try.sizeOf131, Try.isAgg131, by decide⟩
theorem ty_132 : Ty Try.prog 132 1 false := ⟨Try.sizeOf132, Try.isAgg132, by decide⟩
theorem ty_133 : Ty Try.prog 133 1 false := ⟨Try.sizeOf133, Try.isAgg133, by decide⟩
theorem ty_134 : Ty Try.prog 134 4 true := ⟨Try.sizeOf134, Try.isAgg134, by decide⟩
theorem ty_135 : Ty Try.prog 135 4 true := ⟨Try.sizeOf135, Try.isAgg135, by decide⟩
theorem ty_136 : Ty Try.prog 136 0 true := ⟨Try.sizeOf136, Try.isAgg136, by decide⟩
theorem ty_137 : Ty Try.prog 137 0 true := ⟨Try.sizeOf137, Try.isAgg137, by decide⟩
theorem ty_138 : Ty Try.prog 138 0 true := ⟨Try.sizeOf138, Try.isAgg138, by decide⟩
theorem ty_139 : Ty Try.prog 139 1 false := ⟨Try.sizeOf139, Try.isAgg139, by decide⟩
theorem ty_140 : Ty Try.prog 140 1 false := ⟨Try.sizeOf140, Try.isAgg140, by decide⟩
theorem ty_141 : Ty Try.prog 141 1 false := ⟨Try.sizeOf141, Try.isAgg141, by decide⟩
theorem ty_142 : Ty Try.prog 142 1 false := ⟨Try.sizeOf142, Try.isAgg142, by decide⟩
theorem ty_143 : Ty Try.prog 143 1 false := ⟨Try.sizeOf143, Try.isAgg143, by decide⟩
theorem ty_144 : Ty Try.prog 144 1 false := ⟨Try.sizeOf144, Try.isAgg144, by decide⟩
theorem ty_145 : Ty Try.prog 145 1 false := ⟨Try.sizeOf145, Try.isAgg145, by decide⟩
theorem ty_146 : Ty Try.prog 146 1 false := ⟨Try.sizeOf146, Try.isAgg146, by decide⟩
theorem ty_147 : Ty Try.prog 147 11 true := ⟨Try.sizeOf147, Try.isAgg147, by decide⟩
theorem ty_148 : Ty Try.prog 148 11 true := ⟨Try.sizeOf148, Try.isAgg148, by decide⟩
theorem eq_35 (a0 : Int) (a1 : Int) (a2 : Int) (a3 : Int) (b0 : Int) (b1 : Int) (b2 : Int) (b3 : Int) (w : World) : (Op.equalIn 10000 35 (.agg #[.int .i64 a0, .int .i64 a1, .int .i64 a2, .int .i64 a3]) (.agg #[.int .i64 b0, .int .i64 b1, .int .i64 b2, .int .i64 b3])).run Try.prog w = .ok ((a0 == b0) && ((a1 == b1) && ((a2 == b2) && ((a3 == b3) && true)))) w := by
  rw [show 10000 = 9998 + 1 + 1 from rfl, run_equalIn_struct w _ 35 _ _ (by simp only [Program.fieldsOf, Try.underlying35]) Try.stoodInHeld35]
  simp only [Program.fieldsOf, Try.underlying35, Op.eqFields]
  have p : ∀ T, (∀ w, (isAgg T).run Try.prog w = .ok false w) → ∀ (cs : Array Value) (o : Nat) v, cs[o]? = some v → (Go.part T cs o).run Try.prog w = .ok v w := fun T h cs o v hv => part_leaf h hv w
  cases h0 : (a0 == b0) <;> cases h1 : (a1 == b1) <;> cases h2 : (a2 == b2) <;> cases h3 : (a3 == b3) <;> simp [p 3 Try.isAgg3, run_equalIn_int w _ 3 .i64 .i64 _ _ Try.underlying3, h0, h1, h2, h3]
theorem eq_51 (a0 : ByteArray) (a1 : Int) (a2 : Int) (b0 : ByteArray) (b1 : Int) (b2 : Int) (w : World) : (Op.equalIn 10000 51 (.agg #[.string a0, .int .i64 a1, .int .i64 a2]) (.agg #[.string b0, .int .i64 b1, .int .i64 b2])).run Try.prog w = .ok ((a0.toList == b0.toList) && ((a1 == b1) && ((a2 == b2) && true))) w := by
  rw [show 10000 = 9998 + 1 + 1 from rfl, run_equalIn_struct w _ 51 _ _ (by simp only [Program.fieldsOf, Try.underlying51]) Try.stoodInHeld51]
  simp only [Program.fieldsOf, Try.underlying51, Op.eqFields]
  have p : ∀ T, (∀ w, (isAgg T).run Try.prog w = .ok false w) → ∀ (cs : Array Value) (o : Nat) v, cs[o]? = some v → (Go.part T cs o).run Try.prog w = .ok v w := fun T h cs o v hv => part_leaf h hv w
  cases h0 : (a0.toList == b0.toList) <;> cases h1 : (a1 == b1) <;> cases h2 : (a2 == b2) <;> simp [p 3 Try.isAgg3, p 9 Try.isAgg9, run_equalIn_int w _ 3 .i64 .i64 _ _ Try.underlying3, run_equalIn_string w _ 9 _ _ Try.underlying9, h0, h1, h2]
theorem eq_91 (a0 : Bool) (a1 : Int) (b0 : Bool) (b1 : Int) (w : World) : (Op.equalIn 10000 91 (.agg #[.bool a0, .int .i64 a1]) (.agg #[.bool b0, .int .i64 b1])).run Try.prog w = .ok ((a0 == b0) && ((a1 == b1) && true)) w := by
  rw [show 10000 = 9998 + 1 + 1 from rfl, run_equalIn_struct w _ 91 _ _ (by simp only [Program.fieldsOf, Try.underlying91]) Try.stoodInHeld91]
  simp only [Program.fieldsOf, Try.underlying91, Op.eqFields]
  have p : ∀ T, (∀ w, (isAgg T).run Try.prog w = .ok false w) → ∀ (cs : Array Value) (o : Nat) v, cs[o]? = some v → (Go.part T cs o).run Try.prog w = .ok v w := fun T h cs o v hv => part_leaf h hv w
  cases h0 : (a0 == b0) <;> cases h1 : (a1 == b1) <;> simp [p 3 Try.isAgg3, p 4 Try.isAgg4, run_equalIn_bool' w _ 4 _ _ Try.underlying4, run_equalIn_int w _ 3 .i64 .i64 _ _ Try.underlying3, h0, h1]
theorem et_3 : ElT Try.prog 3 1 8 (.int .i64 0) := ⟨by kernel_rfl, rfl, by decide⟩
theorem et_23 : ElT Try.prog 23 1 24 (.slice none 0 0) := ⟨by kernel_rfl, rfl, by decide⟩
theorem et_25 : ElT Try.prog 25 2 48 (.agg #[.slice none 0 0, .slice none 0 0]) := ⟨by kernel_rfl, rfl, by decide⟩
theorem et_33 : ElT Try.prog 33 1 24 (.slice none 0 0) := ⟨by kernel_rfl, rfl, by decide⟩
theorem et_35 : ElT Try.prog 35 4 32 (.agg #[.int .i64 0, .int .i64 0, .int .i64 0, .int .i64 0]) := ⟨by kernel_rfl, rfl, by decide⟩
theorem et_51 : ElT Try.prog 51 3 32 (.agg #[.string ByteArray.empty, .int .i64 0, .int .i64 0]) := ⟨by kernel_rfl, rfl, by decide⟩
theorem et_56 : ElT Try.prog 56 2 32 (.agg #[.int .i64 0, .slice none 0 0]) := ⟨by kernel_rfl, rfl, by decide⟩
theorem et_59 : ElT Try.prog 59 5 72 (.agg #[.int .i64 0, .slice none 0 0, .int .i64 0, .int .i64 0, .slice none 0 0]) := ⟨by kernel_rfl, rfl, by decide⟩
theorem et_66 : ElT Try.prog 66 3 40 (.agg #[.bool false, .int .i64 0, .slice none 0 0]) := ⟨by kernel_rfl, rfl, by decide⟩
theorem et_91 : ElT Try.prog 91 2 16 (.agg #[.bool false, .int .i64 0]) := ⟨by kernel_rfl, rfl, by decide⟩
end Go.TF
