/- Texts Tab SpLat Lat Lat2 SpLat2 SpRule SpRule2 SpFact SlFuncs Rule. -/
import Derived.Test.YtjofbbidkgagdaaGreatU1
import Derived.Test.YtjofbbidkgagdaaGreatProg
import Derived.KernelRfl
section
/- Facts on the types of this program, one row each, made by program. -/
namespace Go.TF
open Go Go.RowKit Go.Proofs
theorem mixed : Tryz.prog.follows .mixedOrders = true := by kernel_rfl
theorem ty_1 : Ty Tryz.prog 1 1 false := ⟨Tryz.sizeOf1, Tryz.isAgg1, by decide⟩
theorem ty_2 : Ty Tryz.prog 2 1 false := ⟨Tryz.sizeOf2, Tryz.isAgg2, by decide⟩
theorem ty_3 : Ty Tryz.prog 3 1 false := ⟨Tryz.sizeOf3, Tryz.isAgg3, by decide⟩
theorem ty_4 : Ty Tryz.prog 4 1 false := ⟨Tryz.sizeOf4, Tryz.isAgg4, by decide⟩
theorem ty_5 : Ty Tryz.prog 5 1 false := ⟨Tryz.sizeOf5, Tryz.isAgg5, by decide⟩
theorem ty_6 : Ty Tryz.prog 6 1 false := ⟨Tryz.sizeOf6, Tryz.isAgg6, by decide⟩
theorem ty_7 : Ty Tryz.prog 7 4 true := ⟨Tryz.sizeOf7, Tryz.isAgg7, by decide⟩
theorem ty_8 : Ty Tryz.prog 8 4 true := ⟨Tryz.sizeOf8, Tryz.isAgg8, by decide⟩
theorem ty_9 : Ty Tryz.prog 9 1 false := ⟨Tryz.sizeOf9, Tryz.isAgg9, by decide⟩
theorem ty_10 : Ty Tryz.prog 10 1 false := ⟨Tryz.sizeOf10, Tryz.isAgg10, by decide⟩
theorem ty_11 : Ty Tryz.prog 11 1 false := ⟨Tryz.sizeOf11, Tryz.isAgg11, by decide⟩
theorem ty_12 : Ty Tryz.prog 12 1 false := ⟨Tryz.sizeOf12, Tryz.isAgg12, by decide⟩
theorem ty_13 : Ty Tryz.prog 13 2 true := ⟨Tryz.sizeOf13, Tryz.isAgg13, by decide⟩
theorem fa_13_0 : FA Tryz.prog 13 0 0 := fun a w => by simp [Instr.fieldAt, Tryz.runUnderlying13, Instr.sureAddr, fieldPlace, Tryz.sizeOf9]
theorem fd_13_0 : Fd Tryz.prog 13 0 9 0 := ⟨_, _, Tryz.underlying13, rfl, rfl, rfl⟩
theorem fa_13_1 : FA Tryz.prog 13 1 1 := fun a w => by simp [Instr.fieldAt, Tryz.runUnderlying13, Instr.sureAddr, fieldPlace, Tryz.sizeOf12]
theorem fd_13_1 : Fd Tryz.prog 13 1 12 1 := ⟨_, _, Tryz.underlying13, rfl, rfl, rfl⟩
theorem pl_13 : Pl Tryz.prog 13 [(0, 1), (1, 1)] := ⟨_, Tryz.underlying13, fun w => by simp [Tryz.sizeOf12, Tryz.sizeOf9]⟩
theorem ty_14 : Ty Tryz.prog 14 2 true := ⟨Tryz.sizeOf14, Tryz.isAgg14, by decide⟩
theorem ty_15 : Ty Tryz.prog 15 1 false := ⟨Tryz.sizeOf15, Tryz.isAgg15, by decide⟩
theorem ty_16 : Ty Tryz.prog 16 1 false := ⟨Tryz.sizeOf16, Tryz.isAgg16, by decide⟩
theorem ty_17 : Ty Tryz.prog 17 1 false := ⟨Tryz.sizeOf17, Tryz.isAgg17, by decide⟩
theorem ty_18 : Ty Tryz.prog 18 1 true := ⟨Tryz.sizeOf18, Tryz.isAgg18, by decide⟩
theorem ty_19 : Ty Tryz.prog 19 1 true := ⟨Tryz.sizeOf19, Tryz.isAgg19, by decide⟩
theorem ty_21 : Ty Tryz.prog 21 1 false := ⟨Tryz.sizeOf21, Tryz.isAgg21, by decide⟩
theorem ty_22 : Ty Tryz.prog 22 1 false := ⟨Tryz.sizeOf22, Tryz.isAgg22, by decide⟩
theorem ty_23 : Ty Tryz.prog 23 1 false := ⟨Tryz.sizeOf23, Tryz.isAgg23, by decide⟩
theorem ty_24 : Ty Tryz.prog 24 2 true := ⟨Tryz.sizeOf24, Tryz.isAgg24, by decide⟩
theorem fa_24_0 : FA Tryz.prog 24 0 0 := fun a w => by simp [Instr.fieldAt, Tryz.runUnderlying24, Instr.sureAddr, fieldPlace, Tryz.sizeOf22]
theorem fd_24_0 : Fd Tryz.prog 24 0 22 0 := ⟨_, _, Tryz.underlying24, rfl, rfl, rfl⟩
theorem fa_24_1 : FA Tryz.prog 24 1 1 := fun a w => by simp [Instr.fieldAt, Tryz.runUnderlying24, Instr.sureAddr, fieldPlace, Tryz.sizeOf23]
theorem fd_24_1 : Fd Tryz.prog 24 1 23 1 := ⟨_, _, Tryz.underlying24, rfl, rfl, rfl⟩
theorem pl_24 : Pl Tryz.prog 24 [(0, 1), (1, 1)] := ⟨_, Tryz.underlying24, fun w => by simp [Tryz.sizeOf22, Tryz.sizeOf23]⟩
theorem ty_25 : Ty Tryz.prog 25 2 true := ⟨Tryz.sizeOf25, Tryz.isAgg25, by decide⟩
theorem fa_25_0 : FA Tryz.prog 25 0 0 := fun a w => by simp [Instr.fieldAt, Tryz.runUnderlying25, Instr.sureAddr, fieldPlace, Tryz.sizeOf22]
theorem fd_25_0 : Fd Tryz.prog 25 0 22 0 := ⟨_, _, Tryz.underlying25, rfl, rfl, rfl⟩
theorem fa_25_1 : FA Tryz.prog 25 1 1 := fun a w => by simp [Instr.fieldAt, Tryz.runUnderlying25, Instr.sureAddr, fieldPlace, Tryz.sizeOf23]
theorem fd_25_1 : Fd Tryz.prog 25 1 23 1 := ⟨_, _, Tryz.underlying25, rfl, rfl, rfl⟩
theorem pl_25 : Pl Tryz.prog 25 [(0, 1), (1, 1)] := ⟨_, Tryz.underlying25, fun w => by simp [Tryz.sizeOf22, Tryz.sizeOf23]⟩
theorem ty_26 : Ty Tryz.prog 26 1 false := ⟨Tryz.sizeOf26, Tryz.isAgg26, by decide⟩
theorem ty_27 : Ty Tryz.prog 27 3 true := ⟨Tryz.sizeOf27, Tryz.isAgg27, by decide⟩
theorem ty_28 : Ty Tryz.prog 28 4 true := ⟨Tryz.sizeOf28, Tryz.isAgg28, by decide⟩
theorem fa_28_0 : FA Tryz.prog 28 0 0 := fun a w => by simp [Instr.fieldAt, Tryz.runUnderlying28, Instr.sureAddr, fieldPlace, Tryz.sizeOf3]
theorem fd_28_0 : Fd Tryz.prog 28 0 3 0 := ⟨_, _, Tryz.underlying28, rfl, rfl, rfl⟩
theorem fa_28_1 : FA Tryz.prog 28 1 1 := fun a w => by simp [Instr.fieldAt, Tryz.runUnderlying28, Instr.sureAddr, fieldPlace, Tryz.sizeOf3]
theorem fd_28_1 : Fd Tryz.prog 28 1 3 1 := ⟨_, _, Tryz.underlying28, rfl, rfl, rfl⟩
theorem fa_28_2 : FA Tryz.prog 28 2 2 := fun a w => by simp [Instr.fieldAt, Tryz.runUnderlying28, Instr.sureAddr, fieldPlace, Tryz.sizeOf3]
theorem fd_28_2 : Fd Tryz.prog 28 2 3 2 := ⟨_, _, Tryz.underlying28, rfl, rfl, rfl⟩
theorem fa_28_3 : FA Tryz.prog 28 3 3 := fun a w => by simp [Instr.fieldAt, Tryz.runUnderlying28, Instr.sureAddr, fieldPlace, Tryz.sizeOf3]
theorem fd_28_3 : Fd Tryz.prog 28 3 3 3 := ⟨_, _, Tryz.underlying28, rfl, rfl, rfl⟩
theorem pl_28 : Pl Tryz.prog 28 [(0, 1), (1, 1), (2, 1), (3, 1)] := ⟨_, Tryz.underlying28, fun w => by simp [Tryz.sizeOf3]⟩
theorem ty_29 : Ty Tryz.prog 29 4 true := ⟨Tryz.sizeOf29, Tryz.isAgg29, by decide⟩
theorem fa_29_0 : FA Tryz.prog 29 0 0 := fun a w => by simp [Instr.fieldAt, Tryz.runUnderlying29, Instr.sureAddr, fieldPlace, Tryz.sizeOf3]
theorem fd_29_0 : Fd Tryz.prog 29 0 3 0 := ⟨_, _, Tryz.underlying29, rfl, rfl, rfl⟩
theorem fa_29_1 : FA Tryz.prog 29 1 1 := fun a w => by simp [Instr.fieldAt, Tryz.runUnderlying29, Instr.sureAddr, fieldPlace, Tryz.sizeOf3]
theorem fd_29_1 : Fd Tryz.prog 29 1 3 1 := ⟨_, _, Tryz.underlying29, rfl, rfl, rfl⟩
theorem fa_29_2 : FA Tryz.prog 29 2 2 := fun a w => by simp [Instr.fieldAt, Tryz.runUnderlying29, Instr.sureAddr, fieldPlace, Tryz.sizeOf3]
theorem fd_29_2 : Fd Tryz.prog 29 2 3 2 := ⟨_, _, Tryz.underlying29, rfl, rfl, rfl⟩
theorem fa_29_3 : FA Tryz.prog 29 3 3 := fun a w => by simp [Instr.fieldAt, Tryz.runUnderlying29, Instr.sureAddr, fieldPlace, Tryz.sizeOf3]
theorem fd_29_3 : Fd Tryz.prog 29 3 3 3 := ⟨_, _, Tryz.underlying29, rfl, rfl, rfl⟩
theorem pl_29 : Pl Tryz.prog 29 [(0, 1), (1, 1), (2, 1), (3, 1)] := ⟨_, Tryz.underlying29, fun w => by simp [Tryz.sizeOf3]⟩
theorem ty_30 : Ty Tryz.prog 30 1 false := ⟨Tryz.sizeOf30, Tryz.isAgg30, by decide⟩
theorem ty_32 : Ty Tryz.prog 32 1 false := ⟨Tryz.sizeOf32, Tryz.isAgg32, by decide⟩
theorem ty_33 : Ty Tryz.prog 33 1 false := ⟨Tryz.sizeOf33, Tryz.isAgg33, by decide⟩
theorem ty_34 : Ty Tryz.prog 34 1 false := ⟨Tryz.sizeOf34, Tryz.isAgg34, by decide⟩
theorem ty_35 : Ty Tryz.prog 35 1 false := ⟨Tryz.sizeOf35, Tryz.isAgg35, by decide⟩
theorem ty_37 : Ty Tryz.prog 37 1 false := ⟨Tryz.sizeOf37, Tryz.isAgg37, by decide⟩
theorem ty_38 : Ty Tryz.prog 38 1 false := ⟨Tryz.sizeOf38, Tryz.isAgg38, by decide⟩
theorem ty_39 : Ty Tryz.prog 39 1 false := ⟨Tryz.sizeOf39, Tryz.isAgg39, by decide⟩
theorem ty_40 : Ty Tryz.prog 40 1 false := ⟨Tryz.sizeOf40, Tryz.isAgg40, by decide⟩
theorem ty_41 : Ty Tryz.prog 41 1 false := ⟨Tryz.sizeOf41, Tryz.isAgg41, by decide⟩
theorem ty_43 : Ty Tryz.prog 43 1 false := ⟨Tryz.sizeOf43, Tryz.isAgg43, by decide⟩
theorem ty_45 : Ty Tryz.prog 45 1 false := ⟨Tryz.sizeOf45, Tryz.isAgg45, by decide⟩
theorem ty_46 : Ty Tryz.prog 46 1 false := ⟨Tryz.sizeOf46, Tryz.isAgg46, by decide⟩
theorem ty_48 : Ty Tryz.prog 48 1 false := ⟨Tryz.sizeOf48, Tryz.isAgg48, by decide⟩
theorem ty_49 : Ty Tryz.prog 49 1 false := ⟨Tryz.sizeOf49, Tryz.isAgg49, by decide⟩
theorem ty_50 : Ty Tryz.prog 50 1 false := ⟨Tryz.sizeOf50, Tryz.isAgg50, by decide⟩
theorem ty_51 : Ty Tryz.prog 51 1 false := ⟨Tryz.sizeOf51, Tryz.isAgg51, by decide⟩
theorem ty_53 : Ty Tryz.prog 53 1 false := ⟨Tryz.sizeOf53, Tryz.isAgg53, by decide⟩
theorem ty_54 : Ty Tryz.prog 54 1 false := ⟨Tryz.sizeOf54, Tryz.isAgg54, by decide⟩
theorem ty_55 : Ty Tryz.prog 55 1 false := ⟨Tryz.sizeOf55, Tryz.isAgg55, by decide⟩
theorem ty_56 : Ty Tryz.prog 56 1 false := ⟨Tryz.sizeOf56, Tryz.isAgg56, by decide⟩
theorem ty_57 : Ty Tryz.prog 57 1 false := ⟨Tryz.sizeOf57, Tryz.isAgg57, by decide⟩
theorem ty_59 : Ty Tryz.prog 59 1 false := ⟨Tryz.sizeOf59, Tryz.isAgg59, by decide⟩
theorem ty_60 : Ty Tryz.prog 60 1 false := ⟨Tryz.sizeOf60, Tryz.isAgg60, by decide⟩
theorem ty_61 : Ty Tryz.prog 61 1 false := ⟨Tryz.sizeOf61, Tryz.isAgg61, by decide⟩
theorem ty_62 : Ty Tryz.prog 62 4 true := ⟨Tryz.sizeOf62, Tryz.isAgg62, by decide⟩
theorem fa_62_0 : FA Tryz.prog 62 0 0 := fun a w => by simp [Instr.fieldAt, Tryz.runUnderlying62, Instr.sureAddr, fieldPlace, Tryz.sizeOf3]
theorem fd_62_0 : Fd Tryz.prog 62 0 3 0 := ⟨_, _, Tryz.underlying62, rfl, rfl, rfl⟩
theorem fa_62_1 : FA Tryz.prog 62 1 1 := fun a w => by simp [Instr.fieldAt, Tryz.runUnderlying62, Instr.sureAddr, fieldPlace, Tryz.sizeOf27]
theorem fd_62_1 : Fd Tryz.prog 62 1 27 1 := ⟨_, _, Tryz.underlying62, rfl, rfl, rfl⟩
theorem pl_62 : Pl Tryz.prog 62 [(0, 1), (1, 3)] := ⟨_, Tryz.underlying62, fun w => by simp [Tryz.sizeOf27, Tryz.sizeOf3]⟩
theorem ty_63 : Ty Tryz.prog 63 4 true := ⟨Tryz.sizeOf63, Tryz.isAgg63, by decide⟩
theorem fa_63_0 : FA Tryz.prog 63 0 0 := fun a w => by simp [Instr.fieldAt, Tryz.runUnderlying63, Instr.sureAddr, fieldPlace, Tryz.sizeOf3]
theorem fd_63_0 : Fd Tryz.prog 63 0 3 0 := ⟨_, _, Tryz.underlying63, rfl, rfl, rfl⟩
theorem fa_63_1 : FA Tryz.prog 63 1 1 := fun a w => by simp [Instr.fieldAt, Tryz.runUnderlying63, Instr.sureAddr, fieldPlace, Tryz.sizeOf27]
theorem fd_63_1 : Fd Tryz.prog 63 1 27 1 := ⟨_, _, Tryz.underlying63, rfl, rfl, rfl⟩
theorem pl_63 : Pl Tryz.prog 63 [(0, 1), (1, 3)] := ⟨_, Tryz.underlying63, fun w => by simp [Tryz.sizeOf27, Tryz.sizeOf3]⟩
theorem ty_64 : Ty Tryz.prog 64 1 false := ⟨Tryz.sizeOf64, Tryz.isAgg64, by decide⟩
theorem ty_65 : Ty Tryz.prog 65 1 false := ⟨Tryz.sizeOf65, Tryz.isAgg65, by decide⟩
theorem ty_66 : Ty Tryz.prog 66 1 false := ⟨Tryz.sizeOf66, Tryz.isAgg66, by decide⟩
theorem ty_67 : Ty Tryz.prog 67 3 true := ⟨Tryz.sizeOf67, Tryz.isAgg67, by decide⟩
theorem ty_68 : Ty Tryz.prog 68 1 false := ⟨Tryz.sizeOf68, Tryz.isAgg68, by decide⟩
theorem ty_69 : Ty Tryz.prog 69 1 false := ⟨Tryz.sizeOf69, Tryz.isAgg69, by decide⟩
theorem ty_70 : Ty Tryz.prog 70 2 true := ⟨Tryz.sizeOf70, Tryz.isAgg70, by decide⟩
theorem fa_70_0 : FA Tryz.prog 70 0 0 := fun a w => by simp [Instr.fieldAt, Tryz.runUnderlying70, Instr.sureAddr, fieldPlace, Tryz.sizeOf3]
theorem fd_70_0 : Fd Tryz.prog 70 0 3 0 := ⟨_, _, Tryz.underlying70, rfl, rfl, rfl⟩
theorem fa_70_1 : FA Tryz.prog 70 1 1 := fun a w => by simp [Instr.fieldAt, Tryz.runUnderlying70, Instr.sureAddr, fieldPlace, Tryz.sizeOf69]
theorem fd_70_1 : Fd Tryz.prog 70 1 69 1 := ⟨_, _, Tryz.underlying70, rfl, rfl, rfl⟩
theorem pl_70 : Pl Tryz.prog 70 [(0, 1), (1, 1)] := ⟨_, Tryz.underlying70, fun w => by simp [Tryz.sizeOf3, Tryz.sizeOf69]⟩
theorem ty_71 : Ty Tryz.prog 71 2 true := ⟨Tryz.sizeOf71, Tryz.isAgg71, by decide⟩
theorem fa_71_0 : FA Tryz.prog 71 0 0 := fun a w => by simp [Instr.fieldAt, Tryz.runUnderlying71, Instr.sureAddr, fieldPlace, Tryz.sizeOf3]
theorem fd_71_0 : Fd Tryz.prog 71 0 3 0 := ⟨_, _, Tryz.underlying71, rfl, rfl, rfl⟩
theorem fa_71_1 : FA Tryz.prog 71 1 1 := fun a w => by simp [Instr.fieldAt, Tryz.runUnderlying71, Instr.sureAddr, fieldPlace, Tryz.sizeOf69]
theorem fd_71_1 : Fd Tryz.prog 71 1 69 1 := ⟨_, _, Tryz.underlying71, rfl, rfl, rfl⟩
theorem pl_71 : Pl Tryz.prog 71 [(0, 1), (1, 1)] := ⟨_, Tryz.underlying71, fun w => by simp [Tryz.sizeOf3, Tryz.sizeOf69]⟩
theorem ty_72 : Ty Tryz.prog 72 1 false := ⟨Tryz.sizeOf72, Tryz.isAgg72, by decide⟩
theorem ty_73 : Ty Tryz.prog 73 5 true := ⟨Tryz.sizeOf73, Tryz.isAgg73, by decide⟩
theorem fa_73_0 : FA Tryz.prog 73 0 0 := fun a w => by simp [Instr.fieldAt, Tryz.runUnderlying73, Instr.sureAddr, fieldPlace, Tryz.sizeOf71]
theorem fd_73_0 : Fd Tryz.prog 73 0 71 0 := ⟨_, _, Tryz.underlying73, rfl, rfl, rfl⟩
theorem fa_73_1 : FA Tryz.prog 73 1 2 := fun a w => by simp [Instr.fieldAt, Tryz.runUnderlying73, Instr.sureAddr, fieldPlace, Tryz.sizeOf3]
theorem fd_73_1 : Fd Tryz.prog 73 1 3 2 := ⟨_, _, Tryz.underlying73, rfl, rfl, rfl⟩
theorem fa_73_2 : FA Tryz.prog 73 2 3 := fun a w => by simp [Instr.fieldAt, Tryz.runUnderlying73, Instr.sureAddr, fieldPlace, Tryz.sizeOf3]
theorem fd_73_2 : Fd Tryz.prog 73 2 3 3 := ⟨_, _, Tryz.underlying73, rfl, rfl, rfl⟩
theorem fa_73_3 : FA Tryz.prog 73 3 4 := fun a w => by simp [Instr.fieldAt, Tryz.runUnderlying73, Instr.sureAddr, fieldPlace, Tryz.sizeOf72]
theorem fd_73_3 : Fd Tryz.prog 73 3 72 4 := ⟨_, _, Tryz.underlying73, rfl, rfl, rfl⟩
theorem pl_73 : Pl Tryz.prog 73 [(0, 2), (2, 1), (3, 1), (4, 1)] := ⟨_, Tryz.underlying73, fun w => by simp [Tryz.sizeOf3, Tryz.sizeOf71, Tryz.sizeOf72]⟩
theorem ty_74 : Ty Tryz.prog 74 5 true := ⟨Tryz.sizeOf74, Tryz.isAgg74, by decide⟩
theorem fa_74_0 : FA Tryz.prog 74 0 0 := fun a w => by simp [Instr.fieldAt, Tryz.runUnderlying74, Instr.sureAddr, fieldPlace, Tryz.sizeOf71]
theorem fd_74_0 : Fd Tryz.prog 74 0 71 0 := ⟨_, _, Tryz.underlying74, rfl, rfl, rfl⟩
theorem fa_74_1 : FA Tryz.prog 74 1 2 := fun a w => by simp [Instr.fieldAt, Tryz.runUnderlying74, Instr.sureAddr, fieldPlace, Tryz.sizeOf3]
theorem fd_74_1 : Fd Tryz.prog 74 1 3 2 := ⟨_, _, Tryz.underlying74, rfl, rfl, rfl⟩
theorem fa_74_2 : FA Tryz.prog 74 2 3 := fun a w => by simp [Instr.fieldAt, Tryz.runUnderlying74, Instr.sureAddr, fieldPlace, Tryz.sizeOf3]
theorem fd_74_2 : Fd Tryz.prog 74 2 3 3 := ⟨_, _, Tryz.underlying74, rfl, rfl, rfl⟩
theorem fa_74_3 : FA Tryz.prog 74 3 4 := fun a w => by simp [Instr.fieldAt, Tryz.runUnderlying74, Instr.sureAddr, fieldPlace, Tryz.sizeOf72]
theorem fd_74_3 : Fd Tryz.prog 74 3 72 4 := ⟨_, _, Tryz.underlying74, rfl, rfl, rfl⟩
theorem pl_74 : Pl Tryz.prog 74 [(0, 2), (2, 1), (3, 1), (4, 1)] := ⟨_, Tryz.underlying74, fun w => by simp [Tryz.sizeOf3, Tryz.sizeOf71, Tryz.sizeOf72]⟩
theorem ty_76 : Ty Tryz.prog 76 1 false := ⟨Tryz.sizeOf76, Tryz.isAgg76, by decide⟩
theorem ty_77 : Ty Tryz.prog 77 1 false := ⟨Tryz.sizeOf77, Tryz.isAgg77, by decide⟩
theorem ty_78 : Ty Tryz.prog 78 1 false := ⟨Tryz.sizeOf78, Tryz.isAgg78, by decide⟩
theorem ty_79 : Ty Tryz.prog 79 1 false := ⟨Tryz.sizeOf79, Tryz.isAgg79, by decide⟩
theorem ty_80 : Ty Tryz.prog 80 1 false := ⟨Tryz.sizeOf80, Tryz.isAgg80, by decide⟩
theorem ty_81 : Ty Tryz.prog 81 1 false := ⟨Tryz.sizeOf81, Tryz.isAgg81, by decide⟩
theorem ty_82 : Ty Tryz.prog 82 1 false := ⟨Tryz.sizeOf82, Tryz.isAgg82, by decide⟩
theorem ty_83 : Ty Tryz.prog 83 1 false := ⟨Tryz.sizeOf83, Tryz.isAgg83, by decide⟩
theorem ty_84 : Ty Tryz.prog 84 1 false := ⟨Tryz.sizeOf84, Tryz.isAgg84, by decide⟩
theorem ty_85 : Ty Tryz.prog 85 1 false := ⟨Tryz.sizeOf85, Tryz.isAgg85, by decide⟩
theorem ty_86 : Ty Tryz.prog 86 3 true := ⟨Tryz.sizeOf86, Tryz.isAgg86, by decide⟩
theorem fa_86_0 : FA Tryz.prog 86 0 0 := fun a w => by simp [Instr.fieldAt, Tryz.runUnderlying86, Instr.sureAddr, fieldPlace, Tryz.sizeOf4]
theorem fd_86_0 : Fd Tryz.prog 86 0 4 0 := ⟨_, _, Tryz.underlying86, rfl, rfl, rfl⟩
theorem fa_86_1 : FA Tryz.prog 86 1 1 := fun a w => by simp [Instr.fieldAt, Tryz.runUnderlying86, Instr.sureAddr, fieldPlace, Tryz.sizeOf71]
theorem fd_86_1 : Fd Tryz.prog 86 1 71 1 := ⟨_, _, Tryz.underlying86, rfl, rfl, rfl⟩
theorem pl_86 : Pl Tryz.prog 86 [(0, 1), (1, 2)] := ⟨_, Tryz.underlying86, fun w => by simp [Tryz.sizeOf4, Tryz.sizeOf71]⟩
theorem ty_87 : Ty Tryz.prog 87 3 true := ⟨Tryz.sizeOf87, Tryz.isAgg87, by decide⟩
theorem fa_87_0 : FA Tryz.prog 87 0 0 := fun a w => by simp [Instr.fieldAt, Tryz.runUnderlying87, Instr.sureAddr, fieldPlace, Tryz.sizeOf4]
theorem fd_87_0 : Fd Tryz.prog 87 0 4 0 := ⟨_, _, Tryz.underlying87, rfl, rfl, rfl⟩
theorem fa_87_1 : FA Tryz.prog 87 1 1 := fun a w => by simp [Instr.fieldAt, Tryz.runUnderlying87, Instr.sureAddr, fieldPlace, Tryz.sizeOf71]
theorem fd_87_1 : Fd Tryz.prog 87 1 71 1 := ⟨_, _, Tryz.underlying87, rfl, rfl, rfl⟩
theorem pl_87 : Pl Tryz.prog 87 [(0, 1), (1, 2)] := ⟨_, Tryz.underlying87, fun w => by simp [Tryz.sizeOf4, Tryz.sizeOf71]⟩
theorem ty_88 : Ty Tryz.prog 88 1 false := ⟨Tryz.sizeOf88, Tryz.isAgg88, by decide⟩
theorem ty_89 : Ty Tryz.prog 89 1 false := ⟨Tryz.sizeOf89, Tryz.isAgg89, by decide⟩
theorem ty_91 : Ty Tryz.prog 91 1 false := ⟨Tryz.sizeOf91, Tryz.isAgg91, by decide⟩
theorem ty_92 : Ty Tryz.prog 92 1 false := ⟨Tryz.sizeOf92, Tryz.isAgg92, by decide⟩
theorem ty_93 : Ty Tryz.prog 93 3 true := ⟨Tryz.sizeOf93, Tryz.isAgg93, by decide⟩
theorem fa_93_0 : FA Tryz.prog 93 0 0 := fun a w => by simp [Instr.fieldAt, Tryz.runUnderlying93, Instr.sureAddr, fieldPlace, Tryz.sizeOf9]
theorem fd_93_0 : Fd Tryz.prog 93 0 9 0 := ⟨_, _, Tryz.underlying93, rfl, rfl, rfl⟩
theorem fa_93_1 : FA Tryz.prog 93 1 1 := fun a w => by simp [Instr.fieldAt, Tryz.runUnderlying93, Instr.sureAddr, fieldPlace, Tryz.sizeOf3]
theorem fd_93_1 : Fd Tryz.prog 93 1 3 1 := ⟨_, _, Tryz.underlying93, rfl, rfl, rfl⟩
theorem fa_93_2 : FA Tryz.prog 93 2 2 := fun a w => by simp [Instr.fieldAt, Tryz.runUnderlying93, Instr.sureAddr, fieldPlace, Tryz.sizeOf3]
theorem fd_93_2 : Fd Tryz.prog 93 2 3 2 := ⟨_, _, Tryz.underlying93, rfl, rfl, rfl⟩
theorem pl_93 : Pl Tryz.prog 93 [(0, 1), (1, 1), (2, 1)] := ⟨_, Tryz.underlying93, fun w => by simp [Tryz.sizeOf3, Tryz.sizeOf9]⟩
theorem ty_94 : Ty Tryz.prog 94 3 true := ⟨Tryz.sizeOf94, Tryz.isAgg94, by decide⟩
theorem fa_94_0 : FA Tryz.prog 94 0 0 := fun a w => by simp [Instr.fieldAt, Tryz.runUnderlying94, Instr.sureAddr, fieldPlace, Tryz.sizeOf9]
theorem fd_94_0 : Fd Tryz.prog 94 0 9 0 := ⟨_, _, Tryz.underlying94, rfl, rfl, rfl⟩
theorem fa_94_1 : FA Tryz.prog 94 1 1 := fun a w => by simp [Instr.fieldAt, Tryz.runUnderlying94, Instr.sureAddr, fieldPlace, Tryz.sizeOf3]
theorem fd_94_1 : Fd Tryz.prog 94 1 3 1 := ⟨_, _, Tryz.underlying94, rfl, rfl, rfl⟩
theorem fa_94_2 : FA Tryz.prog 94 2 2 := fun a w => by simp [Instr.fieldAt, Tryz.runUnderlying94, Instr.sureAddr, fieldPlace, Tryz.sizeOf3]
theorem fd_94_2 : Fd Tryz.prog 94 2 3 2 := ⟨_, _, Tryz.underlying94, rfl, rfl, rfl⟩
theorem pl_94 : Pl Tryz.prog 94 [(0, 1), (1, 1), (2, 1)] := ⟨_, Tryz.underlying94, fun w => by simp [Tryz.sizeOf3, Tryz.sizeOf9]⟩
theorem ty_95 : Ty Tryz.prog 95 1 false := ⟨Tryz.sizeOf95, Tryz.isAgg95, by decide⟩
theorem ty_96 : Ty Tryz.prog 96 2 true := ⟨Tryz.sizeOf96, Tryz.isAgg96, by decide⟩
theorem fa_96_0 : FA Tryz.prog 96 0 0 := fun a w => by simp [Instr.fieldAt, Tryz.runUnderlying96, Instr.sureAddr, fieldPlace, Tryz.sizeOf4]
theorem fd_96_0 : Fd Tryz.prog 96 0 4 0 := ⟨_, _, Tryz.underlying96, rfl, rfl, rfl⟩
theorem fa_96_1 : FA Tryz.prog 96 1 1 := fun a w => by simp [Instr.fieldAt, Tryz.runUnderlying96, Instr.sureAddr, fieldPlace, Tryz.sizeOf3]
theorem fd_96_1 : Fd Tryz.prog 96 1 3 1 := ⟨_, _, Tryz.underlying96, rfl, rfl, rfl⟩
theorem pl_96 : Pl Tryz.prog 96 [(0, 1), (1, 1)] := ⟨_, Tryz.underlying96, fun w => by simp [Tryz.sizeOf3, Tryz.sizeOf4]⟩
theorem ty_97 : Ty Tryz.prog 97 2 true := ⟨Tryz.sizeOf97, Tryz.isAgg97, by decide⟩
theorem fa_97_0 : FA Tryz.prog 97 0 0 := fun a w => by simp [Instr.fieldAt, Tryz.runUnderlying97, Instr.sureAddr, fieldPlace, Tryz.sizeOf4]
theorem fd_97_0 : Fd Tryz.prog 97 0 4 0 := ⟨_, _, Tryz.underlying97, rfl, rfl, rfl⟩
theorem fa_97_1 : FA Tryz.prog 97 1 1 := fun a w => by simp [Instr.fieldAt, Tryz.runUnderlying97, Instr.sureAddr, fieldPlace, Tryz.sizeOf3]
theorem fd_97_1 : Fd Tryz.prog 97 1 3 1 := ⟨_, _, Tryz.underlying97, rfl, rfl, rfl⟩
theorem pl_97 : Pl Tryz.prog 97 [(0, 1), (1, 1)] := ⟨_, Tryz.underlying97, fun w => by simp [Tryz.sizeOf3, Tryz.sizeOf4]⟩
theorem ty_98 : Ty Tryz.prog 98 1 false := ⟨Tryz.sizeOf98, Tryz.isAgg98, by decide⟩
theorem ty_99 : Ty Tryz.prog 99 1 false := ⟨Tryz.sizeOf99, Tryz.isAgg99, by decide⟩
theorem ty_100 : Ty Tryz.prog 100 1 false := ⟨Tryz.sizeOf100, Tryz.isAgg100, by decide⟩
theorem ty_102 : Ty Tryz.prog 102 1 false := ⟨Tryz.sizeOf102, Tryz.isAgg102, by decide⟩
theorem ty_103 : Ty Tryz.prog 103 1 false := ⟨Tryz.sizeOf103, Tryz.isAgg103, by decide⟩
theorem ty_104 : Ty Tryz.prog 104 3 true := ⟨Tryz.sizeOf104, Tryz.isAgg104, by decide⟩
theorem ty_106 : Ty Tryz.prog 106 1 false := ⟨Tryz.sizeOf106, Tryz.isAgg106, by decide⟩
theorem ty_107 : Ty Tryz.prog 107 1 false := ⟨Tryz.sizeOf107, Tryz.isAgg107, by decide⟩
theorem ty_108 : Ty Tryz.prog 108 1 false := ⟨Tryz.sizeOf108, Tryz.isAgg108, by decide⟩
theorem ty_109 : Ty Tryz.prog 109 1 false := ⟨Tryz.sizeOf109, Tryz.isAgg109, by decide⟩
theorem ty_110 : Ty Tryz.prog 110 1 false := ⟨Tryz.sizeOf110, Tryz.isAgg110, by decide⟩
theorem ty_111 : Ty Tryz.prog 111 1 false := ⟨Tryz.sizeOf111, Tryz.isAgg111, by decide⟩
theorem ty_112 : Ty Tryz.prog 112 1 false := ⟨Tryz.sizeOf112, Tryz.isAgg112, by decide⟩
theorem ty_113 : Ty Tryz.prog 113 1 false := ⟨Tryz.sizeOf113, Tryz.isAgg113, by decide⟩
theorem ty_114 : Ty Tryz.prog 114 1 false := ⟨Tryz.sizeOf114, Tryz.isAgg114, by decide⟩
theorem ty_115 : Ty Tryz.prog 115 1 false := ⟨Tryz.sizeOf115, Tryz.isAgg115, by decide⟩
theorem ty_116 : Ty Tryz.prog 116 1 false := ⟨Tryz.sizeOf116, Tryz.isAgg116, by decide⟩
theorem ty_117 : Ty Tryz.prog 117 1 false := ⟨Tryz.sizeOf117, Tryz.isAgg117, by decide⟩
theorem ty_118 : Ty Tryz.prog 118 1 false := ⟨Tryz.sizeOf118, Tryz.isAgg118, by decide⟩
theorem ty_119 : Ty Tryz.prog 119 1 false := ⟨Tryz.sizeOf119, Tryz.isAgg119, by decide⟩
theorem ty_120 : Ty Tryz.prog 120 1 false := ⟨Tryz.sizeOf120, Tryz.isAgg120, by decide⟩
theorem ty_121 : Ty Tryz.prog 121 1 false := ⟨Tryz.sizeOf121, Tryz.isAgg121, by decide⟩
theorem ty_122 : Ty Tryz.prog 122 1 false := ⟨Tryz.sizeOf122, Tryz.isAgg122, by decide⟩
theorem ty_123 : Ty Tryz.prog 123 1 false := ⟨Tryz.sizeOf123, Tryz.isAgg123, by decide⟩
theorem ty_124 : Ty Tryz.prog 124 1 false := ⟨Tryz.sizeOf124, Tryz.isAgg124, by decide⟩
theorem ty_125 : Ty Tryz.prog 125 1 false := ⟨Tryz.sizeOf125, Tryz.isAgg125, by decide⟩
theorem ty_126 : Ty Tryz.prog 126 1 false := ⟨Tryz.sizeOf126, Tryz.isAgg126, by decide⟩
theorem ty_127 : Ty Tryz.prog 127 1 false := ⟨Tryz.sizeOf127, Tryz.isAgg127, by decide⟩
theorem ty_128 : Ty Tryz.prog 128 2 true := ⟨Tryz.sizeOf128, Tryz.isAgg128, by decide⟩
theorem ty_129 : Ty Tryz.prog 129 1 false := ⟨Tryz.sizeOf129, Tryz.isAgg129, by decide⟩
theorem ty_130 : Ty Tryz.prog 130 2 true := ⟨Tryz.sizeOf130, Tryz.isAgg130, by decide⟩
theorem fa_130_0 : FA Tryz.prog 130 0 0 := fun a w => by simp [Instr.fieldAt, Tryz.runUnderlying130, Instr.sureAddr, fieldPlace, Tryz.sizeOf111]
theorem fd_130_0 : Fd Tryz.prog 130 0 111 0 := ⟨_, _, Tryz.underlying130, rfl, rfl, rfl⟩
theorem fa_130_1 : FA Tryz.prog 130 1 1 := fun a w => by simp [Instr.fieldAt, Tryz.runUnderlying130, Instr.sureAddr, fieldPlace, Tryz.sizeOf111]
theorem fd_130_1 : Fd Tryz.prog 130 1 111 1 := ⟨_, _, Tryz.underlying130, rfl, rfl, rfl⟩
theorem pl_130 : Pl Tryz.prog 130 [(0, 1), (1, 1)] := ⟨_, Tryz.underlying130, fun w => by simp [Tryz.sizeOf111]⟩
theorem ty_131 : Ty Tryz.prog 131 2 true := ⟨Tryz.sizeOf131, Tryz.isAgg131, by decide⟩
theorem fa_131_0 : FA Tryz.prog 131 0 0 := fun a w => by simp [Instr.fieldAt, Tryz.runUnderlying131, Instr.sureAddr, fieldPlace, Tryz.sizeOf111]
theorem fd_131_0 : Fd Tryz.prog 131 0 111 0 := ⟨_, _, Tryz.underlying131, rfl, rfl, rfl⟩
theorem fa_131_1 : FA Tryz.prog 131 1 1 := fun a w => by simp [Instr.fieldAt, Tryz.runUnderlying131, Instr.sureAddr, fieldPlace, Tryz.sizeOf111]
theorem fd_131_1 : Fd Tryz.prog 131 1 111 1 := ⟨_, _, Tryz.underlying131, rfl, rfl, rfl⟩
theorem pl_131 : Pl Tryz.prog 131 [(0, 1), (1, 1)] := ⟨_, Tryz.underlying131, fun w => by simp [Tryz.sizeOf111]⟩
theorem ty_132 : Ty Tryz.prog 132 8 true := ⟨Tryz.sizeOf132, Tryz.isAgg132, by decide⟩
theorem ty_133 : Ty Tryz.prog 133 1 false := ⟨Tryz.sizeOf133, Tryz.isAgg133, by decide⟩
theorem ty_134 : Ty Tryz.prog 134 1 false := ⟨Tryz.sizeOf134, Tryz.isAgg134, by decide⟩
theorem ty_135 : Ty Tryz.prog 135 1 false := ⟨Tryz.sizeOf135, Tryz.isAgg135, by decide⟩
theorem ty_136 : Ty Tryz.prog 136 1 false := ⟨Tryz.sizeOf136, Tryz.isAgg136, by decide⟩
theorem ty_137 : Ty Tryz.prog 137 1 false := ⟨Tryz.sizeOf137, Tryz.isAgg137, by decide⟩
theorem ty_138 : Ty Tryz.prog 138 1 false := ⟨Tryz.sizeOf138, Tryz.isAgg138, by decide⟩
theorem ty_139 : Ty Tryz.prog 139 1 false := ⟨Tryz.sizeOf139, Tryz.isAgg139, by decide⟩
theorem ty_140 : Ty Tryz.prog 140 1 false := ⟨Tryz.sizeOf140, Tryz.isAgg140, by decide⟩
theorem ty_141 : Ty Tryz.prog 141 1 false := ⟨Tryz.sizeOf141, Tryz.isAgg141, by decide⟩
theorem ty_142 : Ty Tryz.prog 142 1 false := ⟨Tryz.sizeOf142, Tryz.isAgg142, by decide⟩
theorem ty_143 : Ty Tryz.prog 143 1 false := ⟨Tryz.sizeOf143, Tryz.isAgg143, by decide⟩
theorem ty_144 : Ty Tryz.prog 144 1 false := ⟨Tryz.sizeOf144, Tryz.isAgg144, by decide⟩
theorem ty_145 : Ty Tryz.prog 145 1 false := ⟨Tryz.sizeOf145, Tryz.isAgg145, by decide⟩
theorem ty_146 : Ty Tryz.prog 146 1 false := ⟨Tryz.sizeOf146, Tryz.isAgg146, by decide⟩
theorem ty_147 : Ty Tryz.prog 147 1 false := ⟨Tryz.sizeOf147, Tryz.isAgg147, by decide⟩
theorem ty_148 : Ty Tryz.prog 148 1 false := ⟨Tryz.sizeOf148, Tryz.isAgg148, by decide⟩
theorem ty_149 : Ty Tryz.prog 149 1 false := ⟨Tryz.sizeOf149, Tryz.isAgg149, by decide⟩
theorem ty_150 : Ty Tryz.prog 150 1 false := ⟨Tryz.sizeOf150, Tryz.isAgg150, by decide⟩
theorem ty_151 : Ty Tryz.prog 151 1 false := ⟨Tryz.sizeOf151, Tryz.isAgg151, by decide⟩
theorem ty_152 : Ty Tryz.prog 152 1 false := ⟨Tryz.sizeOf152, Tryz.isAgg152, by decide⟩
theorem ty_154 : Ty Tryz.prog 154 1 false := ⟨Tryz.sizeOf154, Tryz.isAgg154, by decide⟩
theorem ty_155 : Ty Tryz.prog 155 1 false := ⟨Tryz.sizeOf155, Tryz.isAgg155, by decide⟩
theorem ty_156 : Ty Tryz.prog 156 1 false := ⟨Tryz.sizeOf156, Tryz.isAgg156, by decide⟩
theorem ty_157 : Ty Tryz.prog 157 1 false := ⟨Tryz.sizeOf157, Tryz.isAgg157, by decide⟩
theorem ty_158 : Ty Tryz.prog 158 1 false := ⟨Tryz.sizeOf158, Tryz.isAgg158, by decide⟩
theorem ty_159 : Ty Tryz.prog 159 1 false := ⟨Tryz.sizeOf159, Tryz.isAgg159, by decide⟩
theorem ty_160 : Ty Tryz.prog 160 1 false := ⟨Tryz.sizeOf160, Tryz.isAgg160, by decide⟩
theorem ty_161 : Ty Tryz.prog 161 1 false := ⟨Tryz.sizeOf161, Tryz.isAgg161, by decide⟩
theorem ty_162 : Ty Tryz.prog 162 1 false := ⟨Tryz.sizeOf162, Tryz.isAgg162, by decide⟩
theorem ty_163 : Ty Tryz.prog 163 1 false := ⟨Tryz.sizeOf163, Tryz.isAgg163, by decide⟩
theorem ty_164 : Ty Tryz.prog 164 1 false := ⟨Tryz.sizeOf164, Tryz.isAgg164, by decide⟩
theorem ty_165 : Ty Tryz.prog 165 1 false := ⟨Tryz.sizeOf165, Tryz.isAgg165, by decide⟩
theorem ty_166 : Ty Tryz.prog 166 1 false := ⟨Tryz.sizeOf166, Tryz.isAgg166, by decide⟩
theorem ty_167 : Ty Tryz.prog 167 1 false := ⟨Tryz.sizeOf167, Tryz.isAgg167, by decide⟩
theorem ty_168 : Ty Tryz.prog 168 1 false := ⟨Tryz.sizeOf168, Tryz.isAgg168, by decide⟩
theorem ty_169 : Ty Tryz.prog 169 1 false := ⟨Tryz.sizeOf169, Tryz.isAgg169, by decide⟩
theorem ty_170 : Ty Tryz.prog 170 1 false := ⟨Tryz.sizeOf170, Tryz.isAgg170, by decide⟩
theorem ty_171 : Ty Tryz.prog 171 1 false := ⟨Tryz.sizeOf171, Tryz.isAgg171, by decide⟩
theorem ty_172 : Ty Tryz.prog 172 1 false := ⟨Tryz.sizeOf172, Tryz.isAgg172, by decide⟩
theorem ty_173 : Ty Tryz.prog 173 1 false := ⟨Tryz.sizeOf173, Tryz.isAgg173, by decide⟩
theorem ty_174 : Ty Tryz.prog 174 1 false := ⟨Tryz.sizeOf174, Tryz.isAgg174, by decide⟩
theorem ty_176 : Ty Tryz.prog 176 1 false := ⟨Tryz.sizeOf176, Tryz.isAgg176, by decide⟩
theorem ty_177 : Ty Tryz.prog 177 1 false := ⟨Tryz.sizeOf177, Tryz.isAgg177, by decide⟩
theorem ty_178 : Ty Tryz.prog 178 1 false := ⟨Tryz.sizeOf178, Tryz.isAgg178, by decide⟩
theorem ty_179 : Ty Tryz.prog 179 1 false := ⟨Tryz.sizeOf179, Tryz.isAgg179, by decide⟩
theorem ty_180 : Ty Tryz.prog 180 4 true := ⟨Tryz.sizeOf180, Tryz.isAgg180, by decide⟩
theorem ty_181 : Ty Tryz.prog 181 4 true := ⟨Tryz.sizeOf181, Tryz.isAgg181, by decide⟩
theorem ty_182 : Ty Tryz.prog 182 0 true := ⟨Tryz.sizeOf182, Tryz.isAgg182, by decide⟩
theorem ty_183 : Ty Tryz.prog 183 0 true := ⟨Tryz.sizeOf183, Tryz.isAgg183, by decide⟩
theorem ty_184 : Ty Tryz.prog 184 0 true := ⟨Tryz.sizeOf184, Tryz.isAgg184, by decide⟩
theorem ty_185 : Ty Tryz.prog 185 1 false := ⟨Tryz.sizeOf185, Tryz.isAgg185, by decide⟩
theorem ty_186 : Ty Tryz.prog 186 1 false := ⟨Tryz.sizeOf186, Tryz.isAgg186, by decide⟩
theorem ty_187 : Ty Tryz.prog 187 1 false := ⟨Tryz.sizeOf187, Tryz.isAgg187, by decide⟩
theorem ty_188 : Ty Tryz.prog 188 1 false := ⟨Tryz.sizeOf188, Tryz.isAgg188, by decide⟩
theorem ty_189 : Ty Tryz.prog 189 1 false := ⟨Tryz.sizeOf189, Tryz.isAgg189, by decide⟩
theorem ty_190 : Ty Tryz.prog 190 1 false := ⟨Tryz.sizeOf190, Tryz.isAgg190, by decide⟩
theorem ty_191 : Ty Tryz.prog 191 1 false := ⟨Tryz.sizeOf191, Tryz.isAgg191, by decide⟩
theorem ty_192 : Ty Tryz.prog 192 11 true := ⟨Tryz.sizeOf192, Tryz.isAgg192, by decide⟩
theorem ty_193 : Ty Tryz.prog 193 11 true := ⟨Tryz.sizeOf193, Tryz.isAgg193, by decide⟩
theorem eq_29 (a0 : Int) (a1 : Int) (a2 : Int) (a3 : Int) (b0 : Int) (b1 : Int) (b2 : Int) (b3 : Int) (w : World) : (Op.equalIn 10000 29 (.agg #[.int .i64 a0, .int .i64 a1, .int .i64 a2, .int .i64 a3]) (.agg #[.int .i64 b0, .int .i64 b1, .int .i64 b2, .int .i64 b3])).run Tryz.prog w = .ok ((a0 == b0) && ((a1 == b1) && ((a2 == b2) && ((a3 == b3) && true)))) w := by
  rw [show 10000 = 9998 + 1 + 1 from rfl, run_equalIn_struct w _ 29 _ _ (by simp only [Program.fieldsOf, Tryz.underlying29]) Tryz.stoodInHeld29]
  simp only [Program.fieldsOf, Tryz.underlying29, Op.eqFields]
  have p : ∀ T, (∀ w, (isAgg T).run Tryz.prog w = .ok false w) → ∀ (cs : Array Value) (o : Nat) v, cs[o]? = some v → (Go.part T cs o).run Tryz.prog w = .ok v w := fun T h cs o v hv => part_leaf h hv w
  cases h0 : (a0 == b0) <;> cases h1 : (a1 == b1) <;> cases h2 : (a2 == b2) <;> cases h3 : (a3 == b3) <;> simp [p 3 Tryz.isAgg3, run_equalIn_int w _ 3 .i64 .i64 _ _ Tryz.underlying3, h0, h1, h2, h3]
theorem eq_94 (a0 : ByteArray) (a1 : Int) (a2 : Int) (b0 : ByteArray) (b1 : Int) (b2 : Int) (w : World) : (Op.equalIn 10000 94 (.agg #[.string a0, .int .i64 a1, .int .i64 a2]) (.agg #[.string b0, .int .i64 b1, .int .i64 b2])).run Tryz.prog w = .ok ((a0.toList == b0.toList) && ((a1 == b1) && ((a2 == b2) && true))) w := by
  rw [show 10000 = 9998 + 1 + 1 from rfl, run_equalIn_struct w _ 94 _ _ (by simp only [Program.fieldsOf, Tryz.underlying94]) Tryz.stoodInHeld94]
  simp only [Program.fieldsOf, Tryz.underlying94, Op.eqFields]
  have p : ∀ T, (∀ w, (isAgg T).run Tryz.prog w = .ok false w) → ∀ (cs : Array Value) (o : Nat) v, cs[o]? = some v → (Go.part T cs o).run Tryz.prog w = .ok v w := fun T h cs o v hv => part_leaf h hv w
  cases h0 : (a0.toList == b0.toList) <;> cases h1 : (a1 == b1) <;> cases h2 : (a2 == b2) <;> simp [p 3 Tryz.isAgg3, p 9 Tryz.isAgg9, run_equalIn_int w _ 3 .i64 .i64 _ _ Tryz.underlying3, run_equalIn_string w _ 9 _ _ Tryz.underlying9, h0, h1, h2]
theorem eq_97 (a0 : Bool) (a1 : Int) (b0 : Bool) (b1 : Int) (w : World) : (Op.equalIn 10000 97 (.agg #[.bool a0, .int .i64 a1]) (.agg #[.bool b0, .int .i64 b1])).run Tryz.prog w = .ok ((a0 == b0) && ((a1 == b1) && true)) w := by
  rw [show 10000 = 9998 + 1 + 1 from rfl, run_equalIn_struct w _ 97 _ _ (by simp only [Program.fieldsOf, Tryz.underlying97]) Tryz.stoodInHeld97]
  simp only [Program.fieldsOf, Tryz.underlying97, Op.eqFields]
  have p : ∀ T, (∀ w, (isAgg T).run Tryz.prog w = .ok false w) → ∀ (cs : Array Value) (o : Nat) v, cs[o]? = some v → (Go.part T cs o).run Tryz.prog w = .ok v w := fun T h cs o v hv => part_leaf h hv w
  cases h0 : (a0 == b0) <;> cases h1 : (a1 == b1) <;> simp [p 3 Tryz.isAgg3, p 4 Tryz.isAgg4, run_equalIn_bool' w _ 4 _ _ Tryz.underlying4, run_equalIn_int w _ 3 .i64 .i64 _ _ Tryz.underlying3, h0, h1]
theorem et_3 : ElT Tryz.prog 3 1 8 (.int .i64 0) := ⟨by kernel_rfl, rfl, by decide⟩
theorem et_26 : ElT Tryz.prog 26 1 24 (.slice none 0 0) := ⟨by kernel_rfl, rfl, by decide⟩
theorem et_29 : ElT Tryz.prog 29 4 32 (.agg #[.int .i64 0, .int .i64 0, .int .i64 0, .int .i64 0]) := ⟨by kernel_rfl, rfl, by decide⟩
theorem et_63 : ElT Tryz.prog 63 4 32 (.agg #[.int .i64 0, .int .i64 0, .int .i64 0, .int .i64 0]) := ⟨by kernel_rfl, rfl, by decide⟩
theorem et_71 : ElT Tryz.prog 71 2 32 (.agg #[.int .i64 0, .slice none 0 0]) := ⟨by kernel_rfl, rfl, by decide⟩
theorem et_74 : ElT Tryz.prog 74 5 72 (.agg #[.int .i64 0, .slice none 0 0, .int .i64 0, .int .i64 0, .slice none 0 0]) := ⟨by kernel_rfl, rfl, by decide⟩
theorem et_87 : ElT Tryz.prog 87 3 40 (.agg #[.bool false, .int .i64 0, .slice none 0 0]) := ⟨by kernel_rfl, rfl, by decide⟩
theorem et_94 : ElT Tryz.prog 94 3 32 (.agg #[.string ByteArray.empty, .int .i64 0, .int .i64 0]) := ⟨by kernel_rfl, rfl, by decide⟩
theorem et_97 : ElT Tryz.prog 97 2 16 (.agg #[.bool false, .int .i64 0]) := ⟨by kernel_rfl, rfl, by decide⟩
end Go.TF
end
section
/- What values' functions compute: plain. -/
namespace Go.TF
open Go

def within (n lo hi : Int) : Prop := lo ≤ n ∧ n ≤ hi
instance (n lo hi : Int) : Decidable (within n lo hi) := inferInstanceAs (Decidable (_ ∧ _))
def checkVal (kind v : Int) : Int := if kind < 0 ∨ 3 < kind then 4 else if (kind = 0 ∧ v ≠ 0) ∨ v < 0 ∨ 15 < v then 3 else 0
def joinV (kind a b : Int) : Int := if kind = 1 then max a b else if kind = 2 then min a b else if kind = 3 then orI a b else 0
def liftV (kind v n : Int) : Int := if kind = 0 then 0 else if kind = 3 then orI v n else min (v + n) 15
def bothV (kind a b : Int) : Int := if checkVal kind a ≠ 0 then checkVal kind a else checkVal kind b
theorem bothV_ok {kind a b : Int} (h : bothV kind a b = 0) : 0 ≤ kind ∧ kind ≤ 3 ∧ 0 ≤ a ∧ a ≤ 15 ∧ 0 ≤ b ∧ b ≤ 15 ∧ (kind = 0 → a = 0 ∧ b = 0) := by
  unfold bothV checkVal at h
  (repeat' split at h) <;> omega
def joinOf (kind a b : Int) : Int × Int := if bothV kind a b ≠ 0 then (0, bothV kind a b) else (joinV kind a b, 0)
def liftOf (kind a b : Int) : Int × Int := if bothV kind a b ≠ 0 then (0, bothV kind a b) else (liftV kind a b, 0)
def leqOf (kind a b : Int) : Bool × Int := if bothV kind a b ≠ 0 then (false, bothV kind a b) else (decide (joinV kind a b = b), 0)
def vIE (x : Int × Int) : Value := .tuple #[.int .i64 x.1, .int .i64 x.2]
def vBE (x : Bool × Int) : Value := .tuple #[.bool x.1, .int .i64 x.2]
end Go.TF
end
section
/- The contracts of package lat and of the references beside it: each call returns what the plain functions compute. -/
namespace Go.TF
open Go Go.RowKit Go.Proofs
set_option maxRecDepth 10000

theorem orders1_ok (B : Base) (hB : B.ok) (a b : Int) (h : I64 (a + b)) : Fn Tryz.prog 117 [.int .i64 a, .int .i64 b] B (fun v _ => v = .int .i64 (min (a + b) 15)) := by
  obtain ⟨h1, h2⟩ := h
  refine Fn.of Tryz.func117 rfl Tryz.ntmps117 (by kernel_rfl) (by simp) ?_
  intro e
  have I := Inv.start hB
  refine WP.seq ?_
  refine WP.region ?_
  refine Ops.y (v := .int .i64 _) (Y.assign rfl) ?_
  refine Ops.nil ?_
  refine WP.seq ?_
  refine WP.region ?_
  refine Ops.y (v := .int .i64 _) (Y.move rfl) ?_
  refine Ops.y (v := .int .i64 _) (Y.move rfl) ?_
  refine Ops.y (v := .int .i64 _) (Y.addi rfl rfl ⟨by omega, by omega⟩) ?_
  refine Ops.y (v := .int .i64 _) (Y.min2 rfl rfl) ?_
  refine Ops.y (v := .int .i64 _) (Y.assign rfl) ?_
  refine Ops.nil ?_
  refine WP.ret ?_
  repeat (first | refine thenE_ret ?_ | refine blockE_ret ?_)
  exact retQ.mk (vs := [.int .i64 _]) rfl ⟨rfl, trivial⟩ I.ext_of (rfl)
theorem orders2_ok (B : Base) (hB : B.ok) (a b : Int) : Fn Tryz.prog 118 [.int .i64 a, .int .i64 b] B (fun v _ => v = .int .i64 (orI a b)) := by
  refine Fn.of Tryz.func118 rfl Tryz.ntmps118 (by kernel_rfl) (by simp) ?_
  intro e
  have I := Inv.start hB
  refine WP.seq ?_
  refine WP.region ?_
  refine Ops.y (v := .int .i64 _) (Y.assign rfl) ?_
  refine Ops.nil ?_
  refine WP.seq ?_
  refine WP.region ?_
  refine Ops.y (v := .int .i64 _) (Y.move rfl) ?_
  refine Ops.y (v := .int .i64 _) (Y.move rfl) ?_
  refine Ops.y (v := .int .i64 _) (Y.ori rfl rfl) ?_
  refine Ops.y (v := .int .i64 _) (Y.assign rfl) ?_
  refine Ops.nil ?_
  refine WP.ret ?_
  repeat (first | refine thenE_ret ?_ | refine blockE_ret ?_)
  exact retQ.mk (vs := [.int .i64 _]) rfl ⟨rfl, trivial⟩ I.ext_of (rfl)
theorem orders3_ok (B : Base) (hB : B.ok) (a b : Int) : Fn Tryz.prog 119 [.int .i64 a, .int .i64 b] B (fun v _ => v = .int .i64 0) := by
  refine Fn.of Tryz.func119 rfl Tryz.ntmps119 (by kernel_rfl) (by simp) ?_
  intro e
  have I := Inv.start hB
  refine WP.seq ?_
  refine WP.region ?_
  refine Ops.y (v := .int .i64 _) (Y.assign rfl) ?_
  refine Ops.nil ?_
  refine WP.seq ?_
  refine WP.region ?_
  refine Ops.y (v := .int .i64 _) (Y.assign rfl) ?_
  refine Ops.nil ?_
  refine WP.ret ?_
  repeat (first | refine thenE_ret ?_ | refine blockE_ret ?_)
  exact retQ.mk (vs := [.int .i64 _]) rfl ⟨rfl, trivial⟩ I.ext_of (rfl)
theorem orders4_ok (B : Base) (hB : B.ok) (a b : Int) : Fn Tryz.prog 120 [.int .i64 a, .int .i64 b] B (fun v _ => v = .int .i64 (max a b)) := by
  refine Fn.of Tryz.func120 rfl Tryz.ntmps120 (by kernel_rfl) (by simp) ?_
  intro e
  have I := Inv.start hB
  refine WP.seq ?_
  refine WP.region ?_
  refine Ops.y (v := .int .i64 _) (Y.assign rfl) ?_
  refine Ops.nil ?_
  refine WP.seq ?_
  refine WP.region ?_
  refine Ops.y (v := .int .i64 _) (Y.move rfl) ?_
  refine Ops.y (v := .int .i64 _) (Y.move rfl) ?_
  refine Ops.y (v := .int .i64 _) (Y.max2 rfl rfl) ?_
  refine Ops.y (v := .int .i64 _) (Y.assign rfl) ?_
  refine Ops.nil ?_
  refine WP.ret ?_
  repeat (first | refine thenE_ret ?_ | refine blockE_ret ?_)
  exact retQ.mk (vs := [.int .i64 _]) rfl ⟨rfl, trivial⟩ I.ext_of (rfl)
theorem orders5_ok (B : Base) (hB : B.ok) (a b : Int) : Fn Tryz.prog 121 [.int .i64 a, .int .i64 b] B (fun v _ => v = .int .i64 (min a b)) := by
  refine Fn.of Tryz.func121 rfl Tryz.ntmps121 (by kernel_rfl) (by simp) ?_
  intro e
  have I := Inv.start hB
  refine WP.seq ?_
  refine WP.region ?_
  refine Ops.y (v := .int .i64 _) (Y.assign rfl) ?_
  refine Ops.nil ?_
  refine WP.seq ?_
  refine WP.region ?_
  refine Ops.y (v := .int .i64 _) (Y.move rfl) ?_
  refine Ops.y (v := .int .i64 _) (Y.move rfl) ?_
  refine Ops.y (v := .int .i64 _) (Y.min2 rfl rfl) ?_
  refine Ops.y (v := .int .i64 _) (Y.assign rfl) ?_
  refine Ops.nil ?_
  refine WP.ret ?_
  repeat (first | refine thenE_ret ?_ | refine blockE_ret ?_)
  exact retQ.mk (vs := [.int .i64 _]) rfl ⟨rfl, trivial⟩ I.ext_of (rfl)
def fv (f : Nat) : Value := .func (.func f) #[] #[]
theorem orders_ok (B : Base) (hB : B.ok) : Fn Tryz.prog 98 [] B (fun v _ => v = .agg #[fv 119, fv 119, fv 120, fv 117, fv 121, fv 117, fv 118, fv 118]) := by
  refine Fn.of Tryz.func98 rfl Tryz.ntmps98 (by kernel_rfl) (by simp) ?_
  intro e
  have I := Inv.start hB
  refine WP.seq ?_
  refine WP.region ?_
  refine Ops.go (O.alloc I Tryz.zeroValue132 rfl ?_)
  intro b0 w I
  refine Ops.nil ?_
  refine WP.seq ?_
  refine WP.region ?_
  refine Ops.y (v := .func _ _ _) (Y.assign rfl) ?_
  refine Ops.nil ?_
  refine WP.seq ?_
  refine WP.region ?_
  refine Ops.y (v := .func _ _ _) (Y.assign rfl) ?_
  refine Ops.nil ?_
  refine WP.seq ?_
  refine WP.region ?_
  refine Ops.y (v := .func _ _ _) (Y.assign rfl) ?_
  refine Ops.nil ?_
  refine WP.seq ?_
  refine WP.region ?_
  refine Ops.y (v := .func _ _ _) (Y.move rfl) ?_
  refine Ops.y (v := .func _ _ _) (Y.move rfl) ?_
  refine Ops.y (v := .agg #[.func _ _ _, .func _ _ _]) (Y.build pl_131 Tryz.zeroValue131 rfl rfl) ?_
  refine Ops.y (v := .func _ _ _) (Y.move rfl) ?_
  refine Ops.y (v := .agg #[.func _ _ _, .func _ _ _]) (Y.build pl_131 Tryz.zeroValue131 rfl rfl) ?_
  refine Ops.y (v := .func _ _ _) (Y.move rfl) ?_
  refine Ops.y (v := .agg #[.func _ _ _, .func _ _ _]) (Y.build pl_131 Tryz.zeroValue131 rfl rfl) ?_
  refine Ops.y (v := .func _ _ _) (Y.move rfl) ?_
  refine Ops.y (v := .func _ _ _) (Y.move rfl) ?_
  refine Ops.y (v := .agg #[.func _ _ _, .func _ _ _]) (Y.build pl_131 Tryz.zeroValue131 rfl rfl) ?_
  refine Ops.y (v := .agg #[.func _ _ _, .func _ _ _, .func _ _ _, .func _ _ _, .func _ _ _, .func _ _ _, .func _ _ _, .func _ _ _]) (Y.builda Tryz.underlying132 Tryz.zeroValue132 Tryz.sizeOf131 rfl rfl) ?_
  refine Ops.go (O.store (v := .agg #[_, _, _, _, _, _, _, _]) I ty_132 0 rfl rfl rfl rfl rfl rfl (Nat.le_of_ble_eq_true rfl) rfl ?_)
  intro w I
  refine Ops.nil ?_
  refine WP.ret ?_
  repeat (first | refine thenE_ret ?_ | refine blockE_ret ?_)
  exact retQ.mk (vs := [.agg #[_, _, _, _, _, _, _, _]]) rfl ⟨⟨_, _, _, _, _, rfl, ty_132, I.rdbox 0 rfl 0 8, rfl, rfl⟩, trivial⟩ I.ext_of (rfl)
theorem within_ok (B : Base) (hB : B.ok) (n lo hi : Int) : Fn Tryz.prog 36 [.int .i64 n, .int .i64 lo, .int .i64 hi] B (fun v _ => v = .bool (decide (within n lo hi))) := by
  by_cases h1 : lo ≤ n
  · refine Fn.of Tryz.func36 rfl Tryz.ntmps36 (by kernel_rfl) (by simp) ?_
    intro e
    have I := Inv.start hB
    refine WP.seq ?_
    refine WP.region ?_
    refine Ops.y (v := .bool _) (Y.assign rfl) ?_
    refine Ops.nil ?_
    refine WP.seq ?_
    refine WP.region ?_
    refine Ops.y (v := .int .i64 _) (Y.move rfl) ?_
    refine Ops.y (v := .int .i64 _) (Y.move rfl) ?_
    refine Ops.y (v := .bool true) (Y.dec_t (Y.gei rfl rfl) (h1)) ?_
    refine Ops.y (v := .bool _) (Y.move rfl) ?_
    refine Ops.ygt rfl (v := .int .i64 _) (Y.move rfl) ?_
    refine Ops.ygt rfl (v := .int .i64 _) (Y.move rfl) ?_
    refine Ops.ygt rfl (v := .bool (decide _)) (Y.lei rfl rfl) ?_
    refine Ops.y (v := .bool _) (Y.pick_t rfl rfl) ?_
    refine Ops.y (v := .bool _) (Y.assign rfl) ?_
    refine Ops.nil ?_
    refine WP.ret ?_
    repeat (first | refine thenE_ret ?_ | refine blockE_ret ?_)
    exact retQ.mk (vs := [.bool _]) rfl ⟨rfl, trivial⟩ I.ext_of (by simp [tup, within, h1])
  · refine Fn.of Tryz.func36 rfl Tryz.ntmps36 (by kernel_rfl) (by simp) ?_
    intro e
    have I := Inv.start hB
    refine WP.seq ?_
    refine WP.region ?_
    refine Ops.y (v := .bool _) (Y.assign rfl) ?_
    refine Ops.nil ?_
    refine WP.seq ?_
    refine WP.region ?_
    refine Ops.y (v := .int .i64 _) (Y.move rfl) ?_
    refine Ops.y (v := .int .i64 _) (Y.move rfl) ?_
    refine Ops.y (v := .bool false) (Y.dec_f (Y.gei rfl rfl) (h1)) ?_
    refine Ops.y (v := .bool _) (Y.move rfl) ?_
    refine Ops.gf rfl ?_
    refine Ops.gf rfl ?_
    refine Ops.gf rfl ?_
    refine Ops.y (v := .bool _) (Y.pick_f rfl rfl) ?_
    refine Ops.y (v := .bool _) (Y.assign rfl) ?_
    refine Ops.nil ?_
    refine WP.ret ?_
    repeat (first | refine thenE_ret ?_ | refine blockE_ret ?_)
    exact retQ.mk (vs := [.bool _]) rfl ⟨rfl, trivial⟩ I.ext_of (by simp [tup, within, h1])
theorem Check_ok (B : Base) (hB : B.ok) (kind v : Int) : Fn Tryz.prog 115 [.int .i64 kind, .int .i64 v] B (fun r _ => r = .int .i64 (checkVal kind v)) := by
  refine Fn.of Tryz.func115 rfl Tryz.ntmps115 (by kernel_rfl) (by simp) ?_
  intro e
  have I := Inv.start hB
  refine WP.seq ?_
  refine WP.region ?_
  refine Ops.y (v := .int .i64 _) (Y.assign rfl) ?_
  refine Ops.nil ?_
  refine WP.seq ?_
  refine WP.region ?_
  refine Ops.y (v := .int .i64 _) (Y.assign rfl) ?_
  refine Ops.nil ?_
  refine WP.seq ?_
  refine WP.seq ?_
  refine WP.region ?_
  refine Ops.y (v := .int .i64 _) (Y.move rfl) ?_
  refine Ops.nil ?_
  refine WP.cutK (σ := Unit) (fun _ => [(1, .int .i64 v), (5, .int .i64 (if kind = 0 then 0 else 15))]) (fun _ w' => Inv B B.h [] w' ∧ 0 ≤ kind ∧ kind ≤ 3) ?_ ?_
  · refine WP.block ?_
    refine WP.seq ?_
    refine WP.region ?_
    refine Ops.y (v := .bool (decide _)) (Y.eqi rfl rfl) ?_
    refine Ops.y (v := .bool _) (Y.assign rfl) ?_
    refine Ops.nil ?_
    refine WP.cond_dec rfl (fun h0 => ?_) (fun h0 => ?_)
    · refine WP.region ?_
      refine Ops.y (v := .int .i64 _) (Y.assign rfl) ?_
      refine Ops.nil ?_
      exact ⟨(), ⟨rfl, by show Value.int .i64 0 = _; simp [h0], trivial⟩, I, by omega, by omega⟩
    have hz : (if kind = 0 then (0 : Int) else 15) = 15 := by simp [h0]
    refine WP.seq ?_
    refine WP.seq ?_
    refine WP.region ?_
    refine Ops.y (v := .bool (decide _)) (Y.eqi rfl rfl) ?_
    refine Ops.y (v := .bool _) (Y.assign rfl) ?_
    refine Ops.nil ?_
    refine WP.cond_dec rfl (fun h1 => ?_) (fun h1 => ?_)
    · refine WP.skip ?_
      refine WP.cond_decT rfl (h1) ?_
      refine WP.skip ?_
      exact ⟨(), ⟨rfl, by rw [hz]; rfl, trivial⟩, I, by omega, by omega⟩
    refine WP.seq ?_
    refine WP.region ?_
    refine Ops.y (v := .bool (decide _)) (Y.eqi rfl rfl) ?_
    refine Ops.y (v := .bool _) (Y.assign rfl) ?_
    refine Ops.nil ?_
    refine WP.cond_dec rfl (fun h2 => ?_) (fun h2 => ?_)
    · refine WP.skip ?_
      refine WP.cond_decT rfl (h2) ?_
      refine WP.skip ?_
      exact ⟨(), ⟨rfl, by rw [hz]; rfl, trivial⟩, I, by omega, by omega⟩
    refine WP.region ?_
    refine Ops.y (v := .bool (decide _)) (Y.eqi rfl rfl) ?_
    refine Ops.y (v := .bool _) (Y.assign rfl) ?_
    refine Ops.nil ?_
    refine WP.cond_dec rfl (fun h3 => ?_) (fun h3 => ?_)
    · refine WP.skip ?_
      exact ⟨(), ⟨rfl, by rw [hz]; rfl, trivial⟩, I, by omega, by omega⟩
    refine WP.seq ?_
    refine WP.region ?_
    refine Ops.y (v := .int .i64 _) (Y.assign rfl) ?_
    refine Ops.nil ?_
    refine WP.ret ?_
    repeat (first | refine thenE_ret ?_ | refine blockE_ret ?_)
    exact retQ.mk (vs := [.int .i64 _]) rfl ⟨rfl, trivial⟩ I.ext_of (by simp [tup, checkVal]; omega)
  rintro _ e w ⟨I, hk0, hk3⟩
  by_cases hv : v < 0
  · refine WP.seq ?_
    refine WP.seq ?_
    refine WP.region ?_
    refine Ops.y (v := .int .i64 _) (Y.move rfl) ?_
    refine Ops.y (v := .bool true) (Y.dec_t (Y.lti rfl rfl) (hv)) ?_
    refine Ops.y (v := .bool _) (Y.move rfl) ?_
    refine Ops.gf rfl ?_
    refine Ops.gf rfl ?_
    refine Ops.gf rfl ?_
    refine Ops.y (v := .bool _) (Y.pick_t rfl rfl) ?_
    refine Ops.nil ?_
    refine WP.cond_t rfl ?_
    refine WP.seq ?_
    refine WP.region ?_
    refine Ops.y (v := .int .i64 _) (Y.assign rfl) ?_
    refine Ops.nil ?_
    refine WP.ret ?_
    repeat (first | refine thenE_ret ?_ | refine blockE_ret ?_)
    exact retQ.mk (vs := [.int .i64 _]) rfl ⟨rfl, trivial⟩ I.ext_of (by simp [tup, checkVal]; omega)
  refine WP.seq ?_
  refine WP.seq ?_
  refine WP.region ?_
  refine Ops.y (v := .int .i64 _) (Y.move rfl) ?_
  refine Ops.y (v := .bool false) (Y.dec_f (Y.lti rfl rfl) (hv)) ?_
  refine Ops.y (v := .bool _) (Y.move rfl) ?_
  refine Ops.ygt rfl (v := .int .i64 _) (Y.move rfl) ?_
  refine Ops.ygt rfl (v := .int .i64 _) (Y.move rfl) ?_
  refine Ops.ygt rfl (v := .bool (decide _)) (Y.gti rfl rfl) ?_
  refine Ops.y (v := .bool _) (Y.pick_f rfl rfl) ?_
  refine Ops.nil ?_
  refine WP.cond_dec rfl (fun h2 => ?_) (fun h2 => ?_)
  · refine WP.seq ?_
    refine WP.region ?_
    refine Ops.y (v := .int .i64 _) (Y.assign rfl) ?_
    refine Ops.nil ?_
    refine WP.ret ?_
    repeat (first | refine thenE_ret ?_ | refine blockE_ret ?_)
    exact retQ.mk (vs := [.int .i64 _]) rfl ⟨rfl, trivial⟩ I.ext_of (by simp only [tup, checkVal]; split at h2 <;> simp <;> omega)
  refine WP.skip ?_
  refine WP.seq ?_
  refine WP.region ?_
  refine Ops.y (v := .int .i64 _) (Y.assign rfl) ?_
  refine Ops.nil ?_
  refine WP.ret ?_
  repeat (first | refine thenE_ret ?_ | refine blockE_ret ?_)
  exact retQ.mk (vs := [.int .i64 _]) rfl ⟨rfl, trivial⟩ I.ext_of (by simp only [tup, checkVal]; split at h2 <;> simp <;> omega)
theorem CheckVal_ok (B : Base) (hB : B.ok) (kind v : Int) : Fn Tryz.prog 104 [.int .i64 kind, .int .i64 v] B (fun r _ => r = .int .i64 (checkVal kind v)) := by
  refine Fn.of Tryz.func104 rfl Tryz.ntmps104 (by kernel_rfl) (by simp) ?_
  intro e
  have I := Inv.start hB
  refine WP.seq ?_
  refine WP.region ?_
  refine Ops.y (v := .int .i64 _) (Y.assign rfl) ?_
  refine Ops.nil ?_
  refine WP.seq ?_
  refine WP.seq ?_
  refine WP.region ?_
  refine Ops.y (v := .int .i64 _) (Y.move rfl) ?_
  refine Ops.go (O.callv I Tryz.call36 (within_ok _ I.base_ok _ _ _) rfl ?_)
  intro w I
  refine Ops.y (v := .bool (decide _)) (Y.notd rfl) ?_
  refine Ops.nil ?_
  refine WP.cond_dec rfl (fun h1 => ?_) (fun h1 => ?_)
  · refine WP.seq ?_
    refine WP.region ?_
    refine Ops.y (v := .int .i64 _) (Y.assign rfl) ?_
    refine Ops.nil ?_
    refine WP.ret ?_
    repeat (first | refine thenE_ret ?_ | refine blockE_ret ?_)
    exact retQ.mk (vs := [.int .i64 _]) rfl ⟨rfl, trivial⟩ I.ext_of (by simp only [tup, checkVal, within] at *; rw [if_pos (by omega)])
  simp only [within] at h1
  by_cases h2 : kind = 0
  · by_cases h3 : v = 0
    · refine WP.skip ?_
      refine WP.seq ?_
      refine WP.seq ?_
      refine WP.region ?_
      refine Ops.y (v := .int .i64 _) (Y.move rfl) ?_
      refine Ops.y (v := .bool true) (Y.dec_t (Y.eqi rfl rfl) (h2)) ?_
      refine Ops.y (v := .bool _) (Y.move rfl) ?_
      refine Ops.ygt rfl (v := .int .i64 _) (Y.move rfl) ?_
      refine Ops.ygt rfl (v := .bool false) (Y.dec_f (Y.nei rfl rfl) ((by simpa using h3))) ?_
      refine Ops.y (v := .bool _) (Y.pick_t rfl rfl) ?_
      refine Ops.y (v := .bool _) (Y.move rfl) ?_
      refine Ops.ygt rfl (v := .int .i64 _) (Y.move rfl) ?_
      refine Ops.gt rfl (O.callv I Tryz.call36 (within_ok _ I.base_ok _ _ _) rfl ?_)
      intro w I
      refine Ops.ygt rfl (v := .bool (decide _)) (Y.notd rfl) ?_
      refine Ops.y (v := .bool _) (Y.pick_f rfl rfl) ?_
      refine Ops.nil ?_
      refine WP.cond_dec rfl (fun h4 => ?_) (fun h4 => ?_)
      · refine WP.seq ?_
        refine WP.region ?_
        refine Ops.y (v := .int .i64 _) (Y.assign rfl) ?_
        refine Ops.nil ?_
        refine WP.ret ?_
        repeat (first | refine thenE_ret ?_ | refine blockE_ret ?_)
        exact retQ.mk (vs := [.int .i64 _]) rfl ⟨rfl, trivial⟩ I.ext_of (by simp only [tup, checkVal, within] at *; omega)
      refine WP.skip ?_
      refine WP.seq ?_
      refine WP.region ?_
      refine Ops.y (v := .int .i64 _) (Y.assign rfl) ?_
      refine Ops.nil ?_
      refine WP.ret ?_
      repeat (first | refine thenE_ret ?_ | refine blockE_ret ?_)
      exact retQ.mk (vs := [.int .i64 _]) rfl ⟨rfl, trivial⟩ I.ext_of (by simp only [tup, checkVal, within] at *; rw [if_neg (by omega), if_neg (by omega)])
    · refine WP.skip ?_
      refine WP.seq ?_
      refine WP.seq ?_
      refine WP.region ?_
      refine Ops.y (v := .int .i64 _) (Y.move rfl) ?_
      refine Ops.y (v := .bool true) (Y.dec_t (Y.eqi rfl rfl) (h2)) ?_
      refine Ops.y (v := .bool _) (Y.move rfl) ?_
      refine Ops.ygt rfl (v := .int .i64 _) (Y.move rfl) ?_
      refine Ops.ygt rfl (v := .bool true) (Y.dec_t (Y.nei rfl rfl) (h3)) ?_
      refine Ops.y (v := .bool _) (Y.pick_t rfl rfl) ?_
      refine Ops.y (v := .bool _) (Y.move rfl) ?_
      refine Ops.gf rfl ?_
      refine Ops.gf rfl ?_
      refine Ops.gf rfl ?_
      refine Ops.y (v := .bool _) (Y.pick_t rfl rfl) ?_
      refine Ops.nil ?_
      refine WP.cond_t rfl ?_
      refine WP.seq ?_
      refine WP.region ?_
      refine Ops.y (v := .int .i64 _) (Y.assign rfl) ?_
      refine Ops.nil ?_
      refine WP.ret ?_
      repeat (first | refine thenE_ret ?_ | refine blockE_ret ?_)
      exact retQ.mk (vs := [.int .i64 _]) rfl ⟨rfl, trivial⟩ I.ext_of (by simp only [tup, checkVal]; rw [if_neg (by omega), if_pos (by omega)])
  · refine WP.skip ?_
    refine WP.seq ?_
    refine WP.seq ?_
    refine WP.region ?_
    refine Ops.y (v := .int .i64 _) (Y.move rfl) ?_
    refine Ops.y (v := .bool false) (Y.dec_f (Y.eqi rfl rfl) (h2)) ?_
    refine Ops.y (v := .bool _) (Y.move rfl) ?_
    refine Ops.gf rfl ?_
    refine Ops.gf rfl ?_
    refine Ops.y (v := .bool _) (Y.pick_f rfl rfl) ?_
    refine Ops.y (v := .bool _) (Y.move rfl) ?_
    refine Ops.ygt rfl (v := .int .i64 _) (Y.move rfl) ?_
    refine Ops.gt rfl (O.callv I Tryz.call36 (within_ok _ I.base_ok _ _ _) rfl ?_)
    intro w I
    refine Ops.ygt rfl (v := .bool (decide _)) (Y.notd rfl) ?_
    refine Ops.y (v := .bool _) (Y.pick_f rfl rfl) ?_
    refine Ops.nil ?_
    refine WP.cond_dec rfl (fun h4 => ?_) (fun h4 => ?_)
    · refine WP.seq ?_
      refine WP.region ?_
      refine Ops.y (v := .int .i64 _) (Y.assign rfl) ?_
      refine Ops.nil ?_
      refine WP.ret ?_
      repeat (first | refine thenE_ret ?_ | refine blockE_ret ?_)
      exact retQ.mk (vs := [.int .i64 _]) rfl ⟨rfl, trivial⟩ I.ext_of (by simp only [tup, checkVal, within] at *; rw [if_neg (by omega), if_pos (by omega)])
    refine WP.skip ?_
    refine WP.seq ?_
    refine WP.region ?_
    refine Ops.y (v := .int .i64 _) (Y.assign rfl) ?_
    refine Ops.nil ?_
    refine WP.ret ?_
    repeat (first | refine thenE_ret ?_ | refine blockE_ret ?_)
    exact retQ.mk (vs := [.int .i64 _]) rfl ⟨rfl, trivial⟩ I.ext_of (by simp only [tup, checkVal, within] at *; rw [if_neg (by omega), if_neg (by omega)])
theorem joinR_ok (B : Base) (hB : B.ok) (kind a b : Int) : Fn Tryz.prog 85 [.int .i64 kind, .int .i64 a, .int .i64 b] B (fun r _ => r = .int .i64 (joinV kind a b)) := by
  by_cases h1 : kind = 1
  · by_cases h2 : b < a
    · refine Fn.of Tryz.func85 rfl Tryz.ntmps85 (by kernel_rfl) (by simp) ?_
      intro e
      have I := Inv.start hB
      refine WP.seq ?_
      refine WP.region ?_
      refine Ops.y (v := .int .i64 _) (Y.assign rfl) ?_
      refine Ops.nil ?_
      refine WP.seq ?_
      refine WP.block ?_
      refine WP.seq ?_
      refine WP.seq ?_
      refine WP.region ?_
      refine Ops.y (v := .int .i64 _) (Y.move rfl) ?_
      refine Ops.y (v := .bool true) (Y.dec_t (Y.eqi rfl rfl) (h1)) ?_
      refine Ops.y (v := .bool _) (Y.move rfl) ?_
      refine Ops.ygt rfl (v := .int .i64 _) (Y.move rfl) ?_
      refine Ops.ygt rfl (v := .int .i64 _) (Y.move rfl) ?_
      refine Ops.ygt rfl (v := .bool true) (Y.dec_t (Y.gti rfl rfl) (h2)) ?_
      refine Ops.y (v := .bool _) (Y.pick_t rfl rfl) ?_
      refine Ops.y (v := .bool _) (Y.assign rfl) ?_
      refine Ops.nil ?_
      refine WP.cond_t rfl ?_
      refine WP.skip ?_
      refine WP.cond_t rfl ?_
      refine WP.seq ?_
      refine WP.region ?_
      refine Ops.y (v := .int .i64 _) (Y.move rfl) ?_
      refine Ops.y (v := .int .i64 _) (Y.assign rfl) ?_
      refine Ops.nil ?_
      refine WP.ret ?_
      repeat (first | refine thenE_ret ?_ | refine blockE_ret ?_)
      exact retQ.mk (vs := [.int .i64 _]) rfl ⟨rfl, trivial⟩ I.ext_of (by simp only [tup, joinV, h1]; simp; omega)
    · refine Fn.of Tryz.func85 rfl Tryz.ntmps85 (by kernel_rfl) (by simp) ?_
      intro e
      have I := Inv.start hB
      refine WP.seq ?_
      refine WP.region ?_
      refine Ops.y (v := .int .i64 _) (Y.assign rfl) ?_
      refine Ops.nil ?_
      refine WP.seq ?_
      refine WP.block ?_
      refine WP.seq ?_
      refine WP.seq ?_
      refine WP.region ?_
      refine Ops.y (v := .int .i64 _) (Y.move rfl) ?_
      refine Ops.y (v := .bool true) (Y.dec_t (Y.eqi rfl rfl) (h1)) ?_
      refine Ops.y (v := .bool _) (Y.move rfl) ?_
      refine Ops.ygt rfl (v := .int .i64 _) (Y.move rfl) ?_
      refine Ops.ygt rfl (v := .int .i64 _) (Y.move rfl) ?_
      refine Ops.ygt rfl (v := .bool false) (Y.dec_f (Y.gti rfl rfl) (h2)) ?_
      refine Ops.y (v := .bool _) (Y.pick_t rfl rfl) ?_
      refine Ops.y (v := .bool _) (Y.assign rfl) ?_
      refine Ops.nil ?_
      refine WP.cond_f rfl ?_
      refine WP.region ?_
      refine Ops.y (v := .int .i64 _) (Y.move rfl) ?_
      refine Ops.y (v := .bool false) (Y.dec_f (Y.eqi rfl rfl) ((by omega))) ?_
      refine Ops.y (v := .bool _) (Y.move rfl) ?_
      refine Ops.gf rfl ?_
      refine Ops.gf rfl ?_
      refine Ops.gf rfl ?_
      refine Ops.y (v := .bool _) (Y.pick_f rfl rfl) ?_
      refine Ops.y (v := .bool _) (Y.assign rfl) ?_
      refine Ops.nil ?_
      refine WP.cond_f rfl ?_
      refine WP.seq ?_
      refine WP.seq ?_
      refine WP.region ?_
      refine Ops.y (v := .int .i64 _) (Y.move rfl) ?_
      refine Ops.y (v := .bool (decide _)) (Y.eqi rfl rfl) ?_
      refine Ops.y (v := .bool _) (Y.assign rfl) ?_
      refine Ops.nil ?_
      refine WP.cond_decT rfl (h1) ?_
      refine WP.skip ?_
      refine WP.cond_decT rfl (h1) ?_
      refine WP.seq ?_
      refine WP.region ?_
      refine Ops.y (v := .int .i64 _) (Y.move rfl) ?_
      refine Ops.y (v := .int .i64 _) (Y.assign rfl) ?_
      refine Ops.nil ?_
      refine WP.ret ?_
      repeat (first | refine thenE_ret ?_ | refine blockE_ret ?_)
      exact retQ.mk (vs := [.int .i64 _]) rfl ⟨rfl, trivial⟩ I.ext_of (by simp only [tup, joinV, h1]; simp; omega)
  · by_cases h2 : kind = 2
    · by_cases h3 : a < b
      · refine Fn.of Tryz.func85 rfl Tryz.ntmps85 (by kernel_rfl) (by simp) ?_
        intro e
        have I := Inv.start hB
        refine WP.seq ?_
        refine WP.region ?_
        refine Ops.y (v := .int .i64 _) (Y.assign rfl) ?_
        refine Ops.nil ?_
        refine WP.seq ?_
        refine WP.block ?_
        refine WP.seq ?_
        refine WP.seq ?_
        refine WP.region ?_
        refine Ops.y (v := .int .i64 _) (Y.move rfl) ?_
        refine Ops.y (v := .bool false) (Y.dec_f (Y.eqi rfl rfl) (h1)) ?_
        refine Ops.y (v := .bool _) (Y.move rfl) ?_
        refine Ops.gf rfl ?_
        refine Ops.gf rfl ?_
        refine Ops.gf rfl ?_
        refine Ops.y (v := .bool _) (Y.pick_f rfl rfl) ?_
        refine Ops.y (v := .bool _) (Y.assign rfl) ?_
        refine Ops.nil ?_
        refine WP.cond_f rfl ?_
        refine WP.region ?_
        refine Ops.y (v := .int .i64 _) (Y.move rfl) ?_
        refine Ops.y (v := .bool true) (Y.dec_t (Y.eqi rfl rfl) (h2)) ?_
        refine Ops.y (v := .bool _) (Y.move rfl) ?_
        refine Ops.ygt rfl (v := .int .i64 _) (Y.move rfl) ?_
        refine Ops.ygt rfl (v := .int .i64 _) (Y.move rfl) ?_
        refine Ops.ygt rfl (v := .bool true) (Y.dec_t (Y.lti rfl rfl) (h3)) ?_
        refine Ops.y (v := .bool _) (Y.pick_t rfl rfl) ?_
        refine Ops.y (v := .bool _) (Y.assign rfl) ?_
        refine Ops.nil ?_
        refine WP.cond_t rfl ?_
        refine WP.seq ?_
        refine WP.region ?_
        refine Ops.y (v := .int .i64 _) (Y.move rfl) ?_
        refine Ops.y (v := .int .i64 _) (Y.assign rfl) ?_
        refine Ops.nil ?_
        refine WP.ret ?_
        repeat (first | refine thenE_ret ?_ | refine blockE_ret ?_)
        exact retQ.mk (vs := [.int .i64 _]) rfl ⟨rfl, trivial⟩ I.ext_of (by simp only [tup, joinV, h2]; simp; omega)
      · refine Fn.of Tryz.func85 rfl Tryz.ntmps85 (by kernel_rfl) (by simp) ?_
        intro e
        have I := Inv.start hB
        refine WP.seq ?_
        refine WP.region ?_
        refine Ops.y (v := .int .i64 _) (Y.assign rfl) ?_
        refine Ops.nil ?_
        refine WP.seq ?_
        refine WP.block ?_
        refine WP.seq ?_
        refine WP.seq ?_
        refine WP.region ?_
        refine Ops.y (v := .int .i64 _) (Y.move rfl) ?_
        refine Ops.y (v := .bool false) (Y.dec_f (Y.eqi rfl rfl) (h1)) ?_
        refine Ops.y (v := .bool _) (Y.move rfl) ?_
        refine Ops.gf rfl ?_
        refine Ops.gf rfl ?_
        refine Ops.gf rfl ?_
        refine Ops.y (v := .bool _) (Y.pick_f rfl rfl) ?_
        refine Ops.y (v := .bool _) (Y.assign rfl) ?_
        refine Ops.nil ?_
        refine WP.cond_f rfl ?_
        refine WP.region ?_
        refine Ops.y (v := .int .i64 _) (Y.move rfl) ?_
        refine Ops.y (v := .bool true) (Y.dec_t (Y.eqi rfl rfl) (h2)) ?_
        refine Ops.y (v := .bool _) (Y.move rfl) ?_
        refine Ops.ygt rfl (v := .int .i64 _) (Y.move rfl) ?_
        refine Ops.ygt rfl (v := .int .i64 _) (Y.move rfl) ?_
        refine Ops.ygt rfl (v := .bool false) (Y.dec_f (Y.lti rfl rfl) (h3)) ?_
        refine Ops.y (v := .bool _) (Y.pick_t rfl rfl) ?_
        refine Ops.y (v := .bool _) (Y.assign rfl) ?_
        refine Ops.nil ?_
        refine WP.cond_f rfl ?_
        refine WP.seq ?_
        refine WP.seq ?_
        refine WP.region ?_
        refine Ops.y (v := .int .i64 _) (Y.move rfl) ?_
        refine Ops.y (v := .bool (decide _)) (Y.eqi rfl rfl) ?_
        refine Ops.y (v := .bool _) (Y.assign rfl) ?_
        refine Ops.nil ?_
        refine WP.cond_decF rfl (h1) ?_
        refine WP.region ?_
        refine Ops.y (v := .int .i64 _) (Y.move rfl) ?_
        refine Ops.y (v := .bool (decide _)) (Y.eqi rfl rfl) ?_
        refine Ops.y (v := .bool _) (Y.assign rfl) ?_
        refine Ops.nil ?_
        refine WP.cond_decT rfl (h2) ?_
        refine WP.seq ?_
        refine WP.region ?_
        refine Ops.y (v := .int .i64 _) (Y.move rfl) ?_
        refine Ops.y (v := .int .i64 _) (Y.assign rfl) ?_
        refine Ops.nil ?_
        refine WP.ret ?_
        repeat (first | refine thenE_ret ?_ | refine blockE_ret ?_)
        exact retQ.mk (vs := [.int .i64 _]) rfl ⟨rfl, trivial⟩ I.ext_of (by simp only [tup, joinV, h2]; simp; omega)
    · refine Fn.of Tryz.func85 rfl Tryz.ntmps85 (by kernel_rfl) (by simp) ?_
      intro e
      have I := Inv.start hB
      refine WP.seq ?_
      refine WP.region ?_
      refine Ops.y (v := .int .i64 _) (Y.assign rfl) ?_
      refine Ops.nil ?_
      refine WP.seq ?_
      refine WP.block ?_
      refine WP.seq ?_
      refine WP.seq ?_
      refine WP.region ?_
      refine Ops.y (v := .int .i64 _) (Y.move rfl) ?_
      refine Ops.y (v := .bool false) (Y.dec_f (Y.eqi rfl rfl) (h1)) ?_
      refine Ops.y (v := .bool _) (Y.move rfl) ?_
      refine Ops.gf rfl ?_
      refine Ops.gf rfl ?_
      refine Ops.gf rfl ?_
      refine Ops.y (v := .bool _) (Y.pick_f rfl rfl) ?_
      refine Ops.y (v := .bool _) (Y.assign rfl) ?_
      refine Ops.nil ?_
      refine WP.cond_f rfl ?_
      refine WP.region ?_
      refine Ops.y (v := .int .i64 _) (Y.move rfl) ?_
      refine Ops.y (v := .bool false) (Y.dec_f (Y.eqi rfl rfl) (h2)) ?_
      refine Ops.y (v := .bool _) (Y.move rfl) ?_
      refine Ops.gf rfl ?_
      refine Ops.gf rfl ?_
      refine Ops.gf rfl ?_
      refine Ops.y (v := .bool _) (Y.pick_f rfl rfl) ?_
      refine Ops.y (v := .bool _) (Y.assign rfl) ?_
      refine Ops.nil ?_
      refine WP.cond_f rfl ?_
      refine WP.seq ?_
      refine WP.seq ?_
      refine WP.region ?_
      refine Ops.y (v := .int .i64 _) (Y.move rfl) ?_
      refine Ops.y (v := .bool (decide _)) (Y.eqi rfl rfl) ?_
      refine Ops.y (v := .bool _) (Y.assign rfl) ?_
      refine Ops.nil ?_
      refine WP.cond_decF rfl (h1) ?_
      refine WP.region ?_
      refine Ops.y (v := .int .i64 _) (Y.move rfl) ?_
      refine Ops.y (v := .bool (decide _)) (Y.eqi rfl rfl) ?_
      refine Ops.y (v := .bool _) (Y.assign rfl) ?_
      refine Ops.nil ?_
      refine WP.cond_decF rfl (h2) ?_
      refine WP.seq ?_
      refine WP.region ?_
      refine Ops.y (v := .int .i64 _) (Y.move rfl) ?_
      refine Ops.y (v := .bool (decide _)) (Y.eqi rfl rfl) ?_
      refine Ops.y (v := .bool _) (Y.assign rfl) ?_
      refine Ops.nil ?_
      refine WP.cond_dec rfl (fun h3 => ?_) (fun h3 => ?_)
      · refine WP.seq ?_
        refine WP.region ?_
        refine Ops.y (v := .int .i64 _) (Y.move rfl) ?_
        refine Ops.y (v := .int .i64 _) (Y.move rfl) ?_
        refine Ops.y (v := .int .i64 _) (Y.ori rfl rfl) ?_
        refine Ops.y (v := .int .i64 _) (Y.assign rfl) ?_
        refine Ops.nil ?_
        refine WP.ret ?_
        repeat (first | refine thenE_ret ?_ | refine blockE_ret ?_)
        exact retQ.mk (vs := [.int .i64 _]) rfl ⟨rfl, trivial⟩ I.ext_of (by simp [tup, joinV, h3])
      refine WP.skip ?_
      refine WP.seq ?_
      refine WP.region ?_
      refine Ops.y (v := .int .i64 _) (Y.assign rfl) ?_
      refine Ops.nil ?_
      refine WP.ret ?_
      repeat (first | refine thenE_ret ?_ | refine blockE_ret ?_)
      exact retQ.mk (vs := [.int .i64 _]) rfl ⟨rfl, trivial⟩ I.ext_of (by simp [tup, joinV, h1, h2, h3])
theorem liftR_ok (B : Base) (hB : B.ok) (kind a b : Int) (hr : I64 (a + b)) : Fn Tryz.prog 57 [.int .i64 kind, .int .i64 a, .int .i64 b] B (fun r _ => r = .int .i64 (liftV kind a b)) := by
  obtain ⟨hr1, hr2⟩ := hr
  refine Fn.of Tryz.func57 rfl Tryz.ntmps57 (by kernel_rfl) (by simp) ?_
  intro e
  have I := Inv.start hB
  refine WP.seq ?_
  refine WP.region ?_
  refine Ops.y (v := .int .i64 _) (Y.assign rfl) ?_
  refine Ops.nil ?_
  refine WP.seq ?_
  refine WP.block ?_
  refine WP.seq ?_
  refine WP.region ?_
  refine Ops.y (v := .int .i64 _) (Y.move rfl) ?_
  refine Ops.y (v := .bool (decide _)) (Y.eqi rfl rfl) ?_
  refine Ops.y (v := .bool _) (Y.assign rfl) ?_
  refine Ops.nil ?_
  refine WP.cond_dec rfl (fun h1 => ?_) (fun h1 => ?_)
  · refine WP.seq ?_
    refine WP.region ?_
    refine Ops.y (v := .int .i64 _) (Y.assign rfl) ?_
    refine Ops.nil ?_
    refine WP.ret ?_
    repeat (first | refine thenE_ret ?_ | refine blockE_ret ?_)
    exact retQ.mk (vs := [.int .i64 _]) rfl ⟨rfl, trivial⟩ I.ext_of (by simp [tup, liftV, h1])
  refine WP.seq ?_
  refine WP.region ?_
  refine Ops.y (v := .int .i64 _) (Y.move rfl) ?_
  refine Ops.y (v := .bool (decide _)) (Y.eqi rfl rfl) ?_
  refine Ops.y (v := .bool _) (Y.assign rfl) ?_
  refine Ops.nil ?_
  refine WP.cond_dec rfl (fun h2 => ?_) (fun h2 => ?_)
  · refine WP.seq ?_
    refine WP.region ?_
    refine Ops.y (v := .int .i64 _) (Y.move rfl) ?_
    refine Ops.y (v := .int .i64 _) (Y.move rfl) ?_
    refine Ops.y (v := .int .i64 _) (Y.ori rfl rfl) ?_
    refine Ops.y (v := .int .i64 _) (Y.assign rfl) ?_
    refine Ops.nil ?_
    refine WP.ret ?_
    repeat (first | refine thenE_ret ?_ | refine blockE_ret ?_)
    exact retQ.mk (vs := [.int .i64 _]) rfl ⟨rfl, trivial⟩ I.ext_of (by simp [tup, liftV, h2])
  refine WP.seq ?_
  refine WP.region ?_
  refine Ops.y (v := .int .i64 _) (Y.move rfl) ?_
  refine Ops.y (v := .int .i64 _) (Y.move rfl) ?_
  refine Ops.y (v := .int .i64 _) (Y.addi rfl rfl ⟨by omega, by omega⟩) ?_
  refine Ops.y (v := .bool (decide _)) (Y.gti rfl rfl) ?_
  refine Ops.y (v := .bool _) (Y.assign rfl) ?_
  refine Ops.nil ?_
  refine WP.cond_dec rfl (fun h3 => ?_) (fun h3 => ?_)
  · refine WP.seq ?_
    refine WP.region ?_
    refine Ops.y (v := .int .i64 _) (Y.assign rfl) ?_
    refine Ops.nil ?_
    refine WP.ret ?_
    repeat (first | refine thenE_ret ?_ | refine blockE_ret ?_)
    exact retQ.mk (vs := [.int .i64 _]) rfl ⟨rfl, trivial⟩ I.ext_of (by simp only [tup, liftV, h1, h2]; simp; omega)
  refine WP.skip ?_
  refine WP.seq ?_
  refine WP.region ?_
  refine Ops.y (v := .int .i64 _) (Y.move rfl) ?_
  refine Ops.y (v := .int .i64 _) (Y.move rfl) ?_
  refine Ops.y (v := .int .i64 _) (Y.addi rfl rfl ⟨by omega, by omega⟩) ?_
  refine Ops.y (v := .int .i64 _) (Y.assign rfl) ?_
  refine Ops.nil ?_
  refine WP.ret ?_
  repeat (first | refine thenE_ret ?_ | refine blockE_ret ?_)
  exact retQ.mk (vs := [.int .i64 _]) rfl ⟨rfl, trivial⟩ I.ext_of (by simp only [tup, liftV, h1, h2]; simp; omega)
theorem kinds4 {k : Int} (h : 0 ≤ k ∧ k ≤ 3) : k = 0 ∨ k = 1 ∨ k = 2 ∨ k = 3 := by omega
theorem Joined_ok (B : Base) (hB : B.ok) (kind a b : Int) (hk : 0 ≤ kind ∧ kind ≤ 3) : Fn Tryz.prog 84 [.int .i64 kind, .int .i64 a, .int .i64 b] B (fun r _ => r = .int .i64 (joinV kind a b)) := by
  refine Fn.of Tryz.func84 rfl Tryz.ntmps84 (by kernel_rfl) (by simp) ?_
  intro e
  have I := Inv.start hB
  refine WP.seq ?_
  refine WP.region ?_
  refine Ops.y (v := .int .i64 _) (Y.assign rfl) ?_
  refine Ops.nil ?_
  rcases kinds4 hk with rfl | rfl | rfl | rfl
  · refine WP.seq ?_
    refine WP.region ?_
    refine Ops.go (O.callv I Tryz.call98 (orders_ok _ I.base_ok) rfl ?_)
    intro w I
    refine Ops.y (v := .int .i64 _) (Y.move rfl) ?_
    refine Ops.y (v := .agg #[_, _]) (Y.idxvv Tryz.underlying132 ty_131 rfl rfl (by decide) (by decide) rfl rfl rfl) ?_
    refine Ops.y (v := .func _ _ _) (Y.field fd_131_0 ty_111 rfl rfl rfl rfl) ?_
    refine Ops.y (v := .int .i64 _) (Y.move rfl) ?_
    refine Ops.y (v := .int .i64 _) (Y.move rfl) ?_
    refine Ops.go (O.callc I Tryz.call119 rfl (orders3_ok _ I.base_ok _ _) rfl ?_)
    rintro _ h w I hle rfl
    refine Ops.y (v := .int .i64 _) (Y.assign rfl) ?_
    refine Ops.nil ?_
    refine WP.ret ?_
    repeat (first | refine thenE_ret ?_ | refine blockE_ret ?_)
    exact retQ.mk (vs := [.int .i64 _]) rfl ⟨rfl, trivial⟩ I.ext_of (rfl)
  · refine WP.seq ?_
    refine WP.region ?_
    refine Ops.go (O.callv I Tryz.call98 (orders_ok _ I.base_ok) rfl ?_)
    intro w I
    refine Ops.y (v := .int .i64 _) (Y.move rfl) ?_
    refine Ops.y (v := .agg #[_, _]) (Y.idxvv Tryz.underlying132 ty_131 rfl rfl (by decide) (by decide) rfl rfl rfl) ?_
    refine Ops.y (v := .func _ _ _) (Y.field fd_131_0 ty_111 rfl rfl rfl rfl) ?_
    refine Ops.y (v := .int .i64 _) (Y.move rfl) ?_
    refine Ops.y (v := .int .i64 _) (Y.move rfl) ?_
    refine Ops.go (O.callc I Tryz.call120 rfl (orders4_ok _ I.base_ok _ _) rfl ?_)
    rintro _ h w I hle rfl
    refine Ops.y (v := .int .i64 _) (Y.assign rfl) ?_
    refine Ops.nil ?_
    refine WP.ret ?_
    repeat (first | refine thenE_ret ?_ | refine blockE_ret ?_)
    exact retQ.mk (vs := [.int .i64 _]) rfl ⟨rfl, trivial⟩ I.ext_of (rfl)
  · refine WP.seq ?_
    refine WP.region ?_
    refine Ops.go (O.callv I Tryz.call98 (orders_ok _ I.base_ok) rfl ?_)
    intro w I
    refine Ops.y (v := .int .i64 _) (Y.move rfl) ?_
    refine Ops.y (v := .agg #[_, _]) (Y.idxvv Tryz.underlying132 ty_131 rfl rfl (by decide) (by decide) rfl rfl rfl) ?_
    refine Ops.y (v := .func _ _ _) (Y.field fd_131_0 ty_111 rfl rfl rfl rfl) ?_
    refine Ops.y (v := .int .i64 _) (Y.move rfl) ?_
    refine Ops.y (v := .int .i64 _) (Y.move rfl) ?_
    refine Ops.go (O.callc I Tryz.call121 rfl (orders5_ok _ I.base_ok _ _) rfl ?_)
    rintro _ h w I hle rfl
    refine Ops.y (v := .int .i64 _) (Y.assign rfl) ?_
    refine Ops.nil ?_
    refine WP.ret ?_
    repeat (first | refine thenE_ret ?_ | refine blockE_ret ?_)
    exact retQ.mk (vs := [.int .i64 _]) rfl ⟨rfl, trivial⟩ I.ext_of (rfl)
  · refine WP.seq ?_
    refine WP.region ?_
    refine Ops.go (O.callv I Tryz.call98 (orders_ok _ I.base_ok) rfl ?_)
    intro w I
    refine Ops.y (v := .int .i64 _) (Y.move rfl) ?_
    refine Ops.y (v := .agg #[_, _]) (Y.idxvv Tryz.underlying132 ty_131 rfl rfl (by decide) (by decide) rfl rfl rfl) ?_
    refine Ops.y (v := .func _ _ _) (Y.field fd_131_0 ty_111 rfl rfl rfl rfl) ?_
    refine Ops.y (v := .int .i64 _) (Y.move rfl) ?_
    refine Ops.y (v := .int .i64 _) (Y.move rfl) ?_
    refine Ops.go (O.callc I Tryz.call118 rfl (orders2_ok _ I.base_ok _ _) rfl ?_)
    rintro _ h w I hle rfl
    refine Ops.y (v := .int .i64 _) (Y.assign rfl) ?_
    refine Ops.nil ?_
    refine WP.ret ?_
    repeat (first | refine thenE_ret ?_ | refine blockE_ret ?_)
    exact retQ.mk (vs := [.int .i64 _]) rfl ⟨rfl, trivial⟩ I.ext_of (rfl)
theorem Lifted_ok (B : Base) (hB : B.ok) (kind a b : Int) (hk : 0 ≤ kind ∧ kind ≤ 3) (hr : I64 (a + b)) : Fn Tryz.prog 54 [.int .i64 kind, .int .i64 a, .int .i64 b] B (fun r _ => r = .int .i64 (liftV kind a b)) := by
  refine Fn.of Tryz.func54 rfl Tryz.ntmps54 (by kernel_rfl) (by simp) ?_
  intro e
  have I := Inv.start hB
  refine WP.seq ?_
  refine WP.region ?_
  refine Ops.y (v := .int .i64 _) (Y.assign rfl) ?_
  refine Ops.nil ?_
  rcases kinds4 hk with rfl | rfl | rfl | rfl
  · refine WP.seq ?_
    refine WP.region ?_
    refine Ops.go (O.callv I Tryz.call98 (orders_ok _ I.base_ok) rfl ?_)
    intro w I
    refine Ops.y (v := .int .i64 _) (Y.move rfl) ?_
    refine Ops.y (v := .agg #[_, _]) (Y.idxvv Tryz.underlying132 ty_131 rfl rfl (by decide) (by decide) rfl rfl rfl) ?_
    refine Ops.y (v := .func _ _ _) (Y.field fd_131_1 ty_111 rfl rfl rfl rfl) ?_
    refine Ops.y (v := .int .i64 _) (Y.move rfl) ?_
    refine Ops.y (v := .int .i64 _) (Y.move rfl) ?_
    refine Ops.go (O.callc I Tryz.call119 rfl (orders3_ok _ I.base_ok _ _) rfl ?_)
    rintro _ h w I hle rfl
    refine Ops.y (v := .int .i64 _) (Y.assign rfl) ?_
    refine Ops.nil ?_
    refine WP.ret ?_
    repeat (first | refine thenE_ret ?_ | refine blockE_ret ?_)
    exact retQ.mk (vs := [.int .i64 _]) rfl ⟨rfl, trivial⟩ I.ext_of (rfl)
  · refine WP.seq ?_
    refine WP.region ?_
    refine Ops.go (O.callv I Tryz.call98 (orders_ok _ I.base_ok) rfl ?_)
    intro w I
    refine Ops.y (v := .int .i64 _) (Y.move rfl) ?_
    refine Ops.y (v := .agg #[_, _]) (Y.idxvv Tryz.underlying132 ty_131 rfl rfl (by decide) (by decide) rfl rfl rfl) ?_
    refine Ops.y (v := .func _ _ _) (Y.field fd_131_1 ty_111 rfl rfl rfl rfl) ?_
    refine Ops.y (v := .int .i64 _) (Y.move rfl) ?_
    refine Ops.y (v := .int .i64 _) (Y.move rfl) ?_
    refine Ops.go (O.callc I Tryz.call117 rfl (orders1_ok _ I.base_ok _ _ hr) rfl ?_)
    rintro _ h w I hle rfl
    refine Ops.y (v := .int .i64 _) (Y.assign rfl) ?_
    refine Ops.nil ?_
    refine WP.ret ?_
    repeat (first | refine thenE_ret ?_ | refine blockE_ret ?_)
    exact retQ.mk (vs := [.int .i64 _]) rfl ⟨rfl, trivial⟩ I.ext_of (rfl)
  · refine WP.seq ?_
    refine WP.region ?_
    refine Ops.go (O.callv I Tryz.call98 (orders_ok _ I.base_ok) rfl ?_)
    intro w I
    refine Ops.y (v := .int .i64 _) (Y.move rfl) ?_
    refine Ops.y (v := .agg #[_, _]) (Y.idxvv Tryz.underlying132 ty_131 rfl rfl (by decide) (by decide) rfl rfl rfl) ?_
    refine Ops.y (v := .func _ _ _) (Y.field fd_131_1 ty_111 rfl rfl rfl rfl) ?_
    refine Ops.y (v := .int .i64 _) (Y.move rfl) ?_
    refine Ops.y (v := .int .i64 _) (Y.move rfl) ?_
    refine Ops.go (O.callc I Tryz.call117 rfl (orders1_ok _ I.base_ok _ _ hr) rfl ?_)
    rintro _ h w I hle rfl
    refine Ops.y (v := .int .i64 _) (Y.assign rfl) ?_
    refine Ops.nil ?_
    refine WP.ret ?_
    repeat (first | refine thenE_ret ?_ | refine blockE_ret ?_)
    exact retQ.mk (vs := [.int .i64 _]) rfl ⟨rfl, trivial⟩ I.ext_of (rfl)
  · refine WP.seq ?_
    refine WP.region ?_
    refine Ops.go (O.callv I Tryz.call98 (orders_ok _ I.base_ok) rfl ?_)
    intro w I
    refine Ops.y (v := .int .i64 _) (Y.move rfl) ?_
    refine Ops.y (v := .agg #[_, _]) (Y.idxvv Tryz.underlying132 ty_131 rfl rfl (by decide) (by decide) rfl rfl rfl) ?_
    refine Ops.y (v := .func _ _ _) (Y.field fd_131_1 ty_111 rfl rfl rfl rfl) ?_
    refine Ops.y (v := .int .i64 _) (Y.move rfl) ?_
    refine Ops.y (v := .int .i64 _) (Y.move rfl) ?_
    refine Ops.go (O.callc I Tryz.call118 rfl (orders2_ok _ I.base_ok _ _) rfl ?_)
    rintro _ h w I hle rfl
    refine Ops.y (v := .int .i64 _) (Y.assign rfl) ?_
    refine Ops.nil ?_
    refine WP.ret ?_
    repeat (first | refine thenE_ret ?_ | refine blockE_ret ?_)
    exact retQ.mk (vs := [.int .i64 _]) rfl ⟨rfl, trivial⟩ I.ext_of (rfl)
end Go.TF
end
section
/- Join, Lift, Leq and the references: contracts. -/
namespace Go.TF
open Go Go.RowKit Go.Proofs
set_option maxRecDepth 10000
end Go.TF
end
section
/- Values in plain Lean: joining is commutative, associative, idempotent; what is below is below, lifted too. -/
namespace Go.TF
open Go

abbrev VOk (kind v : Int) : Prop := checkVal kind v = 0
theorem vOk_iff {kind v : Int} : VOk kind v ↔ 0 ≤ kind ∧ kind ≤ 3 ∧ 0 ≤ v ∧ v ≤ 15 ∧ (kind = 0 → v = 0) := by
  unfold VOk checkVal; (repeat' split) <;> omega
theorem bothV_iff {kind a b : Int} : bothV kind a b = 0 ↔ VOk kind a ∧ VOk kind b := by
  unfold bothV; split <;> constructor <;> intro h <;> simp_all [VOk]
theorem orI_all : ∀ x, x < 16 → ∀ y, y < 16 → orI (x : Nat) (y : Nat) = ((x ||| y : Nat) : Int) ∧ x ||| y < 16 := by decide +kernel
theorem orI_nat {x y : Nat} (hx : x < 16) (hy : y < 16) : orI x y = ((x ||| y : Nat) : Int) := (orI_all x hx y hy).1
theorem toNat16 {a : Int} (h : 0 ≤ a ∧ a ≤ 15) : ∃ x : Nat, a = x ∧ x < 16 := ⟨a.toNat, by omega, by omega⟩
theorem joinV_ok {k a b : Int} (ha : VOk k a) (hb : VOk k b) : VOk k (joinV k a b) := by
  rw [vOk_iff] at *
  obtain ⟨h1, h2, h3, h4, h5⟩ := ha; obtain ⟨_, _, h6, h7, h8⟩ := hb
  obtain ⟨x, rfl, hx⟩ := toNat16 ⟨h3, h4⟩; obtain ⟨y, rfl, hy⟩ := toNat16 ⟨h6, h7⟩
  have ho := orI_all x hx y hy
  unfold joinV
  refine ⟨h1, h2, ?_, ?_, ?_⟩ <;> (repeat' split) <;> (try rw [ho.1]) <;> omega
theorem liftV_ok {k a b : Int} (ha : VOk k a) (hb : VOk k b) : VOk k (liftV k a b) := by
  rw [vOk_iff] at *
  obtain ⟨h1, h2, h3, h4, h5⟩ := ha; obtain ⟨_, _, h6, h7, h8⟩ := hb
  obtain ⟨x, rfl, hx⟩ := toNat16 ⟨h3, h4⟩; obtain ⟨y, rfl, hy⟩ := toNat16 ⟨h6, h7⟩
  have ho := orI_all x hx y hy
  unfold liftV
  refine ⟨h1, h2, ?_, ?_, ?_⟩ <;> (repeat' split) <;> (try rw [ho.1]) <;> omega
theorem joinV_comm {k a b : Int} (ha : VOk k a) (hb : VOk k b) : joinV k a b = joinV k b a := by
  rw [vOk_iff] at *
  obtain ⟨h1, h2, h3, h4, h5⟩ := ha; obtain ⟨_, _, h6, h7, h8⟩ := hb
  obtain ⟨x, rfl, hx⟩ := toNat16 ⟨h3, h4⟩; obtain ⟨y, rfl, hy⟩ := toNat16 ⟨h6, h7⟩
  unfold joinV
  rw [orI_nat hx hy, orI_nat hy hx, Nat.or_comm]
  (repeat' split) <;> omega
theorem joinV_assoc {k a b c : Int} (ha : VOk k a) (hb : VOk k b) (hc : VOk k c) : joinV k (joinV k a b) c = joinV k a (joinV k b c) := by
  rw [vOk_iff] at *
  obtain ⟨h1, h2, h3, h4, h5⟩ := ha; obtain ⟨_, _, h6, h7, h8⟩ := hb; obtain ⟨_, _, h9, h10, h11⟩ := hc
  obtain ⟨x, rfl, hx⟩ := toNat16 ⟨h3, h4⟩; obtain ⟨y, rfl, hy⟩ := toNat16 ⟨h6, h7⟩; obtain ⟨z, rfl, hz⟩ := toNat16 ⟨h9, h10⟩
  have h12 := orI_all x hx y hy; have h13 := orI_all y hy z hz
  unfold joinV
  by_cases k1 : k = 1
  · simp [k1, Int.max_assoc]
  by_cases k2 : k = 2
  · simp [k2, Int.min_assoc]
  by_cases k3 : k = 3
  · simp only [k3]; simp [h12.1, h13.1, orI_nat h12.2 hz, orI_nat hx h13.2, Nat.or_assoc]
  · simp [k1, k2, k3]
theorem joinV_idem {k a : Int} (ha : VOk k a) : joinV k a a = a := by
  rw [vOk_iff] at *
  obtain ⟨h1, h2, h3, h4, h5⟩ := ha
  obtain ⟨x, rfl, hx⟩ := toNat16 ⟨h3, h4⟩
  unfold joinV
  rw [orI_nat hx hx, Nat.or_self]
  (repeat' split) <;> omega
/-- Not above. -/
abbrev LeV (k a b : Int) : Prop := joinV k a b = b
theorem leV_up {k a b : Int} (ha : VOk k a) (hb : VOk k b) : LeV k a (joinV k a b) := by unfold LeV; rw [← joinV_assoc ha ha hb, joinV_idem ha]
theorem leV_trans {k a b c : Int} (ha : VOk k a) (hb : VOk k b) (hc : VOk k c) (h1 : LeV k a b) (h2 : LeV k b c) : LeV k a c := by
  unfold LeV at *
  have : joinV k a (joinV k b c) = joinV k b c := by rw [← joinV_assoc ha hb hc, h1]
  rwa [h2] at this
theorem leV_antisymm {k a b : Int} (ha : VOk k a) (hb : VOk k b) (h1 : LeV k a b) (h2 : LeV k b a) : a = b := by
  unfold LeV at *; rw [joinV_comm hb ha] at h2; exact h2.symm.trans h1
theorem leV_join_iff {k a b c : Int} (ha : VOk k a) (hb : VOk k b) (hc : VOk k c) : LeV k (joinV k a b) c ↔ LeV k a c ∧ LeV k b c := by
  constructor
  · intro h
    refine ⟨leV_trans ha (joinV_ok ha hb) hc (leV_up ha hb) h, leV_trans hb (joinV_ok ha hb) hc ?_ h⟩
    rw [joinV_comm ha hb]; exact leV_up hb ha
  · rintro ⟨h1, h2⟩
    unfold LeV at *
    rw [joinV_assoc ha hb hc, h2, h1]
theorem leV_lift {k a b n : Int} (ha : VOk k a) (hb : VOk k b) (hn : VOk k n) (h : LeV k a b) : LeV k (liftV k a n) (liftV k b n) := by
  by_cases k3 : k = 3
  · subst k3
    have e : ∀ x : Int, liftV 3 x n = joinV 3 x n := fun x => by simp [liftV, joinV]
    have ja := joinV_ok ha hn; have jb := joinV_ok hb hn
    simp only [LeV, e] at *
    have := (leV_join_iff ha hn jb).2 ⟨leV_trans ha hb jb h (leV_up hb hn), by rw [joinV_comm hb hn]; exact leV_up hn hb⟩
    exact this
  · rw [vOk_iff] at *
    unfold LeV joinV liftV at *
    (repeat' split) <;> (repeat' split at h) <;> omega
theorem liftV_zero {k a : Int} (ha : VOk k a) : liftV k a 0 = a := by
  rw [vOk_iff] at *
  obtain ⟨h1, h2, h3, h4, h5⟩ := ha
  obtain ⟨x, rfl, hx⟩ := toNat16 ⟨h3, h4⟩
  unfold liftV
  have := orI_nat hx (show 0 < 16 by decide)
  simp only [Nat.or_zero] at this
  have h0 : orI (x : Int) 0 = x := this
  rw [h0]
  (repeat' split) <;> omega
theorem joinOf_eq {k a b : Int} (ha : VOk k a) (hb : VOk k b) : joinOf k a b = (joinV k a b, 0) := by simp [joinOf, bothV_iff.2 ⟨ha, hb⟩]
theorem liftOf_eq {k a b : Int} (ha : VOk k a) (hb : VOk k b) : liftOf k a b = (liftV k a b, 0) := by simp [liftOf, bothV_iff.2 ⟨ha, hb⟩]
theorem leqOf_eq {k a b : Int} (ha : VOk k a) (hb : VOk k b) : leqOf k a b = (decide (LeV k a b), 0) := by simp [leqOf, bothV_iff.2 ⟨ha, hb⟩, LeV]
theorem joinOf_ok {k a b : Int} (h : (joinOf k a b).2 = 0) : VOk k a ∧ VOk k b := by unfold joinOf at h; rw [← bothV_iff]; split at h <;> simp_all
theorem liftOf_ok {k a b : Int} (h : (liftOf k a b).2 = 0) : VOk k a ∧ VOk k b := by unfold liftOf at h; rw [← bothV_iff]; split at h <;> simp_all
theorem leqOf_ok {k a b : Int} (h : (leqOf k a b).2 = 0) : VOk k a ∧ VOk k b := by unfold leqOf at h; rw [← bothV_iff]; split at h <;> simp_all
end Go.TF
end
section
/- Predicates, terms, atoms, literals, rules, programs as they lie; what package rule computes: plain. -/
namespace Go.TF
open Go

structure Prd where
  name : ByteArray
  arity : Int
  kind : Int
structure Trm where
  var : Bool
  n : Int
structure Atm where
  pred : Int
  args : Sl Trm
structure Ltl where
  neg : Bool
  atom : Atm
structure Rul where
  head : Atm
  src : Int
  n : Int
  body : Sl Ltl
structure Prg where
  preds : Sl Prd
  rules : Sl Rul
@[reducible] def Prd.enc (x : Prd) : List Value := [.string x.name, .int .i64 x.arity, .int .i64 x.kind]
@[reducible] def Trm.enc (x : Trm) : List Value := [.bool x.var, .int .i64 x.n]
@[reducible] def Atm.enc (x : Atm) : List Value := [.int .i64 x.pred, x.args.val]
@[reducible] def Ltl.enc (x : Ltl) : List Value := [.bool x.neg, .int .i64 x.atom.pred, x.atom.args.val]
@[reducible] def Rul.enc (x : Rul) : List Value := [.int .i64 x.head.pred, x.head.args.val, .int .i64 x.src, .int .i64 x.n, x.body.val]
@[reducible] def Prg.enc (x : Prg) : List Value := [x.preds.val, x.rules.val]
@[reducible] def Prd.val (x : Prd) : Value := .agg #[.string x.name, .int .i64 x.arity, .int .i64 x.kind]
@[reducible] def Trm.val (x : Trm) : Value := .agg #[.bool x.var, .int .i64 x.n]
@[reducible] def Atm.val (x : Atm) : Value := .agg #[.int .i64 x.pred, x.args.val]
@[reducible] def Ltl.val (x : Ltl) : Value := .agg #[.bool x.neg, .int .i64 x.atom.pred, x.atom.args.val]
@[reducible] def Rul.val (x : Rul) : Value := .agg #[.int .i64 x.head.pred, x.head.args.val, .int .i64 x.src, .int .i64 x.n, x.body.val]
@[reducible] def Prg.val (x : Prg) : Value := .agg #[x.preds.val, x.rules.val]

/-- A slice whose elements are known for good, and not too many. -/
structure Sl.Is {α : Type} (s : Sl α) (k : Nat) (enc : α → List Value) (h : Heap) : Prop where
  el : s.In k enc h
  small : s.xs.length ≤ 140737488355328
theorem Sl.Is.le {α : Type} {s : Sl α} {k : Nat} {enc : α → List Value} {h h' : Heap} (hs : s.Is k enc h) (hl : h.le h') : s.Is k enc h' := ⟨hs.el.le hl, hs.small⟩
theorem Sl.Is.at {α : Type} {s : Sl α} {k : Nat} {enc : α → List Value} {h : Heap} (hs : s.Is k enc h) {i : Nat} (hi : i < s.xs.length) : El s k enc h i s.xs[i] := hs.el.el (List.getElem?_eq_getElem hi)
abbrev Prds (l : Sl Prd) (h : Heap) : Prop := l.Is 3 Prd.enc h
abbrev Trms (l : Sl Trm) (h : Heap) : Prop := l.Is 2 Trm.enc h
def Atm.In (a : Atm) (h : Heap) : Prop := Trms a.args h
def Ltl.In (x : Ltl) (h : Heap) : Prop := x.atom.In h
structure Ltls (l : Sl Ltl) (h : Heap) : Prop where
  is : l.Is 3 Ltl.enc h
  each : ∀ x ∈ l.xs, x.In h
structure Rul.In (r : Rul) (h : Heap) : Prop where
  head : r.head.In h
  body : Ltls r.body h
structure Ruls (l : Sl Rul) (h : Heap) : Prop where
  is : l.Is 5 Rul.enc h
  each : ∀ x ∈ l.xs, x.In h
structure Prg.In (p : Prg) (h : Heap) : Prop where
  preds : Prds p.preds h
  rules : Ruls p.rules h
theorem Atm.In.le {a : Atm} {h h' : Heap} (ha : a.In h) (hl : h.le h') : a.In h' := Sl.Is.le ha hl
theorem Ltl.In.le {x : Ltl} {h h' : Heap} (hx : x.In h) (hl : h.le h') : x.In h' := Atm.In.le hx hl
theorem Ltls.le {l : Sl Ltl} {h h' : Heap} (x : Ltls l h) (hl : h.le h') : Ltls l h' := ⟨x.is.le hl, fun y hy => (x.each y hy).le hl⟩
theorem Rul.In.le {r : Rul} {h h' : Heap} (x : r.In h) (hl : h.le h') : r.In h' := ⟨x.head.le hl, x.body.le hl⟩
theorem Ruls.le {l : Sl Rul} {h h' : Heap} (x : Ruls l h) (hl : h.le h') : Ruls l h' := ⟨x.is.le hl, fun y hy => (x.each y hy).le hl⟩
theorem Prg.In.le {p : Prg} {h h' : Heap} (x : p.In h) (hl : h.le h') : p.In h' := ⟨x.preds.le hl, x.rules.le hl⟩

/-! ### What is computed -/
def termOk (t : Trm) : Bool := if t.var then decide (0 ≤ t.n ∧ t.n < 3) else decide (0 ≤ t.n ∧ t.n ≤ 4)
theorem termOk_iff (t : Trm) : termOk t = true ↔ within t.n 0 (if t.var = true then 2 else 4) := by
  unfold termOk within; split <;> simp_all <;> omega
def argsErr (l : List Trm) : Int := if l.all termOk then 0 else 3
instance : Inhabited Prd := ⟨⟨ByteArray.empty, 0, 0⟩⟩
instance : Inhabited Trm := ⟨⟨false, 0⟩⟩
instance {α : Type} : Inhabited (Sl α) := ⟨⟨none, 0, []⟩⟩
instance : Inhabited Atm := ⟨⟨0, default⟩⟩
instance : Inhabited Ltl := ⟨⟨false, default⟩⟩
instance : Inhabited Rul := ⟨⟨default, 0, 0, default⟩⟩
def predOf (l : List Prd) (p : Int) : Prd := l.getD p.toNat default
def checkAtom (l : List Prd) (a : Atm) : Int :=
  if a.pred < 0 ∨ (l.length : Int) ≤ a.pred then 7 else if (a.args.xs.length : Int) ≠ (predOf l a.pred).arity then 1 else argsErr a.args.xs
def standsIn (a : Atm) (v : Int) : Bool := a.args.xs.any fun t => t.var && decide (t.n = v)
def boundIn (r : Rul) (v : Int) : Bool := r.body.xs.any fun x => !x.neg && standsIn x.atom v
def bodyErr (l : List Prd) : List Ltl → Int
  | [] => 0
  | x :: r => if checkAtom l x.atom ≠ 0 then checkAtom l x.atom else bodyErr l r
def freeVar (r : Rul) (v : Int) : Bool := (standsIn r.head v || r.body.xs.any fun x => standsIn x.atom v) && !boundIn r v
def litOf (r : Rul) (k : Int) : Ltl := r.body.xs.getD k.toNat default
def checkRule (l : List Prd) (r : Rul) : Int :=
  if checkAtom l r.head ≠ 0 then checkAtom l r.head
  else if 3 < r.body.xs.length then 2
  else if bodyErr l r.body.xs ≠ 0 then bodyErr l r.body.xs
  else if freeVar r 0 || freeVar r 1 || freeVar r 2 then 9
  else if r.src < -1 ∨ (r.body.xs.length : Int) ≤ r.src then 3
  else if (predOf l r.head.pred).kind = 0 ∧ (r.src ≠ -1 ∨ r.n ≠ 0) then 1
  else if 0 ≤ r.src ∧ ((litOf r r.src).neg = true ∨ (predOf l (litOf r r.src).atom.pred).kind ≠ (predOf l r.head.pred).kind) then 1
  else if r.n < 0 ∨ 15 < r.n then 3
  else 0
theorem predOf_get {l : List Prd} {p : Int} (h0 : 0 ≤ p) (h1 : p < l.length) : l[p.toNat]? = some (predOf l p) := by
  have : p.toNat < l.length := by omega
  simp [predOf, List.getD_eq_getElem?_getD, this]
end Go.TF
end
section
/- How often variables stand in atoms; what a rule's literals are: plain. -/
namespace Go.TF
open Go

theorem bT {p : Prop} [Decidable p] (h : p) : Value.bool true = .bool (decide p) := by rw [decide_eq_true h]
theorem bF {p : Prop} [Decidable p] (h : ¬p) : Value.bool false = .bool (decide p) := by rw [decide_eq_false h]
def cntT (l : List Trm) (v : Int) : Nat := l.countP fun t => t.var && decide (t.n = v)
def cntA : List Atm → Int → Nat
  | [], _ => 0
  | a :: r, v => cntT a.args.xs v + cntA r v
theorem cntA_append (l r : List Atm) (v : Int) : cntA (l ++ r) v = cntA l v + cntA r v := by
  induction l with
  | nil => simp [cntA]
  | cons a l ih => simp only [List.cons_append, cntA, ih]; omega
def CountOf (es : List (Int × Int)) (f : Int → Nat) : Prop := ∀ v, ilook es v = if f v = 0 then none else some (f v : Int)
theorem CountOf.nil : CountOf [] (cntA []) := fun _ => rfl
theorem CountOf.same {es : List (Int × Int)} {f g : Int → Nat} (h : CountOf es f) (hg : ∀ v, g v = f v) : CountOf es g := (funext hg : g = f) ▸ h
theorem CountOf.get {es : List (Int × Int)} {f : Int → Nat} (h : CountOf es f) (v : Int) : (ilook es v).getD 0 = (f v : Int) := by
  rw [h v]; split <;> simp_all
theorem CountOf.put {es : List (Int × Int)} {f g : Int → Nat} (h : CountOf es f) (n : Int) (hg : ∀ v, g v = if v = n then f v + 1 else f v) : CountOf (iset es n ((ilook es n).getD 0 + 1)) g := by
  intro v
  rw [ilook_iset, h.get n, h v, hg v]
  by_cases e : v = n
  · subst e; simp
  · simp [e]
theorem ilook_some_mem {es : List (Int × Int)} {v x : Int} (h : ilook es v = some x) : (v, x) ∈ es := by
  induction es with
  | nil => simp [ilook] at h
  | cons p r ih =>
    obtain ⟨k, w⟩ := p
    simp only [ilook] at h
    split at h
    · rename_i e; subst e; cases h; exact List.mem_cons_self ..
    · exact List.mem_cons_of_mem _ (ih h)
theorem mem_ilook {es : List (Int × Int)} {v x : Int} (h : (v, x) ∈ es) : ilook es v ≠ none := by
  induction es with
  | nil => cases h
  | cons p r ih =>
    obtain ⟨k, w⟩ := p
    simp only [ilook]
    split
    · simp
    · rename_i e
      rcases List.mem_cons.1 h with h | h
      · cases h; exact absurd rfl e
      · exact ih h
theorem cntT_le (l : List Trm) (v : Int) : cntT l v ≤ l.length := List.countP_le_length
theorem cntT_pos {l : List Trm} {v : Int} : cntT l v ≠ 0 ↔ (l.any fun t => t.var && decide (t.n = v)) = true := by
  unfold cntT
  rw [← Nat.pos_iff_ne_zero, List.countP_pos_iff, List.any_eq_true]
theorem cntA_le {l : List Atm} {m : Nat} (h : ∀ a ∈ l, a.args.xs.length ≤ m) (v : Int) : cntA l v ≤ l.length * m := by
  induction l with
  | nil => simp [cntA]
  | cons a r ih =>
    have h1 := cntT_le a.args.xs v
    have h2 := h a (List.mem_cons_self ..)
    have h3 := ih fun b hb => h b (List.mem_cons_of_mem _ hb)
    simp only [cntA, List.length_cons, Nat.add_mul]; omega
theorem cntA_pos {l : List Atm} {v : Int} : cntA l v ≠ 0 ↔ ∃ a ∈ l, standsIn a v = true := by
  induction l with
  | nil => simp [cntA]
  | cons a r ih =>
    have h1 : cntT a.args.xs v ≠ 0 ↔ standsIn a v = true := cntT_pos
    simp only [cntA, List.mem_cons, exists_eq_or_imp, ← ih, ← h1]; omega
theorem cntT_take {l : List Trm} {j : Nat} (hj : j < l.length) (v : Int) : cntT (l.take (j + 1)) v = cntT (l.take j) v + if l[j].var = true ∧ l[j].n = v then 1 else 0 := by
  rw [List.take_succ_eq_append_getElem hj]
  simp only [cntT, List.countP_append, List.countP_singleton, Bool.and_eq_true, decide_eq_true_eq]
theorem cntA_take {l : List Atm} {k : Nat} (hk : k < l.length) (v : Int) : cntA (l.take (k + 1)) v = cntA (l.take k) v + cntT l[k].args.xs v := by
  rw [List.take_succ_eq_append_getElem hk, cntA_append]; simp [cntA]
def negs (l : List Ltl) : List Atm := (l.filter (·.neg)).map (·.atom)
def poss (l : List Ltl) : List Atm := (l.filter fun x => !x.neg).map (·.atom)
theorem negs_take {l : List Ltl} {k : Nat} (hk : k < l.length) : negs (l.take (k + 1)) = negs (l.take k) ++ if l[k].neg = true then [l[k].atom] else [] := by
  rw [List.take_succ_eq_append_getElem hk]
  simp only [negs, List.filter_append, List.map_append]; congr 1; cases h : l[k].neg <;> simp [h]
theorem poss_take {l : List Ltl} {k : Nat} (hk : k < l.length) : poss (l.take (k + 1)) = poss (l.take k) ++ if l[k].neg = true then [] else [l[k].atom] := by
  rw [List.take_succ_eq_append_getElem hk]
  simp only [poss, List.filter_append, List.map_append]; congr 1; cases h : l[k].neg <;> simp [h]
theorem negs_le (l : List Ltl) : (negs l).length ≤ l.length := by unfold negs; rw [List.length_map]; exact List.length_filter_le ..
theorem poss_le (l : List Ltl) : (poss l).length ≤ l.length := by unfold poss; rw [List.length_map]; exact List.length_filter_le ..
theorem mem_negs {l : List Ltl} {a : Atm} : a ∈ negs l ↔ ∃ x ∈ l, x.neg = true ∧ x.atom = a := by simp [negs, and_assoc]
theorem mem_poss {l : List Ltl} {a : Atm} : a ∈ poss l ↔ ∃ x ∈ l, x.neg = false ∧ x.atom = a := by simp [poss, and_assoc]
theorem boundIn_iff {r : Rul} {v : Int} : boundIn r v = true ↔ cntA (poss r.body.xs) v ≠ 0 := by
  rw [cntA_pos]
  simp only [boundIn, List.any_eq_true, Bool.and_eq_true, Bool.not_eq_true', mem_poss]
  constructor
  · rintro ⟨x, hx, hn, hs⟩; exact ⟨_, ⟨x, hx, hn, rfl⟩, hs⟩
  · rintro ⟨_, ⟨x, hx, hn, rfl⟩, hs⟩; exact ⟨x, hx, hn, hs⟩
/-- A variable of the head or of a literal that is Not, and in none that is not. -/
theorem freeVar_iff {r : Rul} {v : Int} : freeVar r v = true ↔ cntA (negs r.body.xs ++ [r.head]) v ≠ 0 ∧ cntA (poss r.body.xs) v = 0 := by
  have hb := boundIn_iff (r := r) (v := v)
  rw [cntA_pos]
  simp only [freeVar, Bool.and_eq_true, Bool.or_eq_true, Bool.not_eq_true', List.any_eq_true, List.mem_append, List.mem_singleton]
  constructor
  · rintro ⟨h1, h2⟩
    have h3 : cntA (poss r.body.xs) v = 0 := Decidable.byContradiction fun h => by rw [hb.2 h] at h2; cases h2
    refine ⟨?_, h3⟩
    rcases h1 with h1 | ⟨x, hx, hs⟩
    · exact ⟨_, .inr rfl, h1⟩
    · cases hn : x.neg
      · have : boundIn r v = true := by rw [boundIn, List.any_eq_true]; exact ⟨x, hx, by simp [hn, hs]⟩
        rw [this] at h2; cases h2
      · exact ⟨_, .inl (mem_negs.2 ⟨x, hx, hn, rfl⟩), hs⟩
  · rintro ⟨⟨a, ha, hs⟩, h3⟩
    refine ⟨?_, ?_⟩
    · rcases ha with ha | rfl
      · obtain ⟨x, hx, _, rfl⟩ := mem_negs.1 ha; exact .inr ⟨x, hx, hs⟩
      · exact .inl hs
    · cases h : boundIn r v
      · rfl
      · exact absurd h3 (hb.1 h)
theorem bodyErr_ne {l : List Prd} {b : List Ltl} : bodyErr l b = 0 ↔ ∀ x ∈ b, checkAtom l x.atom = 0 := by
  induction b with
  | nil => simp [bodyErr]
  | cons x r ih =>
    simp only [bodyErr, List.mem_cons, forall_eq_or_imp]
    by_cases h : checkAtom l x.atom = 0
    · simp [h, ih]
    · simp [h]
theorem bodyErr_at {l : List Prd} {b : List Ltl} {k : Nat} (hk : k < b.length) (h1 : ∀ j, j < k → ∀ hj' : j < b.length, checkAtom l b[j].atom = 0) (h2 : checkAtom l b[k].atom ≠ 0) : bodyErr l b = checkAtom l b[k].atom := by
  induction b generalizing k with
  | nil => simp at hk
  | cons x r ih =>
    cases k with
    | zero => simp only [List.getElem_cons_zero] at h2 ⊢; simp [bodyErr, h2]
    | succ k =>
      have h0 := h1 0 (by omega) (by simp)
      simp only [List.getElem_cons_zero] at h0
      simp only [bodyErr, h0, List.getElem_cons_succ]
      simp only [List.getElem_cons_succ] at h2
      exact ih (by simpa using hk) (fun j _ hj' => by have := h1 (j + 1) (by omega) (by simpa using hj'); simpa using this) h2
theorem standsIn_small {l : List Prd} {a : Atm} (h : checkAtom l a = 0) {v : Int} (hs : standsIn a v = true) : v = 0 ∨ v = 1 ∨ v = 2 := by
  have h1 : argsErr a.args.xs = 0 := by
    unfold checkAtom at h
    split at h
    · cases h
    · split at h
      · cases h
      · exact h
  unfold argsErr at h1
  split at h1
  · rename_i hal
    rw [List.all_eq_true] at hal
    simp only [standsIn, List.any_eq_true, Bool.and_eq_true, decide_eq_true_eq] at hs
    obtain ⟨t, ht, hv, hn⟩ := hs
    have := hal t ht
    unfold termOk at this
    rw [if_pos hv] at this
    simp only [decide_eq_true_eq] at this
    omega
  · cases h1
theorem filter_shorter {α : Type} {p q : α → Bool} {l : List α} {x : α} (hx : x ∈ l) (hp : p x = false) (hq : q x = true) (hpq : ∀ y ∈ l, p y = true → q y = true) : (l.filter p).length < (l.filter q).length := by
  induction l with
  | nil => cases hx
  | cons y r ih =>
    have hle : ∀ s : List α, (∀ z ∈ s, p z = true → q z = true) → (s.filter p).length ≤ (s.filter q).length := by
      intro s hs
      induction s with
      | nil => simp
      | cons z t iht =>
        have i := iht fun u hu => hs u (List.mem_cons_of_mem _ hu)
        have j := hs z (List.mem_cons_self ..)
        simp only [List.filter_cons]
        split <;> split <;> simp_all <;> omega
    rcases List.mem_cons.1 hx with rfl | hx'
    · have := hle r fun z hz => hpq z (List.mem_cons_of_mem _ hz)
      simp only [List.filter_cons, hp, hq, if_true, Bool.false_eq_true, if_false, List.length_cons]; omega
    · have i := ih hx' fun z hz => hpq z (List.mem_cons_of_mem _ hz)
      have j := hpq y (List.mem_cons_self ..)
      simp only [List.filter_cons]
      split <;> split <;> simp_all <;> omega
theorem ents_of {ents : List MapEntry} {clock : Nat} {es : List (Int × Int)} (hi : IMap ents clock es) {q : MapEntry} (hq : q ∈ ents) : ∃ v x, (v, x) ∈ es ∧ q.key = .int .i64 v ∧ q.val = .int .i64 x := by
  have : (q.key, q.val) ∈ ents.map (fun e => (e.key, e.val)) := List.mem_map.2 ⟨q, hq, rfl⟩
  rw [hi.is] at this
  obtain ⟨⟨v, x⟩, hp, he⟩ := List.mem_map.1 this
  simp only [iV, Prod.mk.injEq] at he
  exact ⟨v, x, hp, he.1.symm, he.2.symm⟩
theorem ents_has {ents : List MapEntry} {clock : Nat} {es : List (Int × Int)} (hi : IMap ents clock es) {v x : Int} (hv : (v, x) ∈ es) : ∃ q ∈ ents, q.key = .int .i64 v := by
  have : iV (v, x) ∈ ents.map (fun e => (e.key, e.val)) := by rw [hi.is]; exact List.mem_map.2 ⟨_, hv, rfl⟩
  obtain ⟨q, hq, he⟩ := List.mem_map.1 this
  simp only [iV, Prod.mk.injEq] at he
  exact ⟨q, hq, he.1⟩
theorem nodup_inj {α β : Type} {f : α → β} {l : List α} (h : (l.map f).Nodup) {a b : α} (ha : a ∈ l) (hb : b ∈ l) (hf : f a = f b) : a = b := by
  induction l with
  | nil => cases ha
  | cons x r ih =>
    simp only [List.map_cons, List.nodup_cons, List.mem_map, not_exists, not_and] at h
    rcases List.mem_cons.1 ha with rfl | ha' <;> rcases List.mem_cons.1 hb with rfl | hb'
    · rfl
    · exact absurd hf.symm (h.1 b hb')
    · exact absurd hf (h.1 a ha')
    · exact ih h.2 ha' hb'
end Go.TF
end
section
/- Facts, what variables stand for, what an atom grounded is: plain. -/
namespace Go.TF
open Go

structure Fct where
  pred : Int
  a : Int
  b : Int
  v : Int
deriving DecidableEq
@[reducible] def Fct.enc (x : Fct) : List Value := [.int .i64 x.pred, .int .i64 x.a, .int .i64 x.b, .int .i64 x.v]
@[reducible] def Fct.val (x : Fct) : Value := .agg #[.int .i64 x.pred, .int .i64 x.a, .int .i64 x.b, .int .i64 x.v]
structure Vrs where
  x0 : Int
  x1 : Int
  x2 : Int
deriving DecidableEq
@[reducible] def Vrs.enc (x : Vrs) : List Value := [.int .i64 x.x0, .int .i64 x.x1, .int .i64 x.x2]
@[reducible] def Vrs.val (x : Vrs) : Value := .agg #[.int .i64 x.x0, .int .i64 x.x1, .int .i64 x.x2]
def Vrs.at (x : Vrs) (i : Int) : Int := if i = 0 then x.x0 else if i = 1 then x.x1 else x.x2
structure Stp where
  rule : Int
  vars : Vrs
deriving DecidableEq
@[reducible] def Stp.enc (x : Stp) : List Value := [.int .i64 x.rule, .int .i64 x.vars.x0, .int .i64 x.vars.x1, .int .i64 x.vars.x2]
@[reducible] def Stp.val (x : Stp) : Value := .agg #[.int .i64 x.rule, .int .i64 x.vars.x0, .int .i64 x.vars.x1, .int .i64 x.vars.x2]
instance : Inhabited Fct := ⟨⟨0, 0, 0, 0⟩⟩
instance : Inhabited Vrs := ⟨⟨0, 0, 0⟩⟩
instance : Inhabited Stp := ⟨⟨0, default⟩⟩
abbrev Fcts (l : Sl Fct) (h : Heap) : Prop := l.Is 4 Fct.enc h
abbrev Stps (l : Sl Stp) (h : Heap) : Prop := l.Is 4 Stp.enc h
theorem Rd.one {w : World} {b o : Nat} {cs : List Value} (hr : Rd w b o cs) {i : Nat} {x : Value} (hx : cs[i]? = some x) : Rd w b (o + i) [x] := fun j v e => by
  cases j with
  | zero => simp at e; subst e; exact hr i x hx
  | succ j => simp at e
theorem Rd.vrs {w : World} {b : Nat} {x : Vrs} (hr : Rd w b 0 x.enc) {i : Int} (h0 : 0 ≤ i) (h1 : i < 3) : Rd w b (0 + i.toNat * 1) [.int .i64 (x.at i)] := by
  rw [Nat.mul_one]
  refine hr.one ?_
  have : i = 0 ∨ i = 1 ∨ i = 2 := by omega
  rcases this with rfl | rfl | rfl <;> rfl
def tv (t : Trm) (x : Vrs) : Int := if t.var then x.at t.n else t.n
def argv (a : Atm) (x : Vrs) (i : Nat) : Int := match a.args.xs[i]? with | none => 0 | some t => tv t x
theorem argv_get {a : Atm} {x : Vrs} {i : Nat} (hi : i < a.args.xs.length) : argv a x i = tv a.args.xs[i] x := by simp [argv, hi]
theorem argv_none {a : Atm} {x : Vrs} {i : Nat} (hi : a.args.xs.length ≤ i) : argv a x i = 0 := by simp [argv, hi]
def groundF (a : Atm) (x : Vrs) : Fct := ⟨a.pred, argv a x 0, argv a x 1, 0⟩
def grBad (a : Atm) (x : Vrs) : Bool := a.args.xs.any fun t => t.var && !decide (within (x.at t.n) 0 4)
def groundOf (a : Atm) (x : Vrs) : Fct × Int :=
  if 2 < a.args.xs.length then (default, 1) else if argsErr a.args.xs ≠ 0 then (default, argsErr a.args.xs) else if grBad a x then (default, 3) else (groundF a x, 0)
theorem argsErr_iff {l : List Trm} : argsErr l = 0 ↔ ∀ t ∈ l, termOk t = true := by
  unfold argsErr
  rw [← List.all_eq_true]
  split <;> simp_all
theorem argsErr_var {l : List Trm} (h : argsErr l = 0) {t : Trm} (ht : t ∈ l) (hv : t.var = true) : 0 ≤ t.n ∧ t.n < 3 := by
  have := argsErr_iff.1 h t ht
  unfold termOk at this
  rw [if_pos hv] at this
  simpa using this
theorem argsErr_con {l : List Trm} (h : argsErr l = 0) {t : Trm} (ht : t ∈ l) (hv : t.var = false) : 0 ≤ t.n ∧ t.n ≤ 4 := by
  have := argsErr_iff.1 h t ht
  unfold termOk at this
  rw [hv] at this
  simpa using this
end Go.TF
end
section
/- slices.IndexFunc, ContainsFunc at this program's types, at a predicate that keeps nothing. -/
namespace Go.TF
open Go Go.RowKit Go.Proofs
set_option maxRecDepth 10000

/-- A function value that answers p at each element, whatever the world, and keeps nothing. -/
def PredFn {α : Type} (P : Program) (f : FuncId) (fs cs : List Value) (h : Heap) (val : α → Value) (xs : List α) (p : α → Bool) : Prop :=
  ∀ B' : Base, B'.ok → h.le B'.h → ∀ x ∈ xs, Fn P f (fs ++ [val x] ++ cs) B' (fun v _ => v = .bool (p x))
def idxOf {α : Type} (p : α → Bool) (xs : List α) : Int := match xs.findIdx? p with | some i => (i : Int) | none => -1
theorem idxOf_none {α : Type} {p : α → Bool} {xs : List α} (h : ∀ x ∈ xs, p x = false) : idxOf p xs = -1 := by
  have : xs.findIdx? p = none := by rw [List.findIdx?_eq_none_iff]; intro x hx; simpa using h x hx
  simp [idxOf, this]
theorem idxOf_some {α : Type} {p : α → Bool} {xs : List α} {k : Nat} (hk : k < xs.length) (h : ∀ j (hj : j < k), p (xs[j]'(by omega)) = false) (hp : p xs[k] = true) : idxOf p xs = k := by
  have : xs.findIdx? p = some k := by
    rw [List.findIdx?_eq_some_iff_getElem]
    exact ⟨hk, hp, fun j hj => by simp [h j hj]⟩
  simp [idxOf, this]
theorem idxOf_any {α : Type} (p : α → Bool) (xs : List α) : decide (0 ≤ idxOf p xs) = xs.any p := by
  unfold idxOf
  cases h : xs.findIdx? p with
  | none =>
    rw [List.findIdx?_eq_none_iff] at h
    have : xs.any p = false := by rw [List.any_eq_false]; intro x hx; simp [h x hx]
    simp [this]
  | some i =>
    rw [List.findIdx?_eq_some_iff_getElem] at h
    obtain ⟨hi, hp, _⟩ := h
    have : xs.any p = true := List.any_eq_true.2 ⟨_, List.getElem_mem hi, hp⟩
    simp [this]
theorem IndexFuncTrm_ok (B : Base) (hB : B.ok) (l : Sl Trm) (hl : l.Is 2 Trm.enc B.h) (f : FuncId) (ent : Enters Tryz.prog f) (fs cs : List Value) (p : Trm → Bool) (hp : PredFn Tryz.prog f fs cs B.h Trm.val l.xs p) :
    Fn Tryz.prog 149 [l.val, .func (.func f) fs.toArray cs.toArray] B (fun v _ => v = .int .i64 (idxOf p l.xs)) := by
  refine Fn.of Tryz.func149 rfl Tryz.ntmps149 (by kernel_rfl) (by simp) ?_
  intro e
  have I := Inv.start hB
  refine WP.seq ?_
  refine WP.region ?_
  refine Ops.y (v := .int .i64 _) (Y.assign rfl) ?_
  refine Ops.nil ?_
  refine WP.seq ?_
  refine WP.seq ?_
  refine WP.region ?_
  refine Ops.y (v := .slice _ _ _) (Y.move rfl) ?_
  refine Ops.y (v := .int .i64 _) (Y.lens Tryz.underlying69 rfl) ?_
  refine Ops.y (v := .int .i64 _) (Y.move rfl) ?_
  refine Ops.nil ?_
  refine WP.block ?_
  refine WP.loopE (σ := Nat) (fun k => [(0, l.val), (1, .func (.func f) fs.toArray cs.toArray), (7, .int .i64 l.xs.length), (8, .int .i64 k)]) (fun k w => Inv B B.h [] w ∧ k ≤ l.xs.length ∧ ∀ j (hj : j < k) (hj' : j < l.xs.length), p l.xs[j] = false) (fun k => l.xs.length - k)
    ⟨0, ⟨rfl, rfl, rfl, rfl, trivial⟩, I, Nat.zero_le _, fun j hj => (by omega)⟩ ?_
  rintro k e w ⟨I, hk, hn⟩
  have hsm := hl.small
  refine WP.seq ?_
  refine WP.region ?_
  refine Ops.y (v := .bool (decide _)) (Y.lti rfl rfl) ?_
  refine Ops.nil ?_
  refine WP.seq ?_
  refine WP.cond_dec rfl (fun h => ?_) (fun h => ?_)
  · have hk' : k < l.xs.length := by omega
    have E1 := hl.at hk'
    refine WP.skip ?_
    refine WP.seq ?_
    refine WP.block ?_
    refine WP.seq ?_
    refine WP.region ?_
    refine Ops.y (v := .int .i64 _) (Y.move rfl) ?_
    refine Ops.y (v := .int .i64 _) (Y.assign rfl) ?_
    refine Ops.nil ?_
    refine WP.seq ?_
    refine WP.region ?_
    refine Ops.y (v := .func _ _ _) (Y.move rfl) ?_
    refine Ops.y (v := .slice _ _ _) (Y.move rfl) ?_
    refine Ops.y (v := .int .i64 _) (Y.move rfl) ?_
    refine Ops.y (v := .pointer (some ⟨_, _, none⟩)) (Y.idxEl E1 Tryz.underlying69 Tryz.sizeOf97 rfl rfl (Int.natCast_nonneg _) rfl) ?_
    refine Ops.y (v := .agg #[_, _]) (Y.loadv ty_97 rfl (I.rd (E1.rd.part 0 2)) rfl rfl) ?_
    refine Ops.go (O.callcv I ent rfl (hp ⟨w, B.h⟩ I.base_ok (Heap.le.refl _) l.xs[k] (List.getElem_mem hk')) rfl ?_)
    intro w I
    refine Ops.nil ?_
    refine WP.cond rfl (fun hb => ?_) (fun hb => ?_)
    · refine WP.seq ?_
      refine WP.region ?_
      refine Ops.y (v := .int .i64 _) (Y.move rfl) ?_
      refine Ops.y (v := .int .i64 _) (Y.assign rfl) ?_
      refine Ops.nil ?_
      refine WP.ret ?_
      repeat (first | refine thenE_ret ?_ | refine blockE_ret ?_)
      exact retQ.mk (vs := [.int .i64 _]) rfl ⟨rfl, trivial⟩ I.ext_of (by simp only [tup]; rw [idxOf_some hk' (fun j hj => hn j hj (by omega)) hb])
    refine WP.skip ?_
    refine WP.region ?_
    refine Ops.y (v := .int .i64 _) (Y.addi rfl rfl ⟨by omega, by omega⟩) ?_
    refine Ops.y (v := .int .i64 _) (Y.move rfl) ?_
    refine Ops.nil ?_
    exact ⟨k + 1, ⟨⟨rfl, rfl, rfl, rfl, trivial⟩, I, by omega, fun j hj hj' => by
      rcases Nat.lt_succ_iff_lt_or_eq.1 hj with h' | h'
      · exact hn j h' hj'
      · subst h'; exact hb⟩, by omega⟩
  refine WP.exit ?_
  refine WP.seq ?_
  refine WP.region ?_
  refine Ops.y (v := .int .i64 _) (Y.assign rfl) ?_
  refine Ops.nil ?_
  refine WP.ret ?_
  repeat (first | refine thenE_ret ?_ | refine blockE_ret ?_)
  exact retQ.mk (vs := [.int .i64 _]) rfl ⟨rfl, trivial⟩ I.ext_of (by simp only [tup]; rw [idxOf_none]; intro x hx; obtain ⟨j, hj, rfl⟩ := List.getElem_of_mem hx; exact hn j (by omega) hj)
theorem ContainsFuncTrm_ok (B : Base) (hB : B.ok) (l : Sl Trm) (hl : l.Is 2 Trm.enc B.h) (f : FuncId) (ent : Enters Tryz.prog f) (fs cs : List Value) (p : Trm → Bool) (hp : PredFn Tryz.prog f fs cs B.h Trm.val l.xs p) :
    Fn Tryz.prog 144 [l.val, .func (.func f) fs.toArray cs.toArray] B (fun v _ => v = .bool (l.xs.any p)) := by
  refine Fn.of Tryz.func144 rfl Tryz.ntmps144 (by kernel_rfl) (by simp) ?_
  intro e
  have I := Inv.start hB
  refine WP.seq ?_
  refine WP.region ?_
  refine Ops.y (v := .bool _) (Y.assign rfl) ?_
  refine Ops.nil ?_
  refine WP.seq ?_
  refine WP.region ?_
  refine Ops.y (v := .slice _ _ _) (Y.move rfl) ?_
  refine Ops.y (v := .func _ _ _) (Y.move rfl) ?_
  refine Ops.go (O.callv I Tryz.call149 (IndexFuncTrm_ok _ I.base_ok l hl f ent fs cs p hp) rfl ?_)
  intro w I
  refine Ops.y (v := .bool (decide _)) (Y.gei rfl rfl) ?_
  refine Ops.y (v := .bool _) (Y.assign rfl) ?_
  refine Ops.nil ?_
  refine WP.ret ?_
  repeat (first | refine thenE_ret ?_ | refine blockE_ret ?_)
  exact retQ.mk (vs := [.bool _]) rfl ⟨rfl, trivial⟩ I.ext_of (by simp only [tup]; rw [idxOf_any])
theorem IndexFuncPrd_ok (B : Base) (hB : B.ok) (l : Sl Prd) (hl : l.Is 3 Prd.enc B.h) (f : FuncId) (ent : Enters Tryz.prog f) (fs cs : List Value) (p : Prd → Bool) (hp : PredFn Tryz.prog f fs cs B.h Prd.val l.xs p) :
    Fn Tryz.prog 109 [l.val, .func (.func f) fs.toArray cs.toArray] B (fun v _ => v = .int .i64 (idxOf p l.xs)) := by
  refine Fn.of Tryz.func109 rfl Tryz.ntmps109 (by kernel_rfl) (by simp) ?_
  intro e
  have I := Inv.start hB
  refine WP.seq ?_
  refine WP.region ?_
  refine Ops.y (v := .int .i64 _) (Y.assign rfl) ?_
  refine Ops.nil ?_
  refine WP.seq ?_
  refine WP.seq ?_
  refine WP.region ?_
  refine Ops.y (v := .slice _ _ _) (Y.move rfl) ?_
  refine Ops.y (v := .int .i64 _) (Y.lens Tryz.underlying22 rfl) ?_
  refine Ops.y (v := .int .i64 _) (Y.move rfl) ?_
  refine Ops.nil ?_
  refine WP.block ?_
  refine WP.loopE (σ := Nat) (fun k => [(0, l.val), (1, .func (.func f) fs.toArray cs.toArray), (7, .int .i64 l.xs.length), (8, .int .i64 k)]) (fun k w => Inv B B.h [] w ∧ k ≤ l.xs.length ∧ ∀ j (hj : j < k) (hj' : j < l.xs.length), p l.xs[j] = false) (fun k => l.xs.length - k)
    ⟨0, ⟨rfl, rfl, rfl, rfl, trivial⟩, I, Nat.zero_le _, fun j hj => (by omega)⟩ ?_
  rintro k e w ⟨I, hk, hn⟩
  have hsm := hl.small
  refine WP.seq ?_
  refine WP.region ?_
  refine Ops.y (v := .bool (decide _)) (Y.lti rfl rfl) ?_
  refine Ops.nil ?_
  refine WP.seq ?_
  refine WP.cond_dec rfl (fun h => ?_) (fun h => ?_)
  · have hk' : k < l.xs.length := by omega
    have E1 := hl.at hk'
    refine WP.skip ?_
    refine WP.seq ?_
    refine WP.block ?_
    refine WP.seq ?_
    refine WP.region ?_
    refine Ops.y (v := .int .i64 _) (Y.move rfl) ?_
    refine Ops.y (v := .int .i64 _) (Y.assign rfl) ?_
    refine Ops.nil ?_
    refine WP.seq ?_
    refine WP.region ?_
    refine Ops.y (v := .func _ _ _) (Y.move rfl) ?_
    refine Ops.y (v := .slice _ _ _) (Y.move rfl) ?_
    refine Ops.y (v := .int .i64 _) (Y.move rfl) ?_
    refine Ops.y (v := .pointer (some ⟨_, _, none⟩)) (Y.idxEl E1 Tryz.underlying22 Tryz.sizeOf94 rfl rfl (Int.natCast_nonneg _) rfl) ?_
    refine Ops.y (v := .agg #[_, _, _]) (Y.loadv ty_94 rfl (I.rd (E1.rd.part 0 3)) rfl rfl) ?_
    refine Ops.go (O.callcv I ent rfl (hp ⟨w, B.h⟩ I.base_ok (Heap.le.refl _) l.xs[k] (List.getElem_mem hk')) rfl ?_)
    intro w I
    refine Ops.nil ?_
    refine WP.cond rfl (fun hb => ?_) (fun hb => ?_)
    · refine WP.seq ?_
      refine WP.region ?_
      refine Ops.y (v := .int .i64 _) (Y.move rfl) ?_
      refine Ops.y (v := .int .i64 _) (Y.assign rfl) ?_
      refine Ops.nil ?_
      refine WP.ret ?_
      repeat (first | refine thenE_ret ?_ | refine blockE_ret ?_)
      exact retQ.mk (vs := [.int .i64 _]) rfl ⟨rfl, trivial⟩ I.ext_of (by simp only [tup]; rw [idxOf_some hk' (fun j hj => hn j hj (by omega)) hb])
    refine WP.skip ?_
    refine WP.region ?_
    refine Ops.y (v := .int .i64 _) (Y.addi rfl rfl ⟨by omega, by omega⟩) ?_
    refine Ops.y (v := .int .i64 _) (Y.move rfl) ?_
    refine Ops.nil ?_
    exact ⟨k + 1, ⟨⟨rfl, rfl, rfl, rfl, trivial⟩, I, by omega, fun j hj hj' => by
      rcases Nat.lt_succ_iff_lt_or_eq.1 hj with h' | h'
      · exact hn j h' hj'
      · subst h'; exact hb⟩, by omega⟩
  refine WP.exit ?_
  refine WP.seq ?_
  refine WP.region ?_
  refine Ops.y (v := .int .i64 _) (Y.assign rfl) ?_
  refine Ops.nil ?_
  refine WP.ret ?_
  repeat (first | refine thenE_ret ?_ | refine blockE_ret ?_)
  exact retQ.mk (vs := [.int .i64 _]) rfl ⟨rfl, trivial⟩ I.ext_of (by simp only [tup]; rw [idxOf_none]; intro x hx; obtain ⟨j, hj, rfl⟩ := List.getElem_of_mem hx; exact hn j (by omega) hj)
theorem ContainsFuncPrd_ok (B : Base) (hB : B.ok) (l : Sl Prd) (hl : l.Is 3 Prd.enc B.h) (f : FuncId) (ent : Enters Tryz.prog f) (fs cs : List Value) (p : Prd → Bool) (hp : PredFn Tryz.prog f fs cs B.h Prd.val l.xs p) :
    Fn Tryz.prog 87 [l.val, .func (.func f) fs.toArray cs.toArray] B (fun v _ => v = .bool (l.xs.any p)) := by
  refine Fn.of Tryz.func87 rfl Tryz.ntmps87 (by kernel_rfl) (by simp) ?_
  intro e
  have I := Inv.start hB
  refine WP.seq ?_
  refine WP.region ?_
  refine Ops.y (v := .bool _) (Y.assign rfl) ?_
  refine Ops.nil ?_
  refine WP.seq ?_
  refine WP.region ?_
  refine Ops.y (v := .slice _ _ _) (Y.move rfl) ?_
  refine Ops.y (v := .func _ _ _) (Y.move rfl) ?_
  refine Ops.go (O.callv I Tryz.call109 (IndexFuncPrd_ok _ I.base_ok l hl f ent fs cs p hp) rfl ?_)
  intro w I
  refine Ops.y (v := .bool (decide _)) (Y.gei rfl rfl) ?_
  refine Ops.y (v := .bool _) (Y.assign rfl) ?_
  refine Ops.nil ?_
  refine WP.ret ?_
  repeat (first | refine thenE_ret ?_ | refine blockE_ret ?_)
  exact retQ.mk (vs := [.bool _]) rfl ⟨rfl, trivial⟩ I.ext_of (by simp only [tup]; rw [idxOf_any])
theorem IndexFuncFct_ok (B : Base) (hB : B.ok) (l : Sl Fct) (hl : l.Is 4 Fct.enc B.h) (f : FuncId) (ent : Enters Tryz.prog f) (fs cs : List Value) (p : Fct → Bool) (hp : PredFn Tryz.prog f fs cs B.h Fct.val l.xs p) :
    Fn Tryz.prog 108 [l.val, .func (.func f) fs.toArray cs.toArray] B (fun v _ => v = .int .i64 (idxOf p l.xs)) := by
  refine Fn.of Tryz.func108 rfl Tryz.ntmps108 (by kernel_rfl) (by simp) ?_
  intro e
  have I := Inv.start hB
  refine WP.seq ?_
  refine WP.region ?_
  refine Ops.y (v := .int .i64 _) (Y.assign rfl) ?_
  refine Ops.nil ?_
  refine WP.seq ?_
  refine WP.seq ?_
  refine WP.region ?_
  refine Ops.y (v := .slice _ _ _) (Y.move rfl) ?_
  refine Ops.y (v := .int .i64 _) (Y.lens Tryz.underlying26 rfl) ?_
  refine Ops.y (v := .int .i64 _) (Y.move rfl) ?_
  refine Ops.nil ?_
  refine WP.block ?_
  refine WP.loopE (σ := Nat) (fun k => [(0, l.val), (1, .func (.func f) fs.toArray cs.toArray), (7, .int .i64 l.xs.length), (8, .int .i64 k)]) (fun k w => Inv B B.h [] w ∧ k ≤ l.xs.length ∧ ∀ j (hj : j < k) (hj' : j < l.xs.length), p l.xs[j] = false) (fun k => l.xs.length - k)
    ⟨0, ⟨rfl, rfl, rfl, rfl, trivial⟩, I, Nat.zero_le _, fun j hj => (by omega)⟩ ?_
  rintro k e w ⟨I, hk, hn⟩
  have hsm := hl.small
  refine WP.seq ?_
  refine WP.region ?_
  refine Ops.y (v := .bool (decide _)) (Y.lti rfl rfl) ?_
  refine Ops.nil ?_
  refine WP.seq ?_
  refine WP.cond_dec rfl (fun h => ?_) (fun h => ?_)
  · have hk' : k < l.xs.length := by omega
    have E1 := hl.at hk'
    refine WP.skip ?_
    refine WP.seq ?_
    refine WP.block ?_
    refine WP.seq ?_
    refine WP.region ?_
    refine Ops.y (v := .int .i64 _) (Y.move rfl) ?_
    refine Ops.y (v := .int .i64 _) (Y.assign rfl) ?_
    refine Ops.nil ?_
    refine WP.seq ?_
    refine WP.region ?_
    refine Ops.y (v := .func _ _ _) (Y.move rfl) ?_
    refine Ops.y (v := .slice _ _ _) (Y.move rfl) ?_
    refine Ops.y (v := .int .i64 _) (Y.move rfl) ?_
    refine Ops.y (v := .pointer (some ⟨_, _, none⟩)) (Y.idxEl E1 Tryz.underlying26 Tryz.sizeOf29 rfl rfl (Int.natCast_nonneg _) rfl) ?_
    refine Ops.y (v := .agg #[_, _, _, _]) (Y.loadv ty_29 rfl (I.rd (E1.rd.part 0 4)) rfl rfl) ?_
    refine Ops.go (O.callcv I ent rfl (hp ⟨w, B.h⟩ I.base_ok (Heap.le.refl _) l.xs[k] (List.getElem_mem hk')) rfl ?_)
    intro w I
    refine Ops.nil ?_
    refine WP.cond rfl (fun hb => ?_) (fun hb => ?_)
    · refine WP.seq ?_
      refine WP.region ?_
      refine Ops.y (v := .int .i64 _) (Y.move rfl) ?_
      refine Ops.y (v := .int .i64 _) (Y.assign rfl) ?_
      refine Ops.nil ?_
      refine WP.ret ?_
      repeat (first | refine thenE_ret ?_ | refine blockE_ret ?_)
      exact retQ.mk (vs := [.int .i64 _]) rfl ⟨rfl, trivial⟩ I.ext_of (by simp only [tup]; rw [idxOf_some hk' (fun j hj => hn j hj (by omega)) hb])
    refine WP.skip ?_
    refine WP.region ?_
    refine Ops.y (v := .int .i64 _) (Y.addi rfl rfl ⟨by omega, by omega⟩) ?_
    refine Ops.y (v := .int .i64 _) (Y.move rfl) ?_
    refine Ops.nil ?_
    exact ⟨k + 1, ⟨⟨rfl, rfl, rfl, rfl, trivial⟩, I, by omega, fun j hj hj' => by
      rcases Nat.lt_succ_iff_lt_or_eq.1 hj with h' | h'
      · exact hn j h' hj'
      · subst h'; exact hb⟩, by omega⟩
  refine WP.exit ?_
  refine WP.seq ?_
  refine WP.region ?_
  refine Ops.y (v := .int .i64 _) (Y.assign rfl) ?_
  refine Ops.nil ?_
  refine WP.ret ?_
  repeat (first | refine thenE_ret ?_ | refine blockE_ret ?_)
  exact retQ.mk (vs := [.int .i64 _]) rfl ⟨rfl, trivial⟩ I.ext_of (by simp only [tup]; rw [idxOf_none]; intro x hx; obtain ⟨j, hj, rfl⟩ := List.getElem_of_mem hx; exact hn j (by omega) hj)
theorem ContainsFuncFct_ok (B : Base) (hB : B.ok) (l : Sl Fct) (hl : l.Is 4 Fct.enc B.h) (f : FuncId) (ent : Enters Tryz.prog f) (fs cs : List Value) (p : Fct → Bool) (hp : PredFn Tryz.prog f fs cs B.h Fct.val l.xs p) :
    Fn Tryz.prog 82 [l.val, .func (.func f) fs.toArray cs.toArray] B (fun v _ => v = .bool (l.xs.any p)) := by
  refine Fn.of Tryz.func82 rfl Tryz.ntmps82 (by kernel_rfl) (by simp) ?_
  intro e
  have I := Inv.start hB
  refine WP.seq ?_
  refine WP.region ?_
  refine Ops.y (v := .bool _) (Y.assign rfl) ?_
  refine Ops.nil ?_
  refine WP.seq ?_
  refine WP.region ?_
  refine Ops.y (v := .slice _ _ _) (Y.move rfl) ?_
  refine Ops.y (v := .func _ _ _) (Y.move rfl) ?_
  refine Ops.go (O.callv I Tryz.call108 (IndexFuncFct_ok _ I.base_ok l hl f ent fs cs p hp) rfl ?_)
  intro w I
  refine Ops.y (v := .bool (decide _)) (Y.gei rfl rfl) ?_
  refine Ops.y (v := .bool _) (Y.assign rfl) ?_
  refine Ops.nil ?_
  refine WP.ret ?_
  repeat (first | refine thenE_ret ?_ | refine blockE_ret ?_)
  exact retQ.mk (vs := [.bool _]) rfl ⟨rfl, trivial⟩ I.ext_of (by simp only [tup]; rw [idxOf_any])
end Go.TF
end
section
/- The contracts of package rule and of the references beside it. -/
namespace Go.TF
open Go Go.RowKit Go.Proofs
set_option maxRecDepth 10000

theorem term_ok (B : Base) (hB : B.ok) (t : Trm) : Fn Tryz.prog 146 [t.val] B (fun v _ => v = .bool (termOk t)) := by
  refine Fn.of Tryz.func146 rfl Tryz.ntmps146 (by kernel_rfl) (by simp) ?_
  intro e
  have I := Inv.start hB
  refine WP.seq ?_
  refine WP.region ?_
  refine Ops.go (O.box (v := .agg #[_, _]) I rfl rfl ?_)
  intro b1 w I
  refine Ops.y (v := .bool _) (Y.assign rfl) ?_
  refine Ops.nil ?_
  refine WP.seq ?_
  refine WP.seq ?_
  refine WP.region ?_
  refine Ops.y (v := .pointer (some ⟨_, _, none⟩)) (Y.fa0 fa_97_0 rfl) ?_
  refine Ops.y (v := .bool _) (Y.loadv ty_4 rfl (I.rdbox 0 rfl 0 1) rfl rfl) ?_
  refine Ops.nil ?_
  by_cases h1 : 0 ≤ t.n
  · refine WP.cond rfl (fun hv => ?_) (fun hv => ?_)
    · refine WP.seq ?_
      refine WP.region ?_
      refine Ops.y (v := .pointer (some ⟨_, _, none⟩)) (Y.fa fa_97_1 rfl) ?_
      refine Ops.y (v := .int .i64 _) (Y.loadv ty_3 rfl (I.rdbox 0 rfl 1 1) rfl rfl) ?_
      refine Ops.y (v := .bool true) (Y.dec_t (Y.gei rfl rfl) (h1)) ?_
      refine Ops.y (v := .bool _) (Y.move rfl) ?_
      refine Ops.ygt rfl (v := .pointer (some ⟨_, _, none⟩)) (Y.fa fa_97_1 rfl) ?_
      refine Ops.ygt rfl (v := .int .i64 _) (Y.loadv ty_3 rfl (I.rdbox 0 rfl 1 1) rfl rfl) ?_
      refine Ops.ygt rfl (v := .bool (decide _)) (Y.lti rfl rfl) ?_
      refine Ops.y (v := .bool _) (Y.pick_t rfl rfl) ?_
      refine Ops.y (v := .bool _) (Y.assign rfl) ?_
      refine Ops.nil ?_
      refine WP.ret ?_
      repeat (first | refine thenE_ret ?_ | refine blockE_ret ?_)
      exact retQ.mk (vs := [.bool _]) rfl ⟨rfl, trivial⟩ I.ext_of (by simp [tup, termOk, hv, h1])
    refine WP.skip ?_
    refine WP.seq ?_
    refine WP.region ?_
    refine Ops.y (v := .pointer (some ⟨_, _, none⟩)) (Y.fa fa_97_1 rfl) ?_
    refine Ops.y (v := .int .i64 _) (Y.loadv ty_3 rfl (I.rdbox 0 rfl 1 1) rfl rfl) ?_
    refine Ops.y (v := .bool true) (Y.dec_t (Y.gei rfl rfl) (h1)) ?_
    refine Ops.y (v := .bool _) (Y.move rfl) ?_
    refine Ops.ygt rfl (v := .pointer (some ⟨_, _, none⟩)) (Y.fa fa_97_1 rfl) ?_
    refine Ops.ygt rfl (v := .int .i64 _) (Y.loadv ty_3 rfl (I.rdbox 0 rfl 1 1) rfl rfl) ?_
    refine Ops.ygt rfl (v := .bool (decide _)) (Y.lei rfl rfl) ?_
    refine Ops.y (v := .bool _) (Y.pick_t rfl rfl) ?_
    refine Ops.y (v := .bool _) (Y.assign rfl) ?_
    refine Ops.nil ?_
    refine WP.ret ?_
    repeat (first | refine thenE_ret ?_ | refine blockE_ret ?_)
    exact retQ.mk (vs := [.bool _]) rfl ⟨rfl, trivial⟩ I.ext_of (by simp [tup, termOk, hv, h1])
  · refine WP.cond rfl (fun hv => ?_) (fun hv => ?_)
    · refine WP.seq ?_
      refine WP.region ?_
      refine Ops.y (v := .pointer (some ⟨_, _, none⟩)) (Y.fa fa_97_1 rfl) ?_
      refine Ops.y (v := .int .i64 _) (Y.loadv ty_3 rfl (I.rdbox 0 rfl 1 1) rfl rfl) ?_
      refine Ops.y (v := .bool false) (Y.dec_f (Y.gei rfl rfl) (h1)) ?_
      refine Ops.y (v := .bool _) (Y.move rfl) ?_
      refine Ops.gf rfl ?_
      refine Ops.gf rfl ?_
      refine Ops.gf rfl ?_
      refine Ops.y (v := .bool _) (Y.pick_f rfl rfl) ?_
      refine Ops.y (v := .bool _) (Y.assign rfl) ?_
      refine Ops.nil ?_
      refine WP.ret ?_
      repeat (first | refine thenE_ret ?_ | refine blockE_ret ?_)
      exact retQ.mk (vs := [.bool _]) rfl ⟨rfl, trivial⟩ I.ext_of (by simp [tup, termOk, hv, h1])
    refine WP.skip ?_
    refine WP.seq ?_
    refine WP.region ?_
    refine Ops.y (v := .pointer (some ⟨_, _, none⟩)) (Y.fa fa_97_1 rfl) ?_
    refine Ops.y (v := .int .i64 _) (Y.loadv ty_3 rfl (I.rdbox 0 rfl 1 1) rfl rfl) ?_
    refine Ops.y (v := .bool false) (Y.dec_f (Y.gei rfl rfl) (h1)) ?_
    refine Ops.y (v := .bool _) (Y.move rfl) ?_
    refine Ops.gf rfl ?_
    refine Ops.gf rfl ?_
    refine Ops.gf rfl ?_
    refine Ops.y (v := .bool _) (Y.pick_f rfl rfl) ?_
    refine Ops.y (v := .bool _) (Y.assign rfl) ?_
    refine Ops.nil ?_
    refine WP.ret ?_
    repeat (first | refine thenE_ret ?_ | refine blockE_ret ?_)
    exact retQ.mk (vs := [.bool _]) rfl ⟨rfl, trivial⟩ I.ext_of (by simp [tup, termOk, hv, h1])
theorem args1_ok (B : Base) (hB : B.ok) (t : Trm) : Fn Tryz.prog 145 [t.val] B (fun v _ => v = .bool !(termOk t)) := by
  refine Fn.of Tryz.func145 rfl Tryz.ntmps145 (by kernel_rfl) (by simp) ?_
  intro e
  have I := Inv.start hB
  refine WP.seq ?_
  refine WP.region ?_
  refine Ops.go (O.box (v := .agg #[_, _]) I rfl rfl ?_)
  intro b1 w I
  refine Ops.y (v := .bool _) (Y.assign rfl) ?_
  refine Ops.nil ?_
  refine WP.seq ?_
  refine WP.region ?_
  refine Ops.y (v := .agg #[_, _]) (Y.loadv ty_97 rfl (I.rdbox 0 rfl 0 2) rfl rfl) ?_
  refine Ops.go (O.callv I Tryz.call146 (term_ok _ I.base_ok t) rfl ?_)
  intro w I
  refine Ops.y (v := .bool _) (Y.not rfl) ?_
  refine Ops.y (v := .bool _) (Y.assign rfl) ?_
  refine Ops.nil ?_
  refine WP.ret ?_
  repeat (first | refine thenE_ret ?_ | refine blockE_ret ?_)
  exact retQ.mk (vs := [.bool _]) rfl ⟨rfl, trivial⟩ I.ext_of (rfl)
theorem args_ok (B : Base) (hB : B.ok) (l : Sl Trm) (hl : Trms l B.h) : Fn Tryz.prog 136 [l.val] B (fun v _ => v = .int .i64 (argsErr l.xs)) := by
  refine Fn.of Tryz.func136 rfl Tryz.ntmps136 (by kernel_rfl) (by simp) ?_
  intro e
  have I := Inv.start hB
  refine WP.seq ?_
  refine WP.region ?_
  refine Ops.y (v := .int .i64 _) (Y.assign rfl) ?_
  refine Ops.nil ?_
  refine WP.seq ?_
  refine WP.seq ?_
  refine WP.region ?_
  refine Ops.y (v := .slice _ _ _) (Y.move rfl) ?_
  refine Ops.go (O.callv I Tryz.call144 (ContainsFuncTrm_ok _ I.base_ok l hl 145 Tryz.call145 [] [] (fun t => !termOk t) (fun B' hB' _ t _ => args1_ok B' hB' t)) rfl ?_)
  intro w I
  refine Ops.nil ?_
  refine WP.cond rfl (fun h => ?_) (fun h => ?_)
  · refine WP.seq ?_
    refine WP.region ?_
    refine Ops.y (v := .int .i64 _) (Y.assign rfl) ?_
    refine Ops.nil ?_
    refine WP.ret ?_
    repeat (first | refine thenE_ret ?_ | refine blockE_ret ?_)
    exact retQ.mk (vs := [.int .i64 _]) rfl ⟨rfl, trivial⟩ I.ext_of (by simp only [tup, argsErr]; rw [if_neg]; intro h2; simp only [List.any_eq_true, List.all_eq_true] at h h2; obtain ⟨x, hx, h3⟩ := h; simp [h2 x hx] at h3)
  refine WP.skip ?_
  refine WP.seq ?_
  refine WP.region ?_
  refine Ops.y (v := .int .i64 _) (Y.assign rfl) ?_
  refine Ops.nil ?_
  refine WP.ret ?_
  repeat (first | refine thenE_ret ?_ | refine blockE_ret ?_)
  exact retQ.mk (vs := [.int .i64 _]) rfl ⟨rfl, trivial⟩ I.ext_of (by simp only [tup, argsErr]; rw [if_pos]; simp only [List.any_eq_false, List.all_eq_true] at h ⊢; intro x hx; simpa using h x hx)
theorem argsError_ok (B : Base) (hB : B.ok) (l : Sl Trm) (hl : Trms l B.h) : Fn Tryz.prog 132 [l.val] B (fun v _ => v = .int .i64 (argsErr l.xs)) := by
  refine Fn.of Tryz.func132 rfl Tryz.ntmps132 (by kernel_rfl) (by simp) ?_
  intro e
  have I := Inv.start hB
  refine WP.seq ?_
  refine WP.region ?_
  refine Ops.y (v := .int .i64 _) (Y.assign rfl) ?_
  refine Ops.nil ?_
  refine WP.seq ?_
  refine WP.seq ?_
  refine WP.region ?_
  refine Ops.y (v := .int .i64 _) (Y.assign rfl) ?_
  refine Ops.nil ?_
  refine WP.block ?_
  refine WP.loopE (σ := Nat) (fun k => [(0, l.val), (3, .int .i64 k)]) (fun k w => Inv B B.h [] w ∧ k ≤ l.xs.length ∧ ∀ j (hj : j < k) (hj' : j < l.xs.length), termOk l.xs[j] = true) (fun k => l.xs.length - k)
    ⟨0, ⟨rfl, rfl, trivial⟩, I, Nat.zero_le _, fun j hj => (by omega)⟩ ?_
  rintro k e w ⟨I, hk, hn⟩
  have hsm := hl.small
  refine WP.seq ?_
  refine WP.seq ?_
  refine WP.region ?_
  refine Ops.y (v := .int .i64 _) (Y.move rfl) ?_
  refine Ops.y (v := .slice _ _ _) (Y.move rfl) ?_
  refine Ops.y (v := .int .i64 _) (Y.lens Tryz.underlying69 rfl) ?_
  refine Ops.y (v := .bool (decide _)) (Y.lti rfl rfl) ?_
  refine Ops.nil ?_
  refine WP.cond_dec rfl (fun h => ?_) (fun h => ?_)
  · have hk' : k < l.xs.length := by omega
    have E1 := hl.at hk'
    refine WP.skip ?_
    refine WP.seq ?_
    refine WP.block ?_
    refine WP.seq ?_
    refine WP.region ?_
    refine Ops.y (v := .int .i64 _) (Y.assign rfl) ?_
    refine Ops.nil ?_
    refine WP.seq ?_
    refine WP.seq ?_
    refine WP.region ?_
    refine Ops.y (v := .slice _ _ _) (Y.move rfl) ?_
    refine Ops.y (v := .int .i64 _) (Y.move rfl) ?_
    refine Ops.y (v := .pointer (some ⟨_, _, none⟩)) (Y.idxEl E1 Tryz.underlying69 Tryz.sizeOf97 rfl rfl (Int.natCast_nonneg _) rfl) ?_
    refine Ops.y (v := .pointer (some ⟨_, _, none⟩)) (Y.fa0 fa_97_0 rfl) ?_
    refine Ops.y (v := .bool _) (Y.loadv ty_4 rfl (I.rd (E1.rd.part 0 1)) rfl rfl) ?_
    refine Ops.nil ?_
    refine WP.cutK (σ := Unit) (fun _ => [(0, l.val), (3, .int .i64 k), (4, .int .i64 (if l.xs[k].var then 2 else 4))]) (fun _ w => Inv B B.h [] w) ?_ ?_
    · refine WP.cond rfl (fun hv => ?_) (fun hv => ?_)
      · refine WP.region ?_
        refine Ops.y (v := .int .i64 _) (Y.assign rfl) ?_
        refine Ops.nil ?_
        exact ⟨(), ⟨rfl, rfl, by simp [hv]; rfl, trivial⟩, I⟩
      refine WP.skip ?_
      exact ⟨(), ⟨rfl, rfl, by simp [hv]; rfl, trivial⟩, I⟩
    rintro _ e w I
    refine WP.seq ?_
    refine WP.region ?_
    refine Ops.y (v := .slice _ _ _) (Y.move rfl) ?_
    refine Ops.y (v := .int .i64 _) (Y.move rfl) ?_
    refine Ops.y (v := .pointer (some ⟨_, _, none⟩)) (Y.idxEl E1 Tryz.underlying69 Tryz.sizeOf97 rfl rfl (Int.natCast_nonneg _) rfl) ?_
    refine Ops.y (v := .pointer (some ⟨_, _, none⟩)) (Y.fa fa_97_1 rfl) ?_
    refine Ops.y (v := .int .i64 _) (Y.loadv ty_3 rfl (I.rd (E1.rd.part 1 1)) rfl rfl) ?_
    refine Ops.y (v := .int .i64 _) (Y.move rfl) ?_
    refine Ops.go (O.callv I Tryz.call36 (within_ok _ I.base_ok _ _ _) rfl ?_)
    intro w I
    refine Ops.y (v := .bool (decide _)) (Y.notd rfl) ?_
    refine Ops.nil ?_
    refine WP.cond_dec rfl (fun hw => ?_) (fun hw => ?_)
    · refine WP.seq ?_
      refine WP.region ?_
      refine Ops.y (v := .int .i64 _) (Y.assign rfl) ?_
      refine Ops.nil ?_
      refine WP.ret ?_
      repeat (first | refine thenE_ret ?_ | refine blockE_ret ?_)
      exact retQ.mk (vs := [.int .i64 _]) rfl ⟨rfl, trivial⟩ I.ext_of (by simp only [tup, argsErr]; rw [if_neg]; intro h2; exact hw ((termOk_iff _).1 (List.all_eq_true.1 h2 _ (List.getElem_mem hk'))))
    refine WP.skip ?_
    refine WP.region ?_
    refine Ops.y (v := .int .i64 _) (Y.move rfl) ?_
    refine Ops.y (v := .int .i64 _) (Y.addi rfl rfl ⟨by omega, by omega⟩) ?_
    refine Ops.y (v := .int .i64 _) (Y.assign rfl) ?_
    refine Ops.nil ?_
    exact ⟨k + 1, ⟨⟨rfl, rfl, trivial⟩, I, by omega, fun j hj hj' => by
      rcases Nat.lt_succ_iff_lt_or_eq.1 hj with h' | h'
      · exact hn j h' hj'
      · subst h'; exact (termOk_iff _).2 (Decidable.not_not.1 hw)⟩, by omega⟩
  refine WP.exit ?_
  refine WP.seq ?_
  refine WP.region ?_
  refine Ops.y (v := .int .i64 _) (Y.assign rfl) ?_
  refine Ops.nil ?_
  refine WP.ret ?_
  repeat (first | refine thenE_ret ?_ | refine blockE_ret ?_)
  exact retQ.mk (vs := [.int .i64 _]) rfl ⟨rfl, trivial⟩ I.ext_of (by simp only [tup, argsErr]; rw [if_pos]; rw [List.all_eq_true]; intro x hx; obtain ⟨j, hj, rfl⟩ := List.getElem_of_mem hx; exact hn j (by omega) hj)
theorem Atom_ok (B : Base) (hB : B.ok) (l : Sl Prd) (hl : Prds l B.h) (a : Atm) (ha : a.In B.h) : Fn Tryz.prog 112 [l.val, a.val] B (fun v _ => v = .int .i64 (checkAtom l.xs a)) := by
  refine Fn.of Tryz.func112 rfl Tryz.ntmps112 (by kernel_rfl) (by simp) ?_
  intro e
  have I := Inv.start hB
  refine WP.seq ?_
  refine WP.region ?_
  refine Ops.go (O.box (v := .agg #[_, _]) I rfl rfl ?_)
  intro b3 w I
  refine Ops.y (v := .int .i64 _) (Y.assign rfl) ?_
  refine Ops.nil ?_
  have hsm := hl.small
  by_cases h1 : a.pred < 0
  · refine WP.seq ?_
    refine WP.seq ?_
    refine WP.region ?_
    refine Ops.y (v := .pointer (some ⟨_, _, none⟩)) (Y.fa0 fa_71_0 rfl) ?_
    refine Ops.y (v := .int .i64 _) (Y.loadv ty_3 rfl (I.rdbox 0 rfl 0 1) rfl rfl) ?_
    refine Ops.y (v := .bool true) (Y.dec_t (Y.lti rfl rfl) (h1)) ?_
    refine Ops.y (v := .bool _) (Y.move rfl) ?_
    refine Ops.gf rfl ?_
    refine Ops.gf rfl ?_
    refine Ops.gf rfl ?_
    refine Ops.gf rfl ?_
    refine Ops.gf rfl ?_
    refine Ops.y (v := .bool _) (Y.pick_t rfl rfl) ?_
    refine Ops.nil ?_
    refine WP.cond_t rfl ?_
    refine WP.seq ?_
    refine WP.region ?_
    refine Ops.y (v := .int .i64 _) (Y.assign rfl) ?_
    refine Ops.nil ?_
    refine WP.ret ?_
    repeat (first | refine thenE_ret ?_ | refine blockE_ret ?_)
    exact retQ.mk (vs := [.int .i64 _]) rfl ⟨rfl, trivial⟩ I.ext_of (by simp [tup, checkAtom, h1])
  refine WP.seq ?_
  refine WP.seq ?_
  refine WP.region ?_
  refine Ops.y (v := .pointer (some ⟨_, _, none⟩)) (Y.fa0 fa_71_0 rfl) ?_
  refine Ops.y (v := .int .i64 _) (Y.loadv ty_3 rfl (I.rdbox 0 rfl 0 1) rfl rfl) ?_
  refine Ops.y (v := .bool false) (Y.dec_f (Y.lti rfl rfl) (h1)) ?_
  refine Ops.y (v := .bool _) (Y.move rfl) ?_
  refine Ops.ygt rfl (v := .pointer (some ⟨_, _, none⟩)) (Y.fa0 fa_71_0 rfl) ?_
  refine Ops.ygt rfl (v := .int .i64 _) (Y.loadv ty_3 rfl (I.rdbox 0 rfl 0 1) rfl rfl) ?_
  refine Ops.ygt rfl (v := .slice _ _ _) (Y.move rfl) ?_
  refine Ops.ygt rfl (v := .int .i64 _) (Y.lens Tryz.underlying22 rfl) ?_
  refine Ops.ygt rfl (v := .bool (decide _)) (Y.gei rfl rfl) ?_
  refine Ops.y (v := .bool _) (Y.pick_f rfl rfl) ?_
  refine Ops.nil ?_
  refine WP.cond_dec rfl (fun h2 => ?_) (fun h2 => ?_)
  · refine WP.seq ?_
    refine WP.region ?_
    refine Ops.y (v := .int .i64 _) (Y.assign rfl) ?_
    refine Ops.nil ?_
    refine WP.ret ?_
    repeat (first | refine thenE_ret ?_ | refine blockE_ret ?_)
    exact retQ.mk (vs := [.int .i64 _]) rfl ⟨rfl, trivial⟩ I.ext_of (by simp [tup, checkAtom, h2])
  have hp : 0 ≤ a.pred := by omega
  have E1 := hl.at (i := a.pred.toNat) (by omega)
  have hE : predOf l.xs a.pred = l.xs[a.pred.toNat]'(by omega) := by have := predOf_get hp (by omega : a.pred < l.xs.length); rw [List.getElem?_eq_getElem (by omega)] at this; exact (Option.some.inj this).symm
  refine WP.skip ?_
  refine WP.seq ?_
  refine WP.seq ?_
  refine WP.regionQ mixed I (by kernel_rfl) ?_
  refine OpsQ.y (v := .pointer (some ⟨_, _, none⟩)) (fun w I => Y.fa fa_71_1 rfl) ?_
  refine OpsQ.y (v := .slice _ _ _) (fun w I => Y.loadv ty_69 rfl (I.rdbox 0 rfl 1 1) rfl rfl) ?_
  refine OpsQ.y (v := .int .i64 _) (fun w I => Y.lens Tryz.underlying69 rfl) ?_
  refine OpsQ.y (v := .slice _ _ _) (fun w I => Y.move rfl) ?_
  refine OpsQ.y (v := .pointer (some ⟨_, _, none⟩)) (fun w I => Y.fa0 fa_71_0 rfl) ?_
  refine OpsQ.y (v := .int .i64 _) (fun w I => Y.loadv ty_3 rfl (I.rdbox 0 rfl 0 1) rfl rfl) ?_
  refine OpsQ.y (v := .pointer (some ⟨_, _, none⟩)) (fun w I => Y.idxEl E1 Tryz.underlying22 Tryz.sizeOf94 rfl rfl hp rfl) ?_
  refine OpsQ.y (v := .pointer (some ⟨_, _, none⟩)) (fun w I => Y.fa fa_94_1 rfl) ?_
  refine OpsQ.y (v := .int .i64 _) (fun w I => Y.loadv ty_3 rfl (I.rd (E1.rd.part 1 1)) rfl rfl) ?_
  refine OpsQ.y (v := .bool (decide _)) (fun w I => Y.nei rfl rfl) ?_
  refine OpsQ.nil ?_
  intro w I
  refine WP.cond_dec rfl (fun h3 => ?_) (fun h3 => ?_)
  · refine WP.seq ?_
    refine WP.region ?_
    refine Ops.y (v := .int .i64 _) (Y.assign rfl) ?_
    refine Ops.nil ?_
    refine WP.ret ?_
    repeat (first | refine thenE_ret ?_ | refine blockE_ret ?_)
    exact retQ.mk (vs := [.int .i64 _]) rfl ⟨rfl, trivial⟩ I.ext_of (by simp only [tup, checkAtom, hE]; rw [if_neg (by omega), if_pos h3])
  refine WP.skip ?_
  refine WP.seq ?_
  refine WP.region ?_
  refine Ops.y (v := .pointer (some ⟨_, _, none⟩)) (Y.fa fa_71_1 rfl) ?_
  refine Ops.y (v := .slice _ _ _) (Y.loadv ty_69 rfl (I.rdbox 0 rfl 1 1) rfl rfl) ?_
  refine Ops.go (O.callv I Tryz.call136 (args_ok _ I.base_ok a.args ha) rfl ?_)
  intro w I
  refine Ops.y (v := .int .i64 _) (Y.assign rfl) ?_
  refine Ops.nil ?_
  refine WP.ret ?_
  repeat (first | refine thenE_ret ?_ | refine blockE_ret ?_)
  exact retQ.mk (vs := [.int .i64 _]) rfl ⟨rfl, trivial⟩ I.ext_of (by simp only [tup, checkAtom, hE]; rw [if_neg (by omega), if_neg h3])
theorem CheckAtom_ok (B : Base) (hB : B.ok) (l : Sl Prd) (hl : Prds l B.h) (a : Atm) (ha : a.In B.h) : Fn Tryz.prog 102 [l.val, a.val] B (fun v _ => v = .int .i64 (checkAtom l.xs a)) := by
  have hsm := hl.small
  refine Fn.of Tryz.func102 rfl Tryz.ntmps102 (by kernel_rfl) (by simp) ?_
  intro e
  have I := Inv.start hB
  refine WP.seq ?_
  refine WP.region ?_
  refine Ops.go (O.box (v := .agg #[_, _]) I rfl rfl ?_)
  intro b3 w I
  refine Ops.y (v := .int .i64 _) (Y.assign rfl) ?_
  refine Ops.nil ?_
  refine WP.seq ?_
  refine WP.seq ?_
  refine WP.region ?_
  refine Ops.y (v := .pointer (some ⟨_, _, none⟩)) (Y.fa0 fa_71_0 rfl) ?_
  refine Ops.y (v := .int .i64 _) (Y.loadv ty_3 rfl (I.rdbox 0 rfl 0 1) rfl rfl) ?_
  refine Ops.y (v := .slice _ _ _) (Y.move rfl) ?_
  refine Ops.y (v := .int .i64 _) (Y.lens Tryz.underlying22 rfl) ?_
  refine Ops.y (v := .int .i64 _) (Y.subi rfl rfl ⟨by omega, by omega⟩) ?_
  refine Ops.go (O.callv I Tryz.call36 (within_ok _ I.base_ok _ _ _) rfl ?_)
  intro w I
  refine Ops.y (v := .bool (decide _)) (Y.notd rfl) ?_
  refine Ops.nil ?_
  refine WP.cond_dec rfl (fun h1 => ?_) (fun h1 => ?_)
  · refine WP.seq ?_
    refine WP.region ?_
    refine Ops.y (v := .int .i64 _) (Y.assign rfl) ?_
    refine Ops.nil ?_
    refine WP.ret ?_
    repeat (first | refine thenE_ret ?_ | refine blockE_ret ?_)
    exact retQ.mk (vs := [.int .i64 _]) rfl ⟨rfl, trivial⟩ I.ext_of (by simp only [tup, checkAtom, within] at *; rw [if_pos (by omega)])
  have h1' : ¬ (a.pred < 0 ∨ (l.xs.length : Int) ≤ a.pred) := by simp only [within, Decidable.not_not] at h1; omega
  have hp : 0 ≤ a.pred := by omega
  have E1 := hl.at (i := a.pred.toNat) (by omega)
  have hE : predOf l.xs a.pred = l.xs[a.pred.toNat]'(by omega) := by have := predOf_get hp (by omega : a.pred < l.xs.length); rw [List.getElem?_eq_getElem (by omega)] at this; exact (Option.some.inj this).symm
  refine WP.skip ?_
  refine WP.seq ?_
  refine WP.seq ?_
  refine WP.regionQ mixed I (by kernel_rfl) ?_
  refine OpsQ.y (v := .pointer (some ⟨_, _, none⟩)) (fun w I => Y.fa fa_71_1 rfl) ?_
  refine OpsQ.y (v := .slice _ _ _) (fun w I => Y.loadv ty_69 rfl (I.rdbox 0 rfl 1 1) rfl rfl) ?_
  refine OpsQ.y (v := .int .i64 _) (fun w I => Y.lens Tryz.underlying69 rfl) ?_
  refine OpsQ.y (v := .slice _ _ _) (fun w I => Y.move rfl) ?_
  refine OpsQ.y (v := .pointer (some ⟨_, _, none⟩)) (fun w I => Y.fa0 fa_71_0 rfl) ?_
  refine OpsQ.y (v := .int .i64 _) (fun w I => Y.loadv ty_3 rfl (I.rdbox 0 rfl 0 1) rfl rfl) ?_
  refine OpsQ.y (v := .pointer (some ⟨_, _, none⟩)) (fun w I => Y.idxEl E1 Tryz.underlying22 Tryz.sizeOf94 rfl rfl hp rfl) ?_
  refine OpsQ.y (v := .pointer (some ⟨_, _, none⟩)) (fun w I => Y.fa fa_94_1 rfl) ?_
  refine OpsQ.y (v := .int .i64 _) (fun w I => Y.loadv ty_3 rfl (I.rd (E1.rd.part 1 1)) rfl rfl) ?_
  refine OpsQ.y (v := .bool (decide _)) (fun w I => Y.nei rfl rfl) ?_
  refine OpsQ.nil ?_
  intro w I
  refine WP.cond_dec rfl (fun h3 => ?_) (fun h3 => ?_)
  · refine WP.seq ?_
    refine WP.region ?_
    refine Ops.y (v := .int .i64 _) (Y.assign rfl) ?_
    refine Ops.nil ?_
    refine WP.ret ?_
    repeat (first | refine thenE_ret ?_ | refine blockE_ret ?_)
    exact retQ.mk (vs := [.int .i64 _]) rfl ⟨rfl, trivial⟩ I.ext_of (by simp only [tup, checkAtom, hE]; rw [if_neg h1', if_pos h3])
  refine WP.skip ?_
  refine WP.seq ?_
  refine WP.region ?_
  refine Ops.y (v := .pointer (some ⟨_, _, none⟩)) (Y.fa fa_71_1 rfl) ?_
  refine Ops.y (v := .slice _ _ _) (Y.loadv ty_69 rfl (I.rdbox 0 rfl 1 1) rfl rfl) ?_
  refine Ops.go (O.callv I Tryz.call132 (argsError_ok _ I.base_ok a.args ha) rfl ?_)
  intro w I
  refine Ops.y (v := .int .i64 _) (Y.assign rfl) ?_
  refine Ops.nil ?_
  refine WP.ret ?_
  repeat (first | refine thenE_ret ?_ | refine blockE_ret ?_)
  exact retQ.mk (vs := [.int .i64 _]) rfl ⟨rfl, trivial⟩ I.ext_of (by simp only [tup, checkAtom, hE]; rw [if_neg h1', if_neg h3])
theorem standsR_ok (B : Base) (hB : B.ok) (a : Atm) (ha : a.In B.h) (v : Int) : Fn Tryz.prog 77 [a.val, .int .i64 v] B (fun r _ => r = .bool (standsIn a v)) := by
  have hsm : a.args.xs.length ≤ 140737488355328 := Sl.Is.small ha
  refine Fn.of Tryz.func77 rfl Tryz.ntmps77 (by kernel_rfl) (by simp) ?_
  intro e
  have I := Inv.start hB
  refine WP.seq ?_
  refine WP.region ?_
  refine Ops.go (O.box (v := .agg #[_, _]) I rfl rfl ?_)
  intro b2 w I
  refine Ops.y (v := .bool _) (Y.assign rfl) ?_
  refine Ops.nil ?_
  refine WP.seq ?_
  refine WP.seq ?_
  refine WP.region ?_
  refine Ops.y (v := .int .i64 _) (Y.assign rfl) ?_
  refine Ops.nil ?_
  refine WP.block ?_
  refine WP.loopE (σ := Nat) (fun k => [(1, .int .i64 v), (2, .pointer (some ⟨b2, 0, none⟩)), (5, .int .i64 k)]) (fun k w => Inv B B.h [box b2 a.enc 71] w ∧ k ≤ a.args.xs.length ∧ ∀ j (hj : j < k) (hj' : j < a.args.xs.length), (a.args.xs[j].var && decide (a.args.xs[j].n = v)) = false) (fun k => a.args.xs.length - k)
    ⟨0, ⟨rfl, rfl, rfl, trivial⟩, I, Nat.zero_le _, fun j hj => (by omega)⟩ ?_
  rintro k e w ⟨I, hk, hn⟩
  refine WP.seq ?_
  refine WP.seq ?_
  refine WP.region ?_
  refine Ops.y (v := .int .i64 _) (Y.move rfl) ?_
  refine Ops.y (v := .pointer (some ⟨_, _, none⟩)) (Y.fa fa_71_1 rfl) ?_
  refine Ops.y (v := .slice _ _ _) (Y.loadv ty_69 rfl (I.rdbox 0 rfl 1 1) rfl rfl) ?_
  refine Ops.y (v := .int .i64 _) (Y.lens Tryz.underlying69 rfl) ?_
  refine Ops.y (v := .bool (decide _)) (Y.lti rfl rfl) ?_
  refine Ops.nil ?_
  refine WP.cond_dec rfl (fun h => ?_) (fun h => ?_)
  · have hk' : k < a.args.xs.length := by omega
    have E1 := Sl.Is.at ha hk'
    have step : (a.args.xs[k].var && decide (a.args.xs[k].n = v)) = false → ∀ j (hj : j < k + 1) (hj' : j < a.args.xs.length), (a.args.xs[j].var && decide (a.args.xs[j].n = v)) = false := fun hb j hj hj' => by
      rcases Nat.lt_succ_iff_lt_or_eq.1 hj with h' | h'
      · exact hn j h' hj'
      · subst h'; exact hb
    by_cases hv : a.args.xs[k].var = true
    · refine WP.skip ?_
      refine WP.seq ?_
      refine WP.block ?_
      refine WP.seq ?_
      refine WP.region ?_
      refine Ops.y (v := .pointer (some ⟨_, _, none⟩)) (Y.fa fa_71_1 rfl) ?_
      refine Ops.y (v := .slice _ _ _) (Y.loadv ty_69 rfl (I.rdbox 0 rfl 1 1) rfl rfl) ?_
      refine Ops.y (v := .int .i64 _) (Y.move rfl) ?_
      refine Ops.y (v := .pointer (some ⟨_, _, none⟩)) (Y.idxEl E1 Tryz.underlying69 Tryz.sizeOf97 rfl rfl (Int.natCast_nonneg _) rfl) ?_
      refine Ops.y (v := .pointer (some ⟨_, _, none⟩)) (Y.fa0 fa_97_0 rfl) ?_
      refine Ops.y (v := .bool true) (Y.b (Y.loadv ty_4 rfl (I.rd (E1.rd.part 0 1)) rfl rfl) (hv)) ?_
      refine Ops.y (v := .bool _) (Y.move rfl) ?_
      refine Ops.ygt rfl (v := .pointer (some ⟨_, _, none⟩)) (Y.fa fa_71_1 rfl) ?_
      refine Ops.ygt rfl (v := .slice _ _ _) (Y.loadv ty_69 rfl (I.rdbox 0 rfl 1 1) rfl rfl) ?_
      refine Ops.ygt rfl (v := .int .i64 _) (Y.move rfl) ?_
      refine Ops.ygt rfl (v := .pointer (some ⟨_, _, none⟩)) (Y.idxEl E1 Tryz.underlying69 Tryz.sizeOf97 rfl rfl (Int.natCast_nonneg _) rfl) ?_
      refine Ops.ygt rfl (v := .pointer (some ⟨_, _, none⟩)) (Y.fa fa_97_1 rfl) ?_
      refine Ops.ygt rfl (v := .int .i64 _) (Y.loadv ty_3 rfl (I.rd (E1.rd.part 1 1)) rfl rfl) ?_
      refine Ops.ygt rfl (v := .int .i64 _) (Y.move rfl) ?_
      refine Ops.ygt rfl (v := .bool (decide _)) (Y.eqi rfl rfl) ?_
      refine Ops.y (v := .bool _) (Y.pick_t rfl rfl) ?_
      refine Ops.nil ?_
      refine WP.cond_dec rfl (fun hb => ?_) (fun hb => ?_)
      · refine WP.seq ?_
        refine WP.region ?_
        refine Ops.y (v := .bool _) (Y.assign rfl) ?_
        refine Ops.nil ?_
        refine WP.ret ?_
        repeat (first | refine thenE_ret ?_ | refine blockE_ret ?_)
        exact retQ.mk (vs := [.bool _]) rfl ⟨rfl, trivial⟩ I.ext_of (by simp only [tup, standsIn]; rw [List.any_eq_true.2 ⟨_, List.getElem_mem hk', by simp [hv, hb]⟩])
      refine WP.skip ?_
      refine WP.region ?_
      refine Ops.y (v := .int .i64 _) (Y.move rfl) ?_
      refine Ops.y (v := .int .i64 _) (Y.addi rfl rfl ⟨by omega, by omega⟩) ?_
      refine Ops.y (v := .int .i64 _) (Y.assign rfl) ?_
      refine Ops.nil ?_
      exact ⟨k + 1, ⟨⟨rfl, rfl, rfl, trivial⟩, I, by omega, step (by simp [hb])⟩, by omega⟩
    · refine WP.skip ?_
      refine WP.seq ?_
      refine WP.block ?_
      refine WP.seq ?_
      refine WP.region ?_
      refine Ops.y (v := .pointer (some ⟨_, _, none⟩)) (Y.fa fa_71_1 rfl) ?_
      refine Ops.y (v := .slice _ _ _) (Y.loadv ty_69 rfl (I.rdbox 0 rfl 1 1) rfl rfl) ?_
      refine Ops.y (v := .int .i64 _) (Y.move rfl) ?_
      refine Ops.y (v := .pointer (some ⟨_, _, none⟩)) (Y.idxEl E1 Tryz.underlying69 Tryz.sizeOf97 rfl rfl (Int.natCast_nonneg _) rfl) ?_
      refine Ops.y (v := .pointer (some ⟨_, _, none⟩)) (Y.fa0 fa_97_0 rfl) ?_
      refine Ops.y (v := .bool false) (Y.b (Y.loadv ty_4 rfl (I.rd (E1.rd.part 0 1)) rfl rfl) ((by simpa using hv))) ?_
      refine Ops.y (v := .bool _) (Y.move rfl) ?_
      refine Ops.gf rfl ?_
      refine Ops.gf rfl ?_
      refine Ops.gf rfl ?_
      refine Ops.gf rfl ?_
      refine Ops.gf rfl ?_
      refine Ops.gf rfl ?_
      refine Ops.gf rfl ?_
      refine Ops.gf rfl ?_
      refine Ops.y (v := .bool _) (Y.pick_f rfl rfl) ?_
      refine Ops.nil ?_
      refine WP.cond_f rfl ?_
      refine WP.skip ?_
      refine WP.region ?_
      refine Ops.y (v := .int .i64 _) (Y.move rfl) ?_
      refine Ops.y (v := .int .i64 _) (Y.addi rfl rfl ⟨by omega, by omega⟩) ?_
      refine Ops.y (v := .int .i64 _) (Y.assign rfl) ?_
      refine Ops.nil ?_
      exact ⟨k + 1, ⟨⟨rfl, rfl, rfl, trivial⟩, I, by omega, step (by simp [hv])⟩, by omega⟩
  refine WP.exit ?_
  refine WP.seq ?_
  refine WP.region ?_
  refine Ops.y (v := .bool _) (Y.assign rfl) ?_
  refine Ops.nil ?_
  refine WP.ret ?_
  repeat (first | refine thenE_ret ?_ | refine blockE_ret ?_)
  exact retQ.mk (vs := [.bool _]) rfl ⟨rfl, trivial⟩ I.ext_of (by simp only [tup, standsIn]; rw [List.any_eq_false.2]; intro x hx; obtain ⟨j, hj, rfl⟩ := List.getElem_of_mem hx; simpa using hn j (by omega) hj)
theorem boundR_ok (B : Base) (hB : B.ok) (r : Rul) (hr : Ltls r.body B.h) (v : Int) : Fn Tryz.prog 103 [r.val, .int .i64 v] B (fun x _ => x = .bool (boundIn r v)) := by
  have hsm := hr.is.small
  refine Fn.of Tryz.func103 rfl Tryz.ntmps103 (by kernel_rfl) (by simp) ?_
  intro e
  have I := Inv.start hB
  refine WP.seq ?_
  refine WP.region ?_
  refine Ops.go (O.box (v := .agg #[_, _, _, _, _]) I rfl rfl ?_)
  intro b2 w I
  refine Ops.y (v := .bool _) (Y.assign rfl) ?_
  refine Ops.nil ?_
  refine WP.seq ?_
  refine WP.seq ?_
  refine WP.region ?_
  refine Ops.y (v := .int .i64 _) (Y.assign rfl) ?_
  refine Ops.nil ?_
  refine WP.block ?_
  refine WP.loopE (σ := Nat) (fun k => [(1, .int .i64 v), (2, .pointer (some ⟨b2, 0, none⟩)), (5, .int .i64 k)]) (fun k w => Inv B B.h [box b2 r.enc 74] w ∧ k ≤ r.body.xs.length ∧ ∀ j (hj : j < k) (hj' : j < r.body.xs.length), (!r.body.xs[j].neg && standsIn r.body.xs[j].atom v) = false) (fun k => r.body.xs.length - k)
    ⟨0, ⟨rfl, rfl, rfl, trivial⟩, I, Nat.zero_le _, fun j hj => (by omega)⟩ ?_
  rintro k e w ⟨I, hk, hn⟩
  refine WP.seq ?_
  refine WP.seq ?_
  refine WP.region ?_
  refine Ops.y (v := .int .i64 _) (Y.move rfl) ?_
  refine Ops.y (v := .pointer (some ⟨_, _, none⟩)) (Y.fa fa_74_3 rfl) ?_
  refine Ops.y (v := .slice _ _ _) (Y.loadv ty_72 rfl (I.rdbox 0 rfl 4 1) rfl rfl) ?_
  refine Ops.y (v := .int .i64 _) (Y.lens Tryz.underlying72 rfl) ?_
  refine Ops.y (v := .bool (decide _)) (Y.lti rfl rfl) ?_
  refine Ops.nil ?_
  refine WP.cond_dec rfl (fun h => ?_) (fun h => ?_)
  · have hk' : k < r.body.xs.length := by omega
    have E1 := hr.is.at hk'
    have step : (!r.body.xs[k].neg && standsIn r.body.xs[k].atom v) = false → ∀ j (hj : j < k + 1) (hj' : j < r.body.xs.length), (!r.body.xs[j].neg && standsIn r.body.xs[j].atom v) = false := fun hb j hj hj' => by
      rcases Nat.lt_succ_iff_lt_or_eq.1 hj with h' | h'
      · exact hn j h' hj'
      · subst h'; exact hb
    cases hv : r.body.xs[k].neg
    · refine WP.skip ?_
      refine WP.seq ?_
      refine WP.block ?_
      refine WP.seq ?_
      refine WP.region ?_
      refine Ops.y (v := .pointer (some ⟨_, _, none⟩)) (Y.fa fa_74_3 rfl) ?_
      refine Ops.y (v := .slice _ _ _) (Y.loadv ty_72 rfl (I.rdbox 0 rfl 4 1) rfl rfl) ?_
      refine Ops.y (v := .int .i64 _) (Y.move rfl) ?_
      refine Ops.y (v := .pointer (some ⟨_, _, none⟩)) (Y.idxEl E1 Tryz.underlying72 Tryz.sizeOf87 rfl rfl (Int.natCast_nonneg _) rfl) ?_
      refine Ops.y (v := .pointer (some ⟨_, _, none⟩)) (Y.fa0 fa_87_0 rfl) ?_
      refine Ops.y (v := .bool false) (Y.b (Y.loadv ty_4 rfl (I.rd (E1.rd.part 0 1)) rfl rfl) (hv)) ?_
      refine Ops.y (v := .bool true) (Y.not (b := false) rfl) ?_
      refine Ops.y (v := .bool _) (Y.move rfl) ?_
      refine Ops.ygt rfl (v := .pointer (some ⟨_, _, none⟩)) (Y.fa fa_74_3 rfl) ?_
      refine Ops.ygt rfl (v := .slice _ _ _) (Y.loadv ty_72 rfl (I.rdbox 0 rfl 4 1) rfl rfl) ?_
      refine Ops.ygt rfl (v := .int .i64 _) (Y.move rfl) ?_
      refine Ops.ygt rfl (v := .pointer (some ⟨_, _, none⟩)) (Y.idxEl E1 Tryz.underlying72 Tryz.sizeOf87 rfl rfl (Int.natCast_nonneg _) rfl) ?_
      refine Ops.ygt rfl (v := .pointer (some ⟨_, _, none⟩)) (Y.fa fa_87_1 rfl) ?_
      refine Ops.ygt rfl (v := .agg #[_, _]) (Y.loadv ty_71 rfl (I.rd (E1.rd.part 1 2)) rfl rfl) ?_
      refine Ops.ygt rfl (v := .int .i64 _) (Y.move rfl) ?_
      refine Ops.gt rfl (O.callv I Tryz.call77 (standsR_ok _ I.base_ok r.body.xs[k].atom (hr.each _ (List.getElem_mem hk')) v) rfl ?_)
      intro w I
      refine Ops.y (v := .bool _) (Y.pick_t rfl rfl) ?_
      refine Ops.nil ?_
      refine WP.cond rfl (fun hb => ?_) (fun hb => ?_)
      · refine WP.seq ?_
        refine WP.region ?_
        refine Ops.y (v := .bool _) (Y.assign rfl) ?_
        refine Ops.nil ?_
        refine WP.ret ?_
        repeat (first | refine thenE_ret ?_ | refine blockE_ret ?_)
        exact retQ.mk (vs := [.bool _]) rfl ⟨rfl, trivial⟩ I.ext_of (by simp only [tup, boundIn]; rw [List.any_eq_true.2 ⟨_, List.getElem_mem hk', by simp [hv, hb]⟩])
      refine WP.skip ?_
      refine WP.region ?_
      refine Ops.y (v := .int .i64 _) (Y.move rfl) ?_
      refine Ops.y (v := .int .i64 _) (Y.addi rfl rfl ⟨by omega, by omega⟩) ?_
      refine Ops.y (v := .int .i64 _) (Y.assign rfl) ?_
      refine Ops.nil ?_
      exact ⟨k + 1, ⟨⟨rfl, rfl, rfl, trivial⟩, I, by omega, step (by simp [hb])⟩, by omega⟩
    · refine WP.skip ?_
      refine WP.seq ?_
      refine WP.block ?_
      refine WP.seq ?_
      refine WP.region ?_
      refine Ops.y (v := .pointer (some ⟨_, _, none⟩)) (Y.fa fa_74_3 rfl) ?_
      refine Ops.y (v := .slice _ _ _) (Y.loadv ty_72 rfl (I.rdbox 0 rfl 4 1) rfl rfl) ?_
      refine Ops.y (v := .int .i64 _) (Y.move rfl) ?_
      refine Ops.y (v := .pointer (some ⟨_, _, none⟩)) (Y.idxEl E1 Tryz.underlying72 Tryz.sizeOf87 rfl rfl (Int.natCast_nonneg _) rfl) ?_
      refine Ops.y (v := .pointer (some ⟨_, _, none⟩)) (Y.fa0 fa_87_0 rfl) ?_
      refine Ops.y (v := .bool true) (Y.b (Y.loadv ty_4 rfl (I.rd (E1.rd.part 0 1)) rfl rfl) (hv)) ?_
      refine Ops.y (v := .bool false) (Y.not (b := true) rfl) ?_
      refine Ops.y (v := .bool _) (Y.move rfl) ?_
      refine Ops.gf rfl ?_
      refine Ops.gf rfl ?_
      refine Ops.gf rfl ?_
      refine Ops.gf rfl ?_
      refine Ops.gf rfl ?_
      refine Ops.gf rfl ?_
      refine Ops.gf rfl ?_
      refine Ops.gf rfl ?_
      refine Ops.y (v := .bool _) (Y.pick_f rfl rfl) ?_
      refine Ops.nil ?_
      refine WP.cond_f rfl ?_
      refine WP.skip ?_
      refine WP.region ?_
      refine Ops.y (v := .int .i64 _) (Y.move rfl) ?_
      refine Ops.y (v := .int .i64 _) (Y.addi rfl rfl ⟨by omega, by omega⟩) ?_
      refine Ops.y (v := .int .i64 _) (Y.assign rfl) ?_
      refine Ops.nil ?_
      exact ⟨k + 1, ⟨⟨rfl, rfl, rfl, trivial⟩, I, by omega, step (by simp [hv])⟩, by omega⟩
  refine WP.exit ?_
  refine WP.seq ?_
  refine WP.region ?_
  refine Ops.y (v := .bool _) (Y.assign rfl) ?_
  refine Ops.nil ?_
  refine WP.ret ?_
  repeat (first | refine thenE_ret ?_ | refine blockE_ret ?_)
  exact retQ.mk (vs := [.bool _]) rfl ⟨rfl, trivial⟩ I.ext_of (by simp only [tup, boundIn]; rw [List.any_eq_false.2]; intro x hx; obtain ⟨j, hj, rfl⟩ := List.getElem_of_mem hx; simpa using hn j (by omega) hj)
end Go.TF
end
