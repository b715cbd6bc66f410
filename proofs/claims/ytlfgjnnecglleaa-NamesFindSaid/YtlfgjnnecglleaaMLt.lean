/- 8 texts of this proof, one behind the other: AlT AlLe AlGift AlDrS AlBool AlFlat AlBe St2. The statement is proved in the claim's last text. -/
import Derived.Test.YtlfgjnnecglleaaMLb
import Derived.Test.YtlfgjnnecglleaaRows
namespace Go.Proofs.Ytlfgjnnecglleaa
open Go.RowKit
set_option linter.unusedVariables false
set_option maxRecDepth 100000

theorem cells_0 : Try.prog.cellsOf 0 = 1 := by kernel_rfl
theorem inf_0 : (Try.prog.info? 0).isSome = true := by kernel_rfl
theorem cells_1 : Try.prog.cellsOf 1 = 1 := by kernel_rfl
theorem zero_1 : zeroA Try.prog 1 = some [Value.nilFunc] := by kernel_rfl
theorem inf_1 : (Try.prog.info? 1).isSome = true := by kernel_rfl
theorem cells_2 : Try.prog.cellsOf 2 = 1 := by kernel_rfl
theorem zero_2 : zeroA Try.prog 2 = some [Value.int IntKind.i64 0] := by kernel_rfl
theorem inf_2 : (Try.prog.info? 2).isSome = true := by kernel_rfl
theorem cells_3 : Try.prog.cellsOf 3 = 1 := by kernel_rfl
theorem zero_3 : zeroA Try.prog 3 = some [Value.int IntKind.i64 0] := by kernel_rfl
theorem inf_3 : (Try.prog.info? 3).isSome = true := by kernel_rfl
theorem cells_4 : Try.prog.cellsOf 4 = 1 := by kernel_rfl
theorem zero_4 : zeroA Try.prog 4 = some [Value.bool false] := by kernel_rfl
theorem inf_4 : (Try.prog.info? 4).isSome = true := by kernel_rfl
theorem cells_5 : Try.prog.cellsOf 5 = 1 := by kernel_rfl
theorem zero_5 : zeroA Try.prog 5 = some [Value.int IntKind.u8 0] := by kernel_rfl
theorem inf_5 : (Try.prog.info? 5).isSome = true := by kernel_rfl
theorem cells_6 : Try.prog.cellsOf 6 = 1 := by kernel_rfl
theorem zero_6 : zeroA Try.prog 6 = some [Value.int IntKind.u8 0] := by kernel_rfl
theorem inf_6 : (Try.prog.info? 6).isSome = true := by kernel_rfl
theorem cells_7 : Try.prog.cellsOf 7 = 4 := by kernel_rfl
theorem zero_7 : zeroA Try.prog 7 = some [Value.int IntKind.i64 0, Value.int IntKind.i64 0, Value.bool false, Value.int IntKind.u8 0] := by kernel_rfl
theorem inf_7 : (Try.prog.info? 7).isSome = true := by kernel_rfl
theorem cells_8 : Try.prog.cellsOf 8 = 4 := by kernel_rfl
theorem zero_8 : zeroA Try.prog 8 = some [Value.int IntKind.i64 0, Value.int IntKind.i64 0, Value.bool false, Value.int IntKind.u8 0] := by kernel_rfl
theorem inf_8 : (Try.prog.info? 8).isSome = true := by kernel_rfl
theorem cells_9 : Try.prog.cellsOf 9 = 1 := by kernel_rfl
theorem zero_9 : zeroA Try.prog 9 = some [Value.string { data := #[] }] := by kernel_rfl
theorem inf_9 : (Try.prog.info? 9).isSome = true := by kernel_rfl
theorem cells_10 : Try.prog.cellsOf 10 = 1 := by kernel_rfl
theorem zero_10 : zeroA Try.prog 10 = some [Value.string { data := #[] }] := by kernel_rfl
theorem inf_10 : (Try.prog.info? 10).isSome = true := by kernel_rfl
theorem cells_11 : Try.prog.cellsOf 11 = 1 := by kernel_rfl
theorem zero_11 : zeroA Try.prog 11 = some [Value.string { data := #[] }] := by kernel_rfl
theorem inf_11 : (Try.prog.info? 11).isSome = true := by kernel_rfl
theorem cells_12 : Try.prog.cellsOf 12 = 1 := by kernel_rfl
theorem zero_12 : zeroA Try.prog 12 = some [Value.int IntKind.u64 0] := by kernel_rfl
theorem inf_12 : (Try.prog.info? 12).isSome = true := by kernel_rfl
theorem cells_13 : Try.prog.cellsOf 13 = 2 := by kernel_rfl
theorem zero_13 : zeroA Try.prog 13 = some [Value.string { data := #[] }, Value.int IntKind.u64 0] := by kernel_rfl
theorem inf_13 : (Try.prog.info? 13).isSome = true := by kernel_rfl
theorem cells_14 : Try.prog.cellsOf 14 = 2 := by kernel_rfl
theorem zero_14 : zeroA Try.prog 14 = some [Value.string { data := #[] }, Value.int IntKind.u64 0] := by kernel_rfl
theorem inf_14 : (Try.prog.info? 14).isSome = true := by kernel_rfl
theorem cells_15 : Try.prog.cellsOf 15 = 1 := by kernel_rfl
theorem zero_15 : zeroA Try.prog 15 = some [Value.pointer none] := by kernel_rfl
theorem inf_15 : (Try.prog.info? 15).isSome = true := by kernel_rfl
theorem cells_16 : Try.prog.cellsOf 16 = 1 := by kernel_rfl
theorem zero_16 : zeroA Try.prog 16 = some [Value.pointer none] := by kernel_rfl
theorem inf_16 : (Try.prog.info? 16).isSome = true := by kernel_rfl
theorem cells_17 : Try.prog.cellsOf 17 = 1 := by kernel_rfl
theorem zero_17 : zeroA Try.prog 17 = some [Value.pointer none] := by kernel_rfl
theorem inf_17 : (Try.prog.info? 17).isSome = true := by kernel_rfl
theorem cells_18 : Try.prog.cellsOf 18 = 1 := by kernel_rfl
theorem zero_18 : zeroA Try.prog 18 = some [Value.pointer none] := by kernel_rfl
theorem inf_18 : (Try.prog.info? 18).isSome = true := by kernel_rfl
theorem cells_19 : Try.prog.cellsOf 19 = 1 := by kernel_rfl
theorem zero_19 : zeroA Try.prog 19 = some [Value.pointer none] := by kernel_rfl
theorem inf_19 : (Try.prog.info? 19).isSome = true := by kernel_rfl
theorem cells_20 : Try.prog.cellsOf 20 = 1 := by kernel_rfl
theorem zero_20 : zeroA Try.prog 20 = some [Value.nilIface] := by kernel_rfl
theorem inf_20 : (Try.prog.info? 20).isSome = true := by kernel_rfl
theorem cells_21 : Try.prog.cellsOf 21 = 1 := by kernel_rfl
theorem zero_21 : zeroA Try.prog 21 = some [Value.int IntKind.i32 0] := by kernel_rfl
theorem inf_21 : (Try.prog.info? 21).isSome = true := by kernel_rfl
theorem cells_22 : Try.prog.cellsOf 22 = 1 := by kernel_rfl
theorem zero_22 : zeroA Try.prog 22 = some [Value.slice none 0 0] := by kernel_rfl
theorem inf_22 : (Try.prog.info? 22).isSome = true := by kernel_rfl
theorem elem_22 : elemOfT Try.prog 22 = 39 := by kernel_rfl
theorem app_22 : appOk Try.prog 22 39 16 = true := by kernel_rfl
theorem cells_23 : Try.prog.cellsOf 23 = 1 := by kernel_rfl
theorem zero_23 : zeroA Try.prog 23 = some [Value.slice none 0 0] := by kernel_rfl
theorem inf_23 : (Try.prog.info? 23).isSome = true := by kernel_rfl
theorem cells_24 : Try.prog.cellsOf 24 = 1 := by kernel_rfl
theorem zero_24 : zeroA Try.prog 24 = some [Value.slice none 0 0] := by kernel_rfl
theorem inf_24 : (Try.prog.info? 24).isSome = true := by kernel_rfl
theorem cells_25 : Try.prog.cellsOf 25 = 1 := by kernel_rfl
theorem zero_25 : zeroA Try.prog 25 = some [Value.nilFunc] := by kernel_rfl
theorem inf_25 : (Try.prog.info? 25).isSome = true := by kernel_rfl
theorem cells_26 : Try.prog.cellsOf 26 = 1 := by kernel_rfl
theorem zero_26 : zeroA Try.prog 26 = some [Value.nilFunc] := by kernel_rfl
theorem inf_26 : (Try.prog.info? 26).isSome = true := by kernel_rfl
theorem cells_27 : Try.prog.cellsOf 27 = 1 := by kernel_rfl
theorem zero_27 : zeroA Try.prog 27 = some [Value.slice none 0 0] := by kernel_rfl
theorem inf_27 : (Try.prog.info? 27).isSome = true := by kernel_rfl
theorem elem_27 : elemOfT Try.prog 27 = 44 := by kernel_rfl
theorem app_27 : appOk Try.prog 27 44 4 = true := by kernel_rfl
theorem cells_28 : Try.prog.cellsOf 28 = 1 := by kernel_rfl
theorem zero_28 : zeroA Try.prog 28 = some [Value.slice none 0 0] := by kernel_rfl
theorem inf_28 : (Try.prog.info? 28).isSome = true := by kernel_rfl
theorem elem_28 : elemOfT Try.prog 28 = 30 := by kernel_rfl
theorem app_28 : appOk Try.prog 28 30 3 = true := by kernel_rfl
theorem cells_29 : Try.prog.cellsOf 29 = 3 := by kernel_rfl
theorem zero_29 : zeroA Try.prog 29 = some [Value.int IntKind.u8 0, Value.string { data := #[] }, Value.slice none 0 0] := by kernel_rfl
theorem inf_29 : (Try.prog.info? 29).isSome = true := by kernel_rfl
theorem cells_30 : Try.prog.cellsOf 30 = 3 := by kernel_rfl
theorem zero_30 : zeroA Try.prog 30 = some [Value.int IntKind.u8 0, Value.string { data := #[] }, Value.slice none 0 0] := by kernel_rfl
theorem inf_30 : (Try.prog.info? 30).isSome = true := by kernel_rfl
theorem cells_31 : Try.prog.cellsOf 31 = 1 := by kernel_rfl
theorem zero_31 : zeroA Try.prog 31 = some [Value.slice none 0 0] := by kernel_rfl
theorem inf_31 : (Try.prog.info? 31).isSome = true := by kernel_rfl
theorem elem_31 : elemOfT Try.prog 31 = 47 := by kernel_rfl
theorem app_31 : appOk Try.prog 31 47 15 = true := by kernel_rfl
theorem cells_32 : Try.prog.cellsOf 32 = 1 := by kernel_rfl
theorem zero_32 : zeroA Try.prog 32 = some [Value.slice none 0 0] := by kernel_rfl
theorem inf_32 : (Try.prog.info? 32).isSome = true := by kernel_rfl
theorem elem_32 : elemOfT Try.prog 32 = 9 := by kernel_rfl
theorem app_32 : appOk Try.prog 32 9 1 = true := by kernel_rfl
theorem cells_33 : Try.prog.cellsOf 33 = 2 := by kernel_rfl
theorem zero_33 : zeroA Try.prog 33 = some [Value.string { data := #[] }, Value.slice none 0 0] := by kernel_rfl
theorem inf_33 : (Try.prog.info? 33).isSome = true := by kernel_rfl
theorem cells_34 : Try.prog.cellsOf 34 = 2 := by kernel_rfl
theorem zero_34 : zeroA Try.prog 34 = some [Value.string { data := #[] }, Value.slice none 0 0] := by kernel_rfl
theorem inf_34 : (Try.prog.info? 34).isSome = true := by kernel_rfl
theorem cells_35 : Try.prog.cellsOf 35 = 1 := by kernel_rfl
theorem zero_35 : zeroA Try.prog 35 = some [Value.slice none 0 0] := by kernel_rfl
theorem inf_35 : (Try.prog.info? 35).isSome = true := by kernel_rfl
theorem elem_35 : elemOfT Try.prog 35 = 37 := by kernel_rfl
theorem app_35 : appOk Try.prog 35 37 8 = true := by kernel_rfl
theorem cells_36 : Try.prog.cellsOf 36 = 8 := by kernel_rfl
theorem zero_36 : zeroA Try.prog 36 = some [Value.int IntKind.u8 0, Value.int IntKind.i64 0, Value.string { data := #[] }, Value.string { data := #[] }, Value.string { data := #[] }, Value.slice none 0 0, Value.slice none 0 0, Value.int IntKind.i64 0] := by kernel_rfl
theorem inf_36 : (Try.prog.info? 36).isSome = true := by kernel_rfl
theorem cells_37 : Try.prog.cellsOf 37 = 8 := by kernel_rfl
theorem zero_37 : zeroA Try.prog 37 = some [Value.int IntKind.u8 0, Value.int IntKind.i64 0, Value.string { data := #[] }, Value.string { data := #[] }, Value.string { data := #[] }, Value.slice none 0 0, Value.slice none 0 0, Value.int IntKind.i64 0] := by kernel_rfl
theorem inf_37 : (Try.prog.info? 37).isSome = true := by kernel_rfl
theorem cells_38 : Try.prog.cellsOf 38 = 16 := by kernel_rfl
theorem zero_38 : zeroA Try.prog 38 = some [Value.int IntKind.u8 0, Value.string { data := #[] }, Value.slice none 0 0, Value.int IntKind.u8 0, Value.string { data := #[] }, Value.slice none 0 0, Value.slice none 0 0, Value.int IntKind.u8 0, Value.int IntKind.i64 0, Value.string { data := #[] }, Value.string { data := #[] }, Value.string { data := #[] }, Value.slice none 0 0, Value.slice none 0 0, Value.int IntKind.i64 0, Value.int IntKind.i64 0] := by kernel_rfl
theorem inf_38 : (Try.prog.info? 38).isSome = true := by kernel_rfl
theorem cells_39 : Try.prog.cellsOf 39 = 16 := by kernel_rfl
theorem zero_39 : zeroA Try.prog 39 = some [Value.int IntKind.u8 0, Value.string { data := #[] }, Value.slice none 0 0, Value.int IntKind.u8 0, Value.string { data := #[] }, Value.slice none 0 0, Value.slice none 0 0, Value.int IntKind.u8 0, Value.int IntKind.i64 0, Value.string { data := #[] }, Value.string { data := #[] }, Value.string { data := #[] }, Value.slice none 0 0, Value.slice none 0 0, Value.int IntKind.i64 0, Value.int IntKind.i64 0] := by kernel_rfl
theorem inf_39 : (Try.prog.info? 39).isSome = true := by kernel_rfl
theorem cells_40 : Try.prog.cellsOf 40 = 1 := by kernel_rfl
theorem inf_40 : (Try.prog.info? 40).isSome = true := by kernel_rfl
theorem cells_41 : Try.prog.cellsOf 41 = 1 := by kernel_rfl
theorem zero_41 : zeroA Try.prog 41 = some [Value.nilFunc] := by kernel_rfl
theorem inf_41 : (Try.prog.info? 41).isSome = true := by kernel_rfl
theorem cells_42 : Try.prog.cellsOf 42 = 1 := by kernel_rfl
theorem zero_42 : zeroA Try.prog 42 = some [Value.nilFunc] := by kernel_rfl
theorem inf_42 : (Try.prog.info? 42).isSome = true := by kernel_rfl
theorem cells_43 : Try.prog.cellsOf 43 = 4 := by kernel_rfl
theorem zero_43 : zeroA Try.prog 43 = some [Value.string { data := #[] }, Value.int IntKind.u8 0, Value.string { data := #[] }, Value.slice none 0 0] := by kernel_rfl
theorem inf_43 : (Try.prog.info? 43).isSome = true := by kernel_rfl
theorem cells_44 : Try.prog.cellsOf 44 = 4 := by kernel_rfl
theorem zero_44 : zeroA Try.prog 44 = some [Value.string { data := #[] }, Value.int IntKind.u8 0, Value.string { data := #[] }, Value.slice none 0 0] := by kernel_rfl
theorem inf_44 : (Try.prog.info? 44).isSome = true := by kernel_rfl
theorem cells_45 : Try.prog.cellsOf 45 = 1 := by kernel_rfl
theorem zero_45 : zeroA Try.prog 45 = some [Value.slice none 0 0] := by kernel_rfl
theorem inf_45 : (Try.prog.info? 45).isSome = true := by kernel_rfl
theorem elem_45 : elemOfT Try.prog 45 = 69 := by kernel_rfl
theorem app_45 : appOk Try.prog 45 69 3 = true := by kernel_rfl
theorem cells_46 : Try.prog.cellsOf 46 = 15 := by kernel_rfl
theorem zero_46 : zeroA Try.prog 46 = some [Value.int IntKind.u8 0, Value.string { data := #[] }, Value.string { data := #[] }, Value.slice none 0 0, Value.int IntKind.u8 0, Value.string { data := #[] }, Value.slice none 0 0, Value.int IntKind.i64 0, Value.string { data := #[] }, Value.slice none 0 0, Value.slice none 0 0, Value.slice none 0 0, Value.slice none 0 0, Value.slice none 0 0, Value.int IntKind.i64 0] := by kernel_rfl
theorem inf_46 : (Try.prog.info? 46).isSome = true := by kernel_rfl
theorem cells_47 : Try.prog.cellsOf 47 = 15 := by kernel_rfl
theorem zero_47 : zeroA Try.prog 47 = some [Value.int IntKind.u8 0, Value.string { data := #[] }, Value.string { data := #[] }, Value.slice none 0 0, Value.int IntKind.u8 0, Value.string { data := #[] }, Value.slice none 0 0, Value.int IntKind.i64 0, Value.string { data := #[] }, Value.slice none 0 0, Value.slice none 0 0, Value.slice none 0 0, Value.slice none 0 0, Value.slice none 0 0, Value.int IntKind.i64 0] := by kernel_rfl
theorem inf_47 : (Try.prog.info? 47).isSome = true := by kernel_rfl
theorem cells_48 : Try.prog.cellsOf 48 = 1 := by kernel_rfl
theorem zero_48 : zeroA Try.prog 48 = some [Value.nilFunc] := by kernel_rfl
theorem inf_48 : (Try.prog.info? 48).isSome = true := by kernel_rfl
theorem cells_49 : Try.prog.cellsOf 49 = 1 := by kernel_rfl
theorem zero_49 : zeroA Try.prog 49 = some [Value.pointer none] := by kernel_rfl
theorem inf_49 : (Try.prog.info? 49).isSome = true := by kernel_rfl
theorem cells_50 : Try.prog.cellsOf 50 = 1 := by kernel_rfl
theorem zero_50 : zeroA Try.prog 50 = some [Value.int IntKind.i64 0] := by kernel_rfl
theorem inf_50 : (Try.prog.info? 50).isSome = true := by kernel_rfl
theorem cells_51 : Try.prog.cellsOf 51 = 1 := by kernel_rfl
theorem zero_51 : zeroA Try.prog 51 = some [Value.int IntKind.i64 0] := by kernel_rfl
theorem inf_51 : (Try.prog.info? 51).isSome = true := by kernel_rfl
theorem cells_52 : Try.prog.cellsOf 52 = 1 := by kernel_rfl
theorem zero_52 : zeroA Try.prog 52 = some [Value.nilFunc] := by kernel_rfl
theorem inf_52 : (Try.prog.info? 52).isSome = true := by kernel_rfl
theorem cells_53 : Try.prog.cellsOf 53 = 1 := by kernel_rfl
theorem zero_53 : zeroA Try.prog 53 = some [Value.nilFunc] := by kernel_rfl
theorem inf_53 : (Try.prog.info? 53).isSome = true := by kernel_rfl
theorem cells_54 : Try.prog.cellsOf 54 = 1 := by kernel_rfl
theorem zero_54 : zeroA Try.prog 54 = some [Value.nilFunc] := by kernel_rfl
theorem inf_54 : (Try.prog.info? 54).isSome = true := by kernel_rfl
theorem cells_55 : Try.prog.cellsOf 55 = 1 := by kernel_rfl
theorem zero_55 : zeroA Try.prog 55 = some [Value.nilFunc] := by kernel_rfl
theorem inf_55 : (Try.prog.info? 55).isSome = true := by kernel_rfl
theorem cells_56 : Try.prog.cellsOf 56 = 1 := by kernel_rfl
theorem zero_56 : zeroA Try.prog 56 = some [Value.nilFunc] := by kernel_rfl
theorem inf_56 : (Try.prog.info? 56).isSome = true := by kernel_rfl
theorem cells_57 : Try.prog.cellsOf 57 = 1 := by kernel_rfl
theorem zero_57 : zeroA Try.prog 57 = some [Value.nilFunc] := by kernel_rfl
theorem inf_57 : (Try.prog.info? 57).isSome = true := by kernel_rfl
theorem cells_58 : Try.prog.cellsOf 58 = 1 := by kernel_rfl
theorem zero_58 : zeroA Try.prog 58 = some [Value.nilFunc] := by kernel_rfl
theorem inf_58 : (Try.prog.info? 58).isSome = true := by kernel_rfl
theorem cells_59 : Try.prog.cellsOf 59 = 1 := by kernel_rfl
theorem zero_59 : zeroA Try.prog 59 = some [Value.nilFunc] := by kernel_rfl
theorem inf_59 : (Try.prog.info? 59).isSome = true := by kernel_rfl
theorem cells_60 : Try.prog.cellsOf 60 = 1 := by kernel_rfl
theorem zero_60 : zeroA Try.prog 60 = some [Value.nilFunc] := by kernel_rfl
theorem inf_60 : (Try.prog.info? 60).isSome = true := by kernel_rfl
theorem cells_61 : Try.prog.cellsOf 61 = 1 := by kernel_rfl
theorem zero_61 : zeroA Try.prog 61 = some [Value.nilFunc] := by kernel_rfl
theorem inf_61 : (Try.prog.info? 61).isSome = true := by kernel_rfl
theorem cells_62 : Try.prog.cellsOf 62 = 1 := by kernel_rfl
theorem zero_62 : zeroA Try.prog 62 = some [Value.nilFunc] := by kernel_rfl
theorem inf_62 : (Try.prog.info? 62).isSome = true := by kernel_rfl
theorem cells_63 : Try.prog.cellsOf 63 = 1 := by kernel_rfl
theorem zero_63 : zeroA Try.prog 63 = some [Value.nilFunc] := by kernel_rfl
theorem inf_63 : (Try.prog.info? 63).isSome = true := by kernel_rfl
theorem cells_64 : Try.prog.cellsOf 64 = 1 := by kernel_rfl
theorem zero_64 : zeroA Try.prog 64 = some [Value.nilFunc] := by kernel_rfl
theorem inf_64 : (Try.prog.info? 64).isSome = true := by kernel_rfl
theorem cells_65 : Try.prog.cellsOf 65 = 1 := by kernel_rfl
theorem zero_65 : zeroA Try.prog 65 = some [Value.nilFunc] := by kernel_rfl
theorem inf_65 : (Try.prog.info? 65).isSome = true := by kernel_rfl
theorem cells_66 : Try.prog.cellsOf 66 = 1 := by kernel_rfl
theorem zero_66 : zeroA Try.prog 66 = some [Value.nilFunc] := by kernel_rfl
theorem inf_66 : (Try.prog.info? 66).isSome = true := by kernel_rfl
theorem cells_67 : Try.prog.cellsOf 67 = 1 := by kernel_rfl
theorem zero_67 : zeroA Try.prog 67 = some [Value.nilFunc] := by kernel_rfl
theorem inf_67 : (Try.prog.info? 67).isSome = true := by kernel_rfl
theorem cells_68 : Try.prog.cellsOf 68 = 3 := by kernel_rfl
theorem zero_68 : zeroA Try.prog 68 = some [Value.string { data := #[] }, Value.string { data := #[] }, Value.slice none 0 0] := by kernel_rfl
theorem inf_68 : (Try.prog.info? 68).isSome = true := by kernel_rfl
theorem cells_69 : Try.prog.cellsOf 69 = 3 := by kernel_rfl
theorem zero_69 : zeroA Try.prog 69 = some [Value.string { data := #[] }, Value.string { data := #[] }, Value.slice none 0 0] := by kernel_rfl
theorem inf_69 : (Try.prog.info? 69).isSome = true := by kernel_rfl
theorem cells_70 : Try.prog.cellsOf 70 = 1 := by kernel_rfl
theorem zero_70 : zeroA Try.prog 70 = some [Value.nilFunc] := by kernel_rfl
theorem inf_70 : (Try.prog.info? 70).isSome = true := by kernel_rfl
theorem cells_71 : Try.prog.cellsOf 71 = 1 := by kernel_rfl
theorem zero_71 : zeroA Try.prog 71 = some [Value.nilFunc] := by kernel_rfl
theorem inf_71 : (Try.prog.info? 71).isSome = true := by kernel_rfl
theorem cells_72 : Try.prog.cellsOf 72 = 1 := by kernel_rfl
theorem zero_72 : zeroA Try.prog 72 = some [Value.nilFunc] := by kernel_rfl
theorem inf_72 : (Try.prog.info? 72).isSome = true := by kernel_rfl
theorem cells_73 : Try.prog.cellsOf 73 = 1 := by kernel_rfl
theorem zero_73 : zeroA Try.prog 73 = some [Value.nilFunc] := by kernel_rfl
theorem inf_73 : (Try.prog.info? 73).isSome = true := by kernel_rfl
theorem cells_74 : Try.prog.cellsOf 74 = 1 := by kernel_rfl
theorem zero_74 : zeroA Try.prog 74 = some [Value.nilFunc] := by kernel_rfl
theorem inf_74 : (Try.prog.info? 74).isSome = true := by kernel_rfl
theorem cells_75 : Try.prog.cellsOf 75 = 1 := by kernel_rfl
theorem zero_75 : zeroA Try.prog 75 = some [Value.nilFunc] := by kernel_rfl
theorem inf_75 : (Try.prog.info? 75).isSome = true := by kernel_rfl
theorem cells_76 : Try.prog.cellsOf 76 = 1 := by kernel_rfl
theorem zero_76 : zeroA Try.prog 76 = some [Value.nilFunc] := by kernel_rfl
theorem inf_76 : (Try.prog.info? 76).isSome = true := by kernel_rfl
theorem cells_77 : Try.prog.cellsOf 77 = 1 := by kernel_rfl
theorem zero_77 : zeroA Try.prog 77 = some [Value.nilFunc] := by kernel_rfl
theorem inf_77 : (Try.prog.info? 77).isSome = true := by kernel_rfl
theorem cells_78 : Try.prog.cellsOf 78 = 1 := by kernel_rfl
theorem zero_78 : zeroA Try.prog 78 = some [Value.nilFunc] := by kernel_rfl
theorem inf_78 : (Try.prog.info? 78).isSome = true := by kernel_rfl
theorem cells_79 : Try.prog.cellsOf 79 = 1 := by kernel_rfl
theorem zero_79 : zeroA Try.prog 79 = some [Value.nilFunc] := by kernel_rfl
theorem inf_79 : (Try.prog.info? 79).isSome = true := by kernel_rfl
theorem cells_80 : Try.prog.cellsOf 80 = 1 := by kernel_rfl
theorem zero_80 : zeroA Try.prog 80 = some [Value.nilFunc] := by kernel_rfl
theorem inf_80 : (Try.prog.info? 80).isSome = true := by kernel_rfl
theorem cells_81 : Try.prog.cellsOf 81 = 1 := by kernel_rfl
theorem zero_81 : zeroA Try.prog 81 = some [Value.nilFunc] := by kernel_rfl
theorem inf_81 : (Try.prog.info? 81).isSome = true := by kernel_rfl
theorem cells_82 : Try.prog.cellsOf 82 = 1 := by kernel_rfl
theorem zero_82 : zeroA Try.prog 82 = some [Value.nilFunc] := by kernel_rfl
theorem inf_82 : (Try.prog.info? 82).isSome = true := by kernel_rfl
theorem cells_83 : Try.prog.cellsOf 83 = 1 := by kernel_rfl
theorem zero_83 : zeroA Try.prog 83 = some [Value.nilFunc] := by kernel_rfl
theorem inf_83 : (Try.prog.info? 83).isSome = true := by kernel_rfl
theorem cells_84 : Try.prog.cellsOf 84 = 1 := by kernel_rfl
theorem zero_84 : zeroA Try.prog 84 = some [Value.nilFunc] := by kernel_rfl
theorem inf_84 : (Try.prog.info? 84).isSome = true := by kernel_rfl
theorem cells_85 : Try.prog.cellsOf 85 = 1 := by kernel_rfl
theorem zero_85 : zeroA Try.prog 85 = some [Value.nilFunc] := by kernel_rfl
theorem inf_85 : (Try.prog.info? 85).isSome = true := by kernel_rfl
theorem cells_86 : Try.prog.cellsOf 86 = 1 := by kernel_rfl
theorem zero_86 : zeroA Try.prog 86 = some [Value.nilFunc] := by kernel_rfl
theorem inf_86 : (Try.prog.info? 86).isSome = true := by kernel_rfl
theorem cells_87 : Try.prog.cellsOf 87 = 1 := by kernel_rfl
theorem zero_87 : zeroA Try.prog 87 = some [Value.nilFunc] := by kernel_rfl
theorem inf_87 : (Try.prog.info? 87).isSome = true := by kernel_rfl
theorem cells_88 : Try.prog.cellsOf 88 = 1 := by kernel_rfl
theorem zero_88 : zeroA Try.prog 88 = some [Value.nilFunc] := by kernel_rfl
theorem inf_88 : (Try.prog.info? 88).isSome = true := by kernel_rfl
theorem cells_89 : Try.prog.cellsOf 89 = 4 := by kernel_rfl
theorem zero_89 : zeroA Try.prog 89 = some [Value.pointer none, Value.pointer none, Value.pointer none, Value.string { data := #[] }] := by kernel_rfl
theorem inf_89 : (Try.prog.info? 89).isSome = true := by kernel_rfl
theorem cells_90 : Try.prog.cellsOf 90 = 4 := by kernel_rfl
theorem zero_90 : zeroA Try.prog 90 = some [Value.pointer none, Value.pointer none, Value.pointer none, Value.string { data := #[] }] := by kernel_rfl
theorem inf_90 : (Try.prog.info? 90).isSome = true := by kernel_rfl
theorem cells_91 : Try.prog.cellsOf 91 = 0 := by kernel_rfl
theorem zero_91 : zeroA Try.prog 91 = some [] := by kernel_rfl
theorem inf_91 : (Try.prog.info? 91).isSome = true := by kernel_rfl
theorem cells_92 : Try.prog.cellsOf 92 = 0 := by kernel_rfl
theorem zero_92 : zeroA Try.prog 92 = some [] := by kernel_rfl
theorem inf_92 : (Try.prog.info? 92).isSome = true := by kernel_rfl
theorem cells_93 : Try.prog.cellsOf 93 = 0 := by kernel_rfl
theorem zero_93 : zeroA Try.prog 93 = some [] := by kernel_rfl
theorem inf_93 : (Try.prog.info? 93).isSome = true := by kernel_rfl
theorem cells_94 : Try.prog.cellsOf 94 = 1 := by kernel_rfl
theorem zero_94 : zeroA Try.prog 94 = some [Value.nilFunc] := by kernel_rfl
theorem inf_94 : (Try.prog.info? 94).isSome = true := by kernel_rfl
theorem cells_95 : Try.prog.cellsOf 95 = 1 := by kernel_rfl
theorem zero_95 : zeroA Try.prog 95 = some [Value.int IntKind.u32 0] := by kernel_rfl
theorem inf_95 : (Try.prog.info? 95).isSome = true := by kernel_rfl
theorem cells_96 : Try.prog.cellsOf 96 = 1 := by kernel_rfl
theorem zero_96 : zeroA Try.prog 96 = some [Value.int IntKind.u8 0] := by kernel_rfl
theorem inf_96 : (Try.prog.info? 96).isSome = true := by kernel_rfl
theorem cells_97 : Try.prog.cellsOf 97 = 1 := by kernel_rfl
theorem zero_97 : zeroA Try.prog 97 = some [Value.int IntKind.u8 0] := by kernel_rfl
theorem inf_97 : (Try.prog.info? 97).isSome = true := by kernel_rfl
theorem cells_98 : Try.prog.cellsOf 98 = 1 := by kernel_rfl
theorem zero_98 : zeroA Try.prog 98 = some [Value.nilFunc] := by kernel_rfl
theorem inf_98 : (Try.prog.info? 98).isSome = true := by kernel_rfl
theorem cells_99 : Try.prog.cellsOf 99 = 1 := by kernel_rfl
theorem zero_99 : zeroA Try.prog 99 = some [Value.pointer none] := by kernel_rfl
theorem inf_99 : (Try.prog.info? 99).isSome = true := by kernel_rfl
theorem cells_100 : Try.prog.cellsOf 100 = 1 := by kernel_rfl
theorem zero_100 : zeroA Try.prog 100 = some [Value.int IntKind.i32 0] := by kernel_rfl
theorem inf_100 : (Try.prog.info? 100).isSome = true := by kernel_rfl
theorem cells_101 : Try.prog.cellsOf 101 = 1 := by kernel_rfl
theorem zero_101 : zeroA Try.prog 101 = some [Value.int IntKind.i32 0] := by kernel_rfl
theorem inf_101 : (Try.prog.info? 101).isSome = true := by kernel_rfl
theorem cells_102 : Try.prog.cellsOf 102 = 11 := by kernel_rfl
theorem zero_102 : zeroA Try.prog 102 = some [Value.int IntKind.u64 0, Value.int IntKind.u64 0, Value.int IntKind.u32 0, Value.int IntKind.u8 0, Value.int IntKind.u8 0, Value.int IntKind.u8 0, Value.int IntKind.u8 0, Value.nilFunc, Value.pointer none, Value.int IntKind.i32 0, Value.int IntKind.i32 0] := by kernel_rfl
theorem inf_102 : (Try.prog.info? 102).isSome = true := by kernel_rfl
theorem cells_103 : Try.prog.cellsOf 103 = 11 := by kernel_rfl
theorem zero_103 : zeroA Try.prog 103 = some [Value.int IntKind.u64 0, Value.int IntKind.u64 0, Value.int IntKind.u32 0, Value.int IntKind.u8 0, Value.int IntKind.u8 0, Value.int IntKind.u8 0, Value.int IntKind.u8 0, Value.nilFunc, Value.pointer none, Value.int IntKind.i32 0, Value.int IntKind.i32 0] := by kernel_rfl
theorem inf_103 : (Try.prog.info? 103).isSome = true := by kernel_rfl
theorem cells_104 : Try.prog.cellsOf 104 = 1 := by kernel_rfl
theorem zero_104 : zeroA Try.prog 104 = some [Value.pointer none] := by kernel_rfl
theorem inf_104 : (Try.prog.info? 104).isSome = true := by kernel_rfl

attribute [simp] cells_0 inf_0 cells_1 zero_1 inf_1 cells_2 zero_2 inf_2 cells_3 zero_3 inf_3 cells_4 zero_4 inf_4 cells_5 zero_5 inf_5 cells_6 zero_6 inf_6 cells_7 zero_7 inf_7 cells_8 zero_8 inf_8 cells_9 zero_9 inf_9 cells_10 zero_10 inf_10 cells_11 zero_11 inf_11 cells_12 zero_12 inf_12 cells_13 zero_13 inf_13 cells_14 zero_14 inf_14 cells_15 zero_15 inf_15 cells_16 zero_16 inf_16 cells_17 zero_17 inf_17 cells_18 zero_18 inf_18 cells_19 zero_19 inf_19 cells_20 zero_20 inf_20 cells_21 zero_21 inf_21 cells_22 zero_22 inf_22 elem_22 app_22 cells_23 zero_23 inf_23 cells_24 zero_24 inf_24 cells_25 zero_25 inf_25 cells_26 zero_26 inf_26 cells_27 zero_27 inf_27 elem_27 app_27 cells_28 zero_28 inf_28 elem_28 app_28 cells_29 zero_29 inf_29 cells_30 zero_30 inf_30 cells_31 zero_31 inf_31 elem_31 app_31 cells_32 zero_32 inf_32 elem_32 app_32 cells_33 zero_33 inf_33 cells_34 zero_34 inf_34 cells_35 zero_35 inf_35 elem_35 app_35 cells_36 zero_36 inf_36 cells_37 zero_37 inf_37 cells_38 zero_38 inf_38 cells_39 zero_39 inf_39 cells_40 inf_40 cells_41 zero_41 inf_41 cells_42 zero_42 inf_42 cells_43 zero_43 inf_43 cells_44 zero_44 inf_44 cells_45 zero_45 inf_45 elem_45 app_45 cells_46 zero_46 inf_46 cells_47 zero_47 inf_47 cells_48 zero_48 inf_48 cells_49 zero_49 inf_49 cells_50 zero_50 inf_50 cells_51 zero_51 inf_51 cells_52 zero_52 inf_52 cells_53 zero_53 inf_53 cells_54 zero_54 inf_54 cells_55 zero_55 inf_55 cells_56 zero_56 inf_56 cells_57 zero_57 inf_57 cells_58 zero_58 inf_58 cells_59 zero_59 inf_59 cells_60 zero_60 inf_60 cells_61 zero_61 inf_61 cells_62 zero_62 inf_62 cells_63 zero_63 inf_63 cells_64 zero_64 inf_64 cells_65 zero_65 inf_65 cells_66 zero_66 inf_66 cells_67 zero_67 inf_67 cells_68 zero_68 inf_68 cells_69 zero_69 inf_69 cells_70 zero_70 inf_70 cells_71 zero_71 inf_71 cells_72 zero_72 inf_72 cells_73 zero_73 inf_73 cells_74 zero_74 inf_74 cells_75 zero_75 inf_75 cells_76 zero_76 inf_76 cells_77 zero_77 inf_77 cells_78 zero_78 inf_78 cells_79 zero_79 inf_79 cells_80 zero_80 inf_80 cells_81 zero_81 inf_81 cells_82 zero_82 inf_82 cells_83 zero_83 inf_83 cells_84 zero_84 inf_84 cells_85 zero_85 inf_85 cells_86 zero_86 inf_86 cells_87 zero_87 inf_87 cells_88 zero_88 inf_88 cells_89 zero_89 inf_89 cells_90 zero_90 inf_90 cells_91 zero_91 inf_91 cells_92 zero_92 inf_92 cells_93 zero_93 inf_93 cells_94 zero_94 inf_94 cells_95 zero_95 inf_95 cells_96 zero_96 inf_96 cells_97 zero_97 inf_97 cells_98 zero_98 inf_98 cells_99 zero_99 inf_99 cells_100 zero_100 inf_100 cells_101 zero_101 inf_101 cells_102 zero_102 inf_102 cells_103 zero_103 inf_103 cells_104 zero_104 inf_104
theorem mixed : Try.prog.follows .mixedOrders = true := by kernel_rfl
end Go.Proofs.Ytlfgjnnecglleaa

namespace Go.Proofs.Ytlfgjnnecglleaa
open Go.RowKit
set_option linter.unusedVariables false

mutual
inductive LeP : PV → PV → Prop
  | refl (p : PV) : LeP p p
  | nil (k : Nat) : LeP (.v (.slice none 0 0)) (.sl k [])
  | sl {k : Nat} {rows rows' : List (List PV)} : LeRows rows rows' → LeP (.sl k rows) (.sl k rows')
inductive LeRow : List PV → List PV → Prop
  | refl (l : List PV) : LeRow l l
  | cons {p p' : PV} {l l' : List PV} : LeP p p' → LeRow l l' → LeRow (p :: l) (p' :: l')
inductive LeRows : List (List PV) → List (List PV) → Prop
  | refl (l : List (List PV)) : LeRows l l
  | cons {p p' : List PV} {l l' : List (List PV)} : LeRow p p' → LeRows l l' → LeRows (p :: l) (p' :: l')
end
theorem LeP.ok {p p' : PV} (h : LeP p p') : ∀ {Pr : Prot} {x : Value}, RP Pr p x → RP Pr p' x := by
  refine LeP.rec (motive_1 := fun p p' _ => ∀ {Pr : Prot} {x : Value}, RP Pr p x → RP Pr p' x)
    (motive_2 := fun l l' _ => l.length = l'.length ∧ ∀ (j : Nat) (p' : PV), l'[j]? = some p' → ∃ p, l[j]? = some p ∧ ∀ {Pr : Prot} {x : Value}, RP Pr p x → RP Pr p' x)
    (motive_3 := fun l l' _ => l.length = l'.length ∧ ∀ (r : Nat) (row' : List PV), l'[r]? = some row' → ∃ row, l[r]? = some row ∧ row.length = row'.length ∧ ∀ (j : Nat) (p' : PV), row'[j]? = some p' → ∃ p, row[j]? = some p ∧ ∀ {Pr : Prot} {x : Value}, RP Pr p x → RP Pr p' x)
    ?_ ?_ ?_ ?_ ?_ ?_ ?_ h
  · intro p Pr x h; exact h
  · intro k Pr x h
    cases h with
    | v h => exact .slemp k none 0 (Nat.zero_le _)
  · intro k rows rows' _ ⟨hl, ih⟩ Pr x h
    cases h with
    | slemp _ A cap hc =>
      obtain rfl : rows' = [] := List.eq_nil_of_length_eq_zero hl.symm
      exact .slemp _ A _ hc
    | sl vs h1 h2 h3 h4 h5 =>
      rw [hl] at h1 ⊢
      refine .sl vs h1 h2 (fun r row' hr => ?_) (fun r row' j p' hr hj => ?_) (fun r row' j p' hr hj => ?_)
      · obtain ⟨row, k1, k2, _⟩ := ih r row' hr
        rw [← k2]; exact h3 r row k1
      · obtain ⟨row, k1, k2, k3⟩ := ih r row' hr
        obtain ⟨p, k4, k5⟩ := k3 j p' hj
        exact h4 r row j p k1 k4
      · obtain ⟨row, k1, k2, k3⟩ := ih r row' hr
        obtain ⟨p, k4, k5⟩ := k3 j p' hj
        exact k5 (h5 r row j p k1 k4)
  · intro l; exact ⟨rfl, fun j p h => ⟨p, h, fun h => h⟩⟩
  · intro p p' l l' _ _ ih1 ⟨hl, ih2⟩
    refine ⟨by simp [hl], fun j q hq => ?_⟩
    cases j with
    | zero => simp at hq; subst hq; exact ⟨p, rfl, ih1⟩
    | succ j => simpa using ih2 j q (by simpa using hq)
  · intro l; exact ⟨rfl, fun r row h => ⟨row, h, rfl, fun j p h => ⟨p, h, fun h => h⟩⟩⟩
  · intro p p' l l' _ _ ⟨hl1, ih1⟩ ⟨hl, ih2⟩
    refine ⟨by simp [hl], fun j q hq => ?_⟩
    cases j with
    | zero => simp at hq; subst hq; exact ⟨p, rfl, hl1, ih1⟩
    | succ j => simpa using ih2 j q (by simpa using hq)

mutual
inductive LeA : AV → AV → Prop
  | refl (v : AV) : LeA v v
  | any (v : AV) : LeA v .any
  | p {q q' : PV} : LeP q q' → LeA (.p q) (.p q')
  | osl {k d i : Nat} {rows rows' : List (List PV)} : LeRows rows rows' → LeA (.osl k rows d i) (.p (.sl k rows'))
  | agg {cs cs' : List AV} : LeAs cs cs' → LeA (.agg cs) (.agg cs')
inductive LeAs : List AV → List AV → Prop
  | refl (l : List AV) : LeAs l l
  | cons {v v' : AV} {l l' : List AV} : LeA v v' → LeAs l l' → LeAs (v :: l) (v' :: l')
end
theorem leA_both {Pr : Prot} {φ : Fi2} : (∀ {v v' : AV}, LeA v v' → ∀ {x : Value}, RA Pr φ v x → RA Pr φ v' x) ∧ (∀ {l l' : List AV}, LeAs l l' → l.length = l'.length ∧ ∀ (j : Nat) (v' : AV), l'[j]? = some v' → ∃ v, l[j]? = some v ∧ ∀ {x : Value}, RA Pr φ v x → RA Pr φ v' x) := by
  have key : ∀ {v v' : AV} (h : LeA v v') {x : Value}, RA Pr φ v x → RA Pr φ v' x := by
    intro v v' h
    refine LeA.rec (motive_1 := fun v v' _ => ∀ {x : Value}, RA Pr φ v x → RA Pr φ v' x)
      (motive_2 := fun l l' _ => l.length = l'.length ∧ ∀ (j : Nat) (v' : AV), l'[j]? = some v' → ∃ v, l[j]? = some v ∧ ∀ {x : Value}, RA Pr φ v x → RA Pr φ v' x) ?_ ?_ ?_ ?_ ?_ ?_ ?_ h
    · intro v x h; exact h
    · intro v x h; exact .any x
    · intro q q' hq x h
      cases h with
      | p h => exact .p (hq.ok h)
    · intro k d i rows rows' hr x h
      exact .p ((LeP.sl hr).ok h.sl)
    · intro cs cs' _ ⟨hl, ih⟩ x h
      cases h with
      | agg h1 h2 =>
        refine .agg (hl ▸ h1) fun j c y hc hy => ?_
        obtain ⟨v, k1, k2⟩ := ih j c hc
        exact k2 (h2 j v y k1 hy)
    · intro l; exact ⟨rfl, fun j v h => ⟨v, h, fun h => h⟩⟩
    · intro v v' l l' _ _ ih1 ⟨hl, ih2⟩
      refine ⟨by simp [hl], fun j q hq => ?_⟩
      cases j with
      | zero => simp at hq; subst hq; exact ⟨v, rfl, ih1⟩
      | succ j => simpa using ih2 j q (by simpa using hq)
  refine ⟨key, fun {l l'} h => ?_⟩
  have hA : LeA (.agg l) (.agg l') := .agg h
  refine LeAs.rec (motive_1 := fun v v' _ => True)
    (motive_2 := fun l l' _ => l.length = l'.length ∧ ∀ (j : Nat) (v' : AV), l'[j]? = some v' → ∃ v, l[j]? = some v ∧ ∀ {x : Value}, RA Pr φ v x → RA Pr φ v' x) ?_ ?_ ?_ ?_ ?_ ?_ ?_ h
  · intros; trivial
  · intros; trivial
  · intros; trivial
  · intros; trivial
  · intros; trivial
  · intro l; exact ⟨rfl, fun j v h => ⟨v, h, fun h => h⟩⟩
  · intro v v' l l' hv _ _ ⟨hl, ih2⟩
    refine ⟨by simp [hl], fun j q hq => ?_⟩
    cases j with
    | zero => simp at hq; subst hq; exact ⟨v, rfl, key hv⟩
    | succ j => simpa using ih2 j q (by simpa using hq)
/-- a contract's arguments may be known better -/
theorem ADet.sub {P : Program} {F : FuncId} {xs xs' : List AV} {S S' : ASt} {r : AV} (hle : LeAs xs xs') (h : ADet P F xs' S r S') : ADet P F xs S r S' :=
  ⟨h.1, fun Pr φ ys w hargs hR hne => by
    obtain ⟨hl, hk⟩ := (leA_both (Pr := Pr) (φ := φ)).2 hle
    exact h.2 Pr φ ys w ⟨hl ▸ hargs.1, fun j c x hc hx => by
      obtain ⟨v, k1, k2⟩ := hk j c hc
      exact k2 (hargs.2 j v x k1 hx)⟩ hR hne⟩
/-- .. its result may be told less well -/
theorem ADet.less {P : Program} {F : FuncId} {xs : List AV} {S S' : ASt} {r r' : AV} (hle : LeA r r') (h : ADet P F xs S r S') : ADet P F xs S r' S' :=
  ⟨h.1, fun Pr φ ys w hargs hR hne => (h.2 Pr φ ys w hargs hR hne).mono fun e w' hp => by
    obtain ⟨x, Pr', φ', h1, h2, h3, h4⟩ := hp
    exact ⟨x, Pr', φ', h1, h2, h3, (leA_both (Pr := Pr') (φ := φ')).1 hle h4⟩⟩
end Go.Proofs.Ytlfgjnnecglleaa

namespace Go.Proofs.Ytlfgjnnecglleaa
open Go.RowKit
set_option linter.unusedVariables false

/-- what a body's end says, where the result is an own list -/
def RetGift (P : Program) (rs : List ResultVar) (E : TypeId) (k : Nat) (rows : List (List PV)) (S' : ASt) : Exit → List AV → ASt → Prop := fun e fr S1 =>
  (e = .normal ∨ e = .ret) ∧ ∃ vs j, resA P fr S1 rs = some vs ∧ retA vs = .osl k rows 0 j ∧ get2 S1 0 j = some (.tok E k rows.length) ∧ S1.tail = S'

theorem get2_gift {α : Type} {l : List α} {φ : List (List α)} {x : α} {d i : Nat} {e : α} (h : get2 ((l ++ [x]) :: φ) d i = some e) : get2 (l :: φ) d i = some e ∨ (d = 0 ∧ i = l.length ∧ e = x) := by
  cases d with
  | succ d => exact .inl h
  | zero =>
    simp only [get2, List.getElem?_cons_zero, Option.bind_some] at h
    rcases Nat.lt_or_ge i l.length with hi | hi
    · rw [List.getElem?_append_left hi] at h; exact .inl h
    · rw [List.getElem?_append_right hi] at h
      have : i - l.length = 0 := by
        rcases Nat.eq_zero_or_pos (i - l.length) with h0 | h0
        · exact h0
        · rw [List.getElem?_eq_none (by simp; omega)] at h; cases h
      rw [this] at h
      cases h
      exact .inr ⟨rfl, by omega, rfl⟩
theorem get2_old {α : Type} {l : List α} {φ : List (List α)} {x : α} {d i : Nat} {e : α} (h : get2 (l :: φ) d i = some e) : get2 ((l ++ [x]) :: φ) d i = some e := by
  cases d with
  | succ d => exact h
  | zero =>
    simp only [get2, List.getElem?_cons_zero, Option.bind_some] at h ⊢
    rw [List.getElem?_append_left (List.getElem?_eq_some_iff.1 h).1]; exact h
theorem get2_new {α : Type} (l : List α) (φ : List (List α)) (x : α) : get2 ((l ++ [x]) :: φ) 0 l.length = some x := by
  simp [get2]
theorem fle_gift (l : List Ent) (φ : Fi2) (x : Ent) : Fle (l :: φ) ((l ++ [x]) :: φ) := fun d i e h => ⟨e, get2_old h, e.le_refl⟩

theorem ADet.gift {P : Program} {K : FuncId} {args : List AV} {S : ASt} {L : List AObj} {R : ASt} {E : TypeId} {k : Nat} {rows : List (List PV)} {fn : Func} {c : Code} (hm : P.follows .mixedOrders = true) (hK : ∀ xs w, (callFunc K xs).run P w = .ok (.enter K xs) w) (hf : P.funcs[K]? = some fn) (hb : fn.body = some c)
    (h : awp P c (AV.ups 1 args ++ List.replicate (fn.ntmps - args.length) .un) ([] :: S) (RetGift P fn.results.toList E k rows (L :: R))) : ADet P K args S (.osl k rows 0 L.length) ((L ++ [.tok E k rows.length]) :: R) := by
  refine ⟨hK, fun Pr φ xs w hargs hR hne => ?_⟩
  refine calls_of_wp hf hb ?_
  have hfr : RF Pr ([] :: φ) (AV.ups 1 args ++ List.replicate (fn.ntmps - args.length) .un) { tmps := xs ++ Array.replicate (fn.ntmps - xs.size) undef, defers := [] } := by
    refine ⟨by simp [ups_len, hargs.1], fun t v x hv hx => ?_⟩
    rcases Nat.lt_or_ge t args.length with ht | ht
    · rw [List.getElem?_append_left (by rw [ups_len]; exact ht), ups_get] at hv
      obtain ⟨v0, h0, rfl⟩ := Option.map_eq_some_iff.1 hv
      simp only at hx
      rw [Array.getElem?_append_left (by rw [← hargs.1]; exact ht)] at hx
      exact RA.up (k := 1) (hargs.2 t v0 x h0 hx)
    · rw [List.getElem?_append_right (by rw [ups_len]; exact ht)] at hv
      simp only at hx
      rw [Array.getElem?_append_right (by rw [← hargs.1]; exact ht)] at hx
      rw [List.getElem?_replicate] at hv
      rw [Array.getElem?_replicate] at hx
      split at hv
      · split at hx
        · cases hv; cases hx; exact .un
        · cases hx
      · cases hv
  refine wp_mono (awp_ok hm c _ Pr ([] :: φ) _ _ ([] :: S) w hfr (rel_push hR) (by simp) h) fun e a' w' hp => ?_
  obtain ⟨fr', S1, Pr', φ', ⟨he, vs, j, h1, h2, hj, h3⟩, h4, h5, h6, h7⟩ := hp
  obtain ⟨x, hx, hrun⟩ := results_ok (P := P) (fn := fn) h4 h5 h1
  rw [h2] at hx
  have hne' : φ' ≠ [] := ne_of_stp h6 (by simp)
  obtain ⟨l', φ0, rfl⟩ := List.exists_cons_of_ne_nil hne'
  have hS1 : S1 ≠ [] := fun h0 => by have := h5.shape; rw [h0] at this; simp at this
  obtain ⟨L', S2, rfl⟩ := List.exists_cons_of_ne_nil hS1
  simp only [List.tail_cons] at h3
  subst h3
  have hpop := rel_pop h5
  have spop := stp_pop h6
  have hne0 : φ0 ≠ [] := fun h0 => by have := hpop.shape; rw [h0] at this; simp at this
  obtain ⟨l, φ1, rfl⟩ := List.exists_cons_of_ne_nil hne0
  have hlen : l.length = L.length := by have := hpop.shape; simp at this; exact this.1
  -- the list's entry
  obtain ⟨e0, he0, ho0⟩ := h5.obj 0 j _ hj
  have ho0' : RelO Pr' ((l ++ [e0]) :: φ1) w' (.tok E k rows.length) e0 := ho0
  have hF := fle_gift l φ1 e0
  have hR2 : Rel Pr' ((l ++ [e0]) :: φ1) ((L ++ [.tok E k rows.length]) :: R) w' := by
    refine ⟨fun d i o ho => ?_, fun d i e d' i' e' g a b c f => ?_, fun d i e g a b => ?_, hpop.pr, fun g cs hmem => ?_, ?_⟩
    · rcases get2_gift ho with ho | ⟨rfl, rfl, rfl⟩
      · obtain ⟨e, k1, k2⟩ := hpop.obj d i o ho
        exact ⟨e, get2_old k1, k2.keep (Prot.le_refl _) (hF.drop d) fun g _ => ⟨rfl, fun _ h => h⟩⟩
      · exact ⟨e0, by rw [← hlen]; exact get2_new l φ1 e0, ho0'⟩
    · rcases get2_gift a with a1 | ⟨a1, a2, a3⟩
      · rcases get2_gift b with b1 | ⟨b1, b2, b3⟩
        · exact hpop.dis d i e d' i' e' g a1 b1 c f
        · rw [b3] at f
          have := (h5.dis 0 j _ (d + 1) i e g he0 a1 f c).1; omega
      · rcases get2_gift b with b1 | ⟨b1, b2, b3⟩
        · rw [a3] at c
          have := (h5.dis 0 j _ (d' + 1) i' e' g he0 b1 c f).1; omega
        · exact ⟨a1.trans b1.symm, a2.trans b2.symm⟩
    · rcases get2_gift a with a | ⟨rfl, rfl, rfl⟩
      · exact hpop.lt d i e g a b
      · exact h5.lt 0 j _ g he0 b
    · obtain ⟨t1, t2, t3, t4⟩ := hpop.tb g cs hmem
      refine ⟨t1, t2, t3, fun d i e a => ?_⟩
      rcases get2_gift a with a | ⟨rfl, rfl, rfl⟩
      · exact t4 d i e a
      · exact (h5.tb g cs hmem).2.2.2 0 j _ he0
    · have := hpop.shape
      simp at this ⊢
      exact ⟨by omega, this.2⟩
  have hS2 : Stp Pr φ w Pr' ((l ++ [e0]) :: φ1) w' := by
    refine ⟨spop.pl, spop.fl.trans hF, fun d i e g a b => ?_, spop.fr, ?_, spop.pn⟩
    · rcases get2_gift a with a | ⟨rfl, rfl, rfl⟩
      · exact spop.fresh d i e g a b
      · rcases h6.fresh 0 j _ g he0 b with ⟨d0, i0, e1, k1, k2⟩ | k1
        · cases d0 with
          | zero => simp [get2] at k1
          | succ d0 => exact .inl ⟨d0, i0, e1, k1, k2⟩
        · exact .inr k1
    · have := spop.len; simpa using this
  have hx2 : RA Pr' ((l ++ [e0]) :: φ1) (.osl k rows 0 L.length) x := by
    cases hx with
    | onil a1 a2 a3 =>
      rw [he0] at a1; cases a1
      exact .onil (by rw [← hlen]; exact get2_new l φ1 e0) a2 a3
    | osl vs a1 a2 a3 a4 a5 a6 a7 a8 a9 a10 =>
      rw [he0] at a1; cases a1
      exact .osl vs (by rw [← hlen]; exact get2_new l φ1 e0) a2 a3 a4 a5 a6 a7 a8 a9 a10
  have key : a'.defers = [] ∧ ∃ v, (results fn a'.tmps).run P w' = .ok v w' ∧ ∃ x Pr' φ', Ending.returned v = .returned x ∧ Stp Pr φ w Pr' φ' w' ∧ Rel Pr' φ' ((L ++ [.tok E k rows.length]) :: R) w' ∧ RA Pr' φ' (.osl k rows 0 L.length) x :=
    ⟨h7, x, hrun, x, Pr', _, rfl, hS2, hR2, hx2⟩
  rcases he with rfl | rfl
  · exact key
  · exact key
end Go.Proofs.Ytlfgjnnecglleaa

namespace Go.Proofs.Ytlfgjnnecglleaa
open Go.RowKit
set_option linter.unusedVariables false

/-- a region in the text's order, whose operations and calls leave the state as it was -/
def awpS (P : Program) (ops : Array Oper) (K : List AV → ASt → Prop) (S : ASt) : List Oper → List AV → Prop
  | [], fr => K fr S
  | o :: os, fr =>
    match wantA ops o fr with
    | some true =>
      match callA o fr with
      | some (F, args) => ∃ r, ADet P F args S r S ∧ awpS P ops K S os (putA fr o.dst r)
      | none =>
        match evL P o fr S with
        | some (v, _) => awpS P ops K S os (putA fr o.dst v)
        | none =>
          match stepF P o fr S with
          | some (v, S') => S' = S ∧ awpS P ops K S os (putA fr o.dst v)
          | none => False
    | some false => awpS P ops K S os (putA fr o.dst .un)
    | none => False
/-- a call, and what comes behind it, shut -/
def NextS (P : Program) (ops : Array Oper) (K : List AV → ASt → Prop) (S : ASt) (os : List Oper) (fr : List AV) (dst : Option Nat) (r : AV) : Prop := awpS P ops K S os (putA fr dst r)
@[reducible] def CallS (P : Program) (F : Nat) (args : List AV) (S : ASt) (K : AV → Prop) : Prop := ∃ r, ADet P F args S r S ∧ K r
theorem nextS_eq {P : Program} {ops : Array Oper} {K : List AV → ASt → Prop} {S : ASt} (os : List Oper) {fr : List AV} (dst : Option Nat) (r : AV) : NextS P ops K S os fr dst r = awpS P ops K S os (putA fr dst r) := rfl
theorem awpS_nil {P : Program} {ops : Array Oper} {K : List AV → ASt → Prop} {S : ASt} {fr : List AV} : awpS P ops K S [] fr = K fr S := by rw [awpS]
theorem awpS_cons {P : Program} {ops : Array Oper} {K : List AV → ASt → Prop} {S : ASt} (o : Oper) (os : List Oper) {fr : List AV} : awpS P ops K S (o :: os) fr = (match wantA ops o fr with
    | some true =>
      match callA o fr with
      | some (F, args) => CallS P F args S (NextS P ops K S os fr o.dst)
      | none =>
        match evL P o fr S with
        | some (v, _) => awpS P ops K S os (putA fr o.dst v)
        | none =>
          match stepF P o fr S with
          | some (v, S') => S' = S ∧ awpS P ops K S os (putA fr o.dst v)
          | none => False
    | some false => awpS P ops K S os (putA fr o.dst .un)
    | none => False) := by rw [awpS] <;> rfl
theorem getD_all {α : Type} {l : List α} {x d : α} (h : ∀ y ∈ l, y = x) {j : Nat} (hj : j < l.length) : l.getD j d = x := by
  rw [List.getD, List.getElem?_eq_getElem hj]
  exact h _ (List.getElem_mem hj)
theorem lcl_const {Ss : List ASt} {S : ASt} (h : ∀ T ∈ Ss, T = S) {i m : Nat} (hm : m + 1 < Ss.length) : ∀ ls : List (Nat × Nat × Nat), LCl Ss i m ls
  | [] => trivial
  | (j, d, k) :: ls => ⟨fun _ => by rw [getD_all h hm, getD_all h (by omega)], lcl_const h hm ls⟩
theorem lcp_const {Ss : List ASt} {S : ASt} (h : ∀ T ∈ Ss, T = S) {ls : List (Nat × Nat × Nat)} : ∀ prs : List (Nat × Nat), (∀ p ∈ prs, p.2 + 1 < Ss.length) → LCp Ss ls prs
  | [], _ => trivial
  | (i, m) :: prs, hp => ⟨lcl_const h (hp (i, m) (by simp)) ls, lcp_const h prs fun p hm => hp p (by simp [hm])⟩
theorem awpS_D {P : Program} {ops : Array Oper} {prs : List (Nat × Nat)} {K : List AV → ASt → Prop} {S : ASt} (n : Nat) (hp : ∀ p ∈ prs, p.2 < n) : ∀ (os : List Oper) (i : Nat) (fr : List AV) (Vs : List AV) (Ss : List ASt) (ls : List (Nat × Nat × Nat)), Ss.length = i + 1 → (∀ T ∈ Ss, T = S) → i + os.length = n →
    awpS P ops K S os fr → awpD P ops prs K os i fr S Vs Ss ls
  | [], i, fr, Vs, Ss, ls, h1, h2, h3, h => by
    rw [awpS] at h
    rw [awpD]
    exact ⟨lcp_const h2 prs fun p hm => by have := hp p hm; simp at h3; omega, h⟩
  | o :: os, i, fr, Vs, Ss, ls, h1, h2, h3, h => by
    have g1 : (Ss ++ [S]).length = (i + 1) + 1 := by simp [h1]
    have g2 : ∀ T ∈ Ss ++ [S], T = S := fun T hT => by
      rcases List.mem_append.1 hT with h | h
      · exact h2 T h
      · simpa using h
    have g3 : i + 1 + os.length = n := by simp at h3; omega
    rw [awpS] at h
    rw [awpD]
    split
    · rename_i hw
      rw [hw] at h
      simp only at h
      split
      · rename_i F args hc
        rw [hc] at h
        obtain ⟨r, k1, k2⟩ := h
        exact ⟨r, S, k1, awpS_D n hp os (i + 1) _ _ _ _ g1 g2 g3 k2⟩
      · rename_i hc
        rw [hc] at h
        simp only at h
        split
        · rename_i v ref he
          rw [he] at h
          exact awpS_D n hp os (i + 1) _ _ _ _ g1 g2 g3 h
        · rename_i he
          rw [he] at h
          simp only at h
          split
          · rename_i v S' hs
            rw [hs] at h
            obtain ⟨rfl, h⟩ := h
            exact awpS_D n hp os (i + 1) _ _ _ _ g1 g2 g3 h
          · rename_i hs
            rw [hs] at h
            exact h.elim
    · rename_i hw
      rw [hw] at h
      exact awpS_D n hp os (i + 1) _ _ _ _ g1 g2 g3 h
    · rename_i hw
      rw [hw] at h
      exact h.elim
/-- a region that draws its order and turns nothing -/
theorem awp_drawS {P : Program} {ops : Array Oper} {id : Nat} {fr : List AV} {S : ASt} {Q : Exit → List AV → ASt → Prop} (prs : List (Nat × Nat)) (hst : statD ops = true) (hprs : needLC ops = prs) (hr : (prs.all fun p => decide (p.2 < ops.size)) = true) (h : awpS P ops (Q .normal) S ops.toList fr) : awp P (.region id ops true) fr S Q :=
  awp_draw prs hst hprs (awpS_D ops.size (fun p hp => by simpa using List.all_eq_true.1 hr p hp) ops.toList 0 fr [] [S] [] rfl (fun T hT => by simpa using hT) (by simp) h)
end Go.Proofs.Ytlfgjnnecglleaa

namespace Go.Proofs.Ytlfgjnnecglleaa
open Go.RowKit
set_option linter.unusedVariables false

theorem run_bneq (a b : Bool) (x y : Operand) : pureRun Try.prog (do eqGuard .neq 4 x y (.bool a) (.bool b); binOp .neq 4 (.bool a) (.bool b) : Sem Value) = some (.bool (a != b)) := by
  cases a <;> cases b <;> kernel_rfl
theorem pureRun_map {P : Program} {α β : Type} (f : α → β) (s : Sem α) (a : α) (h : pureRun P s = some a) : pureRun P (f <$> s) = some (f a) := by
  induction s with
  | pure b => simp [pureRun] at h; subst h; rfl
  | program k ih => exact ih P (by simpa [pureRun] using h)
  | mark m k ih => exact ih (by simpa [pureRun] using h)
  | _ => simp [pureRun] at h
theorem genP_bneq {fr : List AV} {o : Oper} {x y : Operand} {k : TypeId} (a b : Bool) (ho : o.op = .binOp .neq 4 x y k) (hx : evA fr x = B a) (hy : evA fr y = B b) : genP Try.prog o fr = some (B (a != b)) := by
  obtain ⟨dst, op, ty, pos, after, guard⟩ := o
  simp only at ho
  subst ho
  have h1 : (noSel (.binOp .neq 4 x y k) && allAtoms fr (Op.operands (.binOp .neq 4 x y k)).toList) = true := by
    show (true && allAtoms fr [x, y]) = true
    rw [Bool.true_and, allAtoms, allAtoms, allAtoms, hx, hy]
    rfl
  have h2 : pureRun Try.prog (execOp (fun z => (atomV (evA fr z)).getD undef) ⟨dst, .binOp .neq 4 x y k, ty, pos, after, guard⟩) = some (.value (.bool (a != b))) := by
    have e1 : (atomV (evA fr x)).getD undef = .bool a := by rw [hx]; rfl
    have e2 : (atomV (evA fr y)).getD undef = .bool b := by rw [hy]; rfl
    unfold execOp
    simp only [e1, e2]
    exact pureRun_map _ _ _ (run_bneq a b x y)
  unfold genP
  simp only
  rw [if_pos h1, h2]
  rfl
/-- (kept shut) -/
noncomputable def genK (o : Oper) (fr : List AV) : Option AV := genP Try.prog o fr
@[simp] theorem genP_neq (dst : Option Tmp) (x y : Operand) (k ty : TypeId) (pos : String) (after : Array Edge) (guard : Option (Nat × Bool)) (fr : List AV) :
    genP Try.prog ⟨dst, .binOp .neq 4 x y k, ty, pos, after, guard⟩ fr = (match evA fr x, evA fr y with | .p (.v (.bool a)), .p (.v (.bool b)) => some (B (a != b)) | _, _ => genK ⟨dst, .binOp .neq 4 x y k, ty, pos, after, guard⟩ fr) := by
  split
  · rename_i a b hx hy
    exact genP_bneq a b rfl hx hy
  · rfl
end Go.Proofs.Ytlfgjnnecglleaa

namespace Go.Proofs.Ytlfgjnnecglleaa
open Go.RowKit
set_option linter.unusedVariables false

/-- what a body's end says, where nothing is forgotten -/
def RetFlat (P : Program) (rs : List ResultVar) (r : AV) (S' : ASt) : Exit → List AV → ASt → Prop := fun e fr S1 =>
  (e = .normal ∨ e = .ret) ∧ ∃ vs, resA P fr S1 rs = some vs ∧ retA vs = r ∧ S1 = S'
theorem retFlat_eq (P : Program) (rs : List ResultVar) (r : AV) (e : Exit) (fr : List AV) (S S1 : ASt) : RetFlat P rs r S e fr S1 = ((e = .normal ∨ e = .ret) ∧ ∃ vs, resA P fr S1 rs = some vs ∧ retA vs = r ∧ S1 = S) := by rw [RetFlat]
attribute [simp] retFlat_eq
theorem ADet.flat {P : Program} {K : FuncId} {args : List AV} {S S' : ASt} {r : AV} {fn : Func} {c : Code} (hm : P.follows .mixedOrders = true) (hK : ∀ xs w, (callFunc K xs).run P w = .ok (.enter K xs) w) (hf : P.funcs[K]? = some fn) (hb : fn.body = some c)
    (h : awp P c (args ++ List.replicate (fn.ntmps - args.length) .un) S (RetFlat P fn.results.toList r S')) : ADet P K args S r S' := by
  refine ⟨hK, fun Pr φ xs w hargs hR hne => ?_⟩
  refine calls_of_wp hf hb ?_
  have hfr : RF Pr φ (args ++ List.replicate (fn.ntmps - args.length) .un) { tmps := xs ++ Array.replicate (fn.ntmps - xs.size) undef, defers := [] } := by
    refine ⟨by simp [hargs.1], fun t v x hv hx => ?_⟩
    rcases Nat.lt_or_ge t args.length with ht | ht
    · rw [List.getElem?_append_left ht] at hv
      simp only at hx
      rw [Array.getElem?_append_left (by rw [← hargs.1]; exact ht)] at hx
      exact hargs.2 t v x hv hx
    · rw [List.getElem?_append_right ht] at hv
      simp only at hx
      rw [Array.getElem?_append_right (by rw [← hargs.1]; exact ht)] at hx
      rw [List.getElem?_replicate] at hv
      rw [Array.getElem?_replicate] at hx
      split at hv
      · split at hx
        · cases hv; cases hx; exact .un
        · cases hx
      · cases hv
  refine wp_mono (awp_ok hm c _ Pr φ _ _ S w hfr hR hne h) fun e a' w' hp => ?_
  obtain ⟨fr', S1, Pr', φ', ⟨he, vs, h1, h2, h3⟩, h4, h5, h6, h7⟩ := hp
  obtain ⟨x, hx, hrun⟩ := results_ok (P := P) (fn := fn) h4 h5 h1
  subst h3
  rw [h2] at hx
  have key : a'.defers = [] ∧ ∃ v, (results fn a'.tmps).run P w' = .ok v w' ∧ ∃ x Pr' φ', Ending.returned v = .returned x ∧ Stp Pr φ w Pr' φ' w' ∧ Rel Pr' φ' S1 w' ∧ RA Pr' φ' r x :=
    ⟨h7, x, hrun, x, Pr', φ', rfl, h6, h5, hx⟩
  rcases he with rfl | rfl
  · exact key
  · exact key
/-- less is said of the state behind a call -/
theorem ADet.after {P : Program} {K : FuncId} {args : List AV} {S S' S'' : ASt} {r : AV} (hw : wkT S' S'') (h : ADet P K args S r S') : ADet P K args S r S'' :=
  ⟨h.1, fun Pr φ xs w hargs hR hne => (h.2 Pr φ xs w hargs hR hne).mono fun e w' hp => by
    obtain ⟨x, Pr', φ', h1, h2, h3, h4⟩ := hp
    exact ⟨x, Pr', φ', h1, h2, rel_wk h3 (wkT_ok hw), h4⟩⟩
end Go.Proofs.Ytlfgjnnecglleaa

namespace Go.Proofs.Ytlfgjnnecglleaa
open Go.RowKit
set_option linter.unusedVariables false

theorem run_beql (a b : Bool) (x y : Operand) : pureRun Try.prog (do eqGuard .eql 4 x y (.bool a) (.bool b); binOp .eql 4 (.bool a) (.bool b) : Sem Value) = some (.bool (a == b)) := by
  cases a <;> cases b <;> kernel_rfl
theorem genP_beql {fr : List AV} {o : Oper} {x y : Operand} {k : TypeId} (a b : Bool) (ho : o.op = .binOp .eql 4 x y k) (hx : evA fr x = B a) (hy : evA fr y = B b) : genP Try.prog o fr = some (B (a == b)) := by
  obtain ⟨dst, op, ty, pos, after, guard⟩ := o
  simp only at ho
  subst ho
  have h1 : (noSel (.binOp .eql 4 x y k) && allAtoms fr (Op.operands (.binOp .eql 4 x y k)).toList) = true := by
    show (true && allAtoms fr [x, y]) = true
    rw [Bool.true_and, allAtoms, allAtoms, allAtoms, hx, hy]
    rfl
  have h2 : pureRun Try.prog (execOp (fun z => (atomV (evA fr z)).getD undef) ⟨dst, .binOp .eql 4 x y k, ty, pos, after, guard⟩) = some (.value (.bool (a == b))) := by
    have e1 : (atomV (evA fr x)).getD undef = .bool a := by rw [hx]; rfl
    have e2 : (atomV (evA fr y)).getD undef = .bool b := by rw [hy]; rfl
    unfold execOp
    simp only [e1, e2]
    exact pureRun_map _ _ _ (run_beql a b x y)
  unfold genP
  simp only
  rw [if_pos h1, h2]
  rfl
@[simp] theorem genP_eql (dst : Option Tmp) (x y : Operand) (k ty : TypeId) (pos : String) (after : Array Edge) (guard : Option (Nat × Bool)) (fr : List AV) :
    genP Try.prog ⟨dst, .binOp .eql 4 x y k, ty, pos, after, guard⟩ fr = (match evA fr x, evA fr y with | .p (.v (.bool a)), .p (.v (.bool b)) => some (B (a == b)) | _, _ => genK ⟨dst, .binOp .eql 4 x y k, ty, pos, after, guard⟩ fr) := by
  split
  · rename_i a b hx hy
    exact genP_beql a b rfl hx hy
  · rfl
end Go.Proofs.Ytlfgjnnecglleaa

namespace Go.Proofs.Ytlfgjnnecglleaa
open Go.RowKit
set_option linter.unusedVariables false

theorem get2_set2_ne {α : Type} (S : List (List α)) (d : Nat) {i j : Nat} (o : α) (h : i ≠ j) : get2 (set2 S d i o) d j = get2 S d j := by
  unfold get2 set2
  rcases Nat.lt_or_ge d S.length with hd | hd
  · rw [List.getElem?_set_self hd, List.getElem?_eq_getElem hd]
    simp only [Option.bind_some]
    rw [List.getElem?_set_ne h]
    simp [List.getD, hd]
  · rw [List.set_eq_of_length_le hd]
theorem set2_comm {α : Type} (S : List (List α)) (d : Nat) {i j : Nat} (a b : α) (h : i ≠ j) : set2 (set2 S d j a) d i b = set2 (set2 S d i b) d j a := by
  unfold set2
  rcases Nat.lt_or_ge d S.length with hd | hd
  · simp [List.getD, hd, List.set_comm _ _ h]
  · simp [List.set_eq_of_length_le hd]

theorem take_snoc {α : Type} (l : List α) {q : Nat} (h : q < l.length) : l.take (q + 1) = l.take q ++ [l[q]] := List.take_succ_eq_append_getElem h
end Go.Proofs.Ytlfgjnnecglleaa
