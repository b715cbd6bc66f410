/- 8 texts of this proof, one behind the other: AlT AlLe AlGift AlDrS AlBool AlFlat AlBe St2. The statement is proved in the claim's last text. -/
import Derived.Test.YtlnoacoanfhdcaaGreatDoorMLb
import Derived.Test.YtlnoacoanfhdcaaGreatDoorRows
namespace Go.Proofs.YtlnoacoanfhdcaaGreatDoor
open Go.RowKit
set_option linter.unusedVariables false
set_option maxRecDepth 100000

theorem cells_0 : Tryz.prog.cellsOf 0 = 1 := by kernel_rfl
theorem inf_0 : (Tryz.prog.info? 0).isSome = true := by kernel_rfl
theorem cells_1 : Tryz.prog.cellsOf 1 = 1 := by kernel_rfl
theorem zero_1 : zeroA Tryz.prog 1 = some [Value.nilFunc] := by kernel_rfl
theorem inf_1 : (Tryz.prog.info? 1).isSome = true := by kernel_rfl
theorem cells_2 : Tryz.prog.cellsOf 2 = 1 := by kernel_rfl
theorem zero_2 : zeroA Tryz.prog 2 = some [Value.int IntKind.i64 0] := by kernel_rfl
theorem inf_2 : (Tryz.prog.info? 2).isSome = true := by kernel_rfl
theorem cells_3 : Tryz.prog.cellsOf 3 = 1 := by kernel_rfl
theorem zero_3 : zeroA Tryz.prog 3 = some [Value.int IntKind.i64 0] := by kernel_rfl
theorem inf_3 : (Tryz.prog.info? 3).isSome = true := by kernel_rfl
theorem cells_4 : Tryz.prog.cellsOf 4 = 1 := by kernel_rfl
theorem zero_4 : zeroA Tryz.prog 4 = some [Value.bool false] := by kernel_rfl
theorem inf_4 : (Tryz.prog.info? 4).isSome = true := by kernel_rfl
theorem cells_5 : Tryz.prog.cellsOf 5 = 1 := by kernel_rfl
theorem zero_5 : zeroA Tryz.prog 5 = some [Value.int IntKind.u8 0] := by kernel_rfl
theorem inf_5 : (Tryz.prog.info? 5).isSome = true := by kernel_rfl
theorem cells_6 : Tryz.prog.cellsOf 6 = 1 := by kernel_rfl
theorem zero_6 : zeroA Tryz.prog 6 = some [Value.int IntKind.u8 0] := by kernel_rfl
theorem inf_6 : (Tryz.prog.info? 6).isSome = true := by kernel_rfl
theorem cells_7 : Tryz.prog.cellsOf 7 = 4 := by kernel_rfl
theorem zero_7 : zeroA Tryz.prog 7 = some [Value.int IntKind.i64 0, Value.int IntKind.i64 0, Value.bool false, Value.int IntKind.u8 0] := by kernel_rfl
theorem inf_7 : (Tryz.prog.info? 7).isSome = true := by kernel_rfl
theorem cells_8 : Tryz.prog.cellsOf 8 = 4 := by kernel_rfl
theorem zero_8 : zeroA Tryz.prog 8 = some [Value.int IntKind.i64 0, Value.int IntKind.i64 0, Value.bool false, Value.int IntKind.u8 0] := by kernel_rfl
theorem inf_8 : (Tryz.prog.info? 8).isSome = true := by kernel_rfl
theorem cells_9 : Tryz.prog.cellsOf 9 = 1 := by kernel_rfl
theorem zero_9 : zeroA Tryz.prog 9 = some [Value.string { data := #[] }] := by kernel_rfl
theorem inf_9 : (Tryz.prog.info? 9).isSome = true := by kernel_rfl
theorem cells_10 : Tryz.prog.cellsOf 10 = 1 := by kernel_rfl
theorem zero_10 : zeroA Tryz.prog 10 = some [Value.string { data := #[] }] := by kernel_rfl
theorem inf_10 : (Tryz.prog.info? 10).isSome = true := by kernel_rfl
theorem cells_11 : Tryz.prog.cellsOf 11 = 1 := by kernel_rfl
theorem zero_11 : zeroA Tryz.prog 11 = some [Value.string { data := #[] }] := by kernel_rfl
theorem inf_11 : (Tryz.prog.info? 11).isSome = true := by kernel_rfl
theorem cells_12 : Tryz.prog.cellsOf 12 = 1 := by kernel_rfl
theorem zero_12 : zeroA Tryz.prog 12 = some [Value.int IntKind.u64 0] := by kernel_rfl
theorem inf_12 : (Tryz.prog.info? 12).isSome = true := by kernel_rfl
theorem cells_13 : Tryz.prog.cellsOf 13 = 2 := by kernel_rfl
theorem zero_13 : zeroA Tryz.prog 13 = some [Value.string { data := #[] }, Value.int IntKind.u64 0] := by kernel_rfl
theorem inf_13 : (Tryz.prog.info? 13).isSome = true := by kernel_rfl
theorem cells_14 : Tryz.prog.cellsOf 14 = 2 := by kernel_rfl
theorem zero_14 : zeroA Tryz.prog 14 = some [Value.string { data := #[] }, Value.int IntKind.u64 0] := by kernel_rfl
theorem inf_14 : (Tryz.prog.info? 14).isSome = true := by kernel_rfl
theorem cells_15 : Tryz.prog.cellsOf 15 = 1 := by kernel_rfl
theorem zero_15 : zeroA Tryz.prog 15 = some [Value.pointer none] := by kernel_rfl
theorem inf_15 : (Tryz.prog.info? 15).isSome = true := by kernel_rfl
theorem cells_16 : Tryz.prog.cellsOf 16 = 1 := by kernel_rfl
theorem zero_16 : zeroA Tryz.prog 16 = some [Value.pointer none] := by kernel_rfl
theorem inf_16 : (Tryz.prog.info? 16).isSome = true := by kernel_rfl
theorem cells_17 : Tryz.prog.cellsOf 17 = 1 := by kernel_rfl
theorem zero_17 : zeroA Tryz.prog 17 = some [Value.pointer none] := by kernel_rfl
theorem inf_17 : (Tryz.prog.info? 17).isSome = true := by kernel_rfl
theorem cells_18 : Tryz.prog.cellsOf 18 = 1 := by kernel_rfl
theorem zero_18 : zeroA Tryz.prog 18 = some [Value.pointer none] := by kernel_rfl
theorem inf_18 : (Tryz.prog.info? 18).isSome = true := by kernel_rfl
theorem cells_19 : Tryz.prog.cellsOf 19 = 1 := by kernel_rfl
theorem zero_19 : zeroA Tryz.prog 19 = some [Value.pointer none] := by kernel_rfl
theorem inf_19 : (Tryz.prog.info? 19).isSome = true := by kernel_rfl
theorem cells_20 : Tryz.prog.cellsOf 20 = 1 := by kernel_rfl
theorem zero_20 : zeroA Tryz.prog 20 = some [Value.nilIface] := by kernel_rfl
theorem inf_20 : (Tryz.prog.info? 20).isSome = true := by kernel_rfl
theorem cells_21 : Tryz.prog.cellsOf 21 = 1 := by kernel_rfl
theorem zero_21 : zeroA Tryz.prog 21 = some [Value.int IntKind.i32 0] := by kernel_rfl
theorem inf_21 : (Tryz.prog.info? 21).isSome = true := by kernel_rfl
theorem cells_22 : Tryz.prog.cellsOf 22 = 1 := by kernel_rfl
theorem zero_22 : zeroA Tryz.prog 22 = some [Value.slice none 0 0] := by kernel_rfl
theorem inf_22 : (Tryz.prog.info? 22).isSome = true := by kernel_rfl
theorem elem_22 : elemOfT Tryz.prog 22 = 42 := by kernel_rfl
theorem app_22 : appOk Tryz.prog 22 42 16 = true := by kernel_rfl
theorem cells_23 : Tryz.prog.cellsOf 23 = 1 := by kernel_rfl
theorem zero_23 : zeroA Tryz.prog 23 = some [Value.slice none 0 0] := by kernel_rfl
theorem inf_23 : (Tryz.prog.info? 23).isSome = true := by kernel_rfl
theorem cells_24 : Tryz.prog.cellsOf 24 = 1 := by kernel_rfl
theorem zero_24 : zeroA Tryz.prog 24 = some [Value.slice none 0 0] := by kernel_rfl
theorem inf_24 : (Tryz.prog.info? 24).isSome = true := by kernel_rfl
theorem cells_25 : Tryz.prog.cellsOf 25 = 1 := by kernel_rfl
theorem zero_25 : zeroA Tryz.prog 25 = some [Value.nilFunc] := by kernel_rfl
theorem inf_25 : (Tryz.prog.info? 25).isSome = true := by kernel_rfl
theorem cells_26 : Tryz.prog.cellsOf 26 = 1 := by kernel_rfl
theorem zero_26 : zeroA Tryz.prog 26 = some [Value.nilFunc] := by kernel_rfl
theorem inf_26 : (Tryz.prog.info? 26).isSome = true := by kernel_rfl
theorem cells_27 : Tryz.prog.cellsOf 27 = 1 := by kernel_rfl
theorem zero_27 : zeroA Tryz.prog 27 = some [Value.nilFunc] := by kernel_rfl
theorem inf_27 : (Tryz.prog.info? 27).isSome = true := by kernel_rfl
theorem cells_28 : Tryz.prog.cellsOf 28 = 1 := by kernel_rfl
theorem zero_28 : zeroA Tryz.prog 28 = some [Value.nilFunc] := by kernel_rfl
theorem inf_28 : (Tryz.prog.info? 28).isSome = true := by kernel_rfl
theorem cells_29 : Tryz.prog.cellsOf 29 = 1 := by kernel_rfl
theorem zero_29 : zeroA Tryz.prog 29 = some [Value.nilFunc] := by kernel_rfl
theorem inf_29 : (Tryz.prog.info? 29).isSome = true := by kernel_rfl
theorem cells_30 : Tryz.prog.cellsOf 30 = 1 := by kernel_rfl
theorem zero_30 : zeroA Tryz.prog 30 = some [Value.slice none 0 0] := by kernel_rfl
theorem inf_30 : (Tryz.prog.info? 30).isSome = true := by kernel_rfl
theorem elem_30 : elemOfT Tryz.prog 30 = 9 := by kernel_rfl
theorem app_30 : appOk Tryz.prog 30 9 1 = true := by kernel_rfl
theorem cells_31 : Tryz.prog.cellsOf 31 = 2 := by kernel_rfl
theorem zero_31 : zeroA Tryz.prog 31 = some [Value.string { data := #[] }, Value.slice none 0 0] := by kernel_rfl
theorem inf_31 : (Tryz.prog.info? 31).isSome = true := by kernel_rfl
theorem cells_32 : Tryz.prog.cellsOf 32 = 2 := by kernel_rfl
theorem zero_32 : zeroA Tryz.prog 32 = some [Value.string { data := #[] }, Value.slice none 0 0] := by kernel_rfl
theorem inf_32 : (Tryz.prog.info? 32).isSome = true := by kernel_rfl
theorem cells_33 : Tryz.prog.cellsOf 33 = 1 := by kernel_rfl
theorem zero_33 : zeroA Tryz.prog 33 = some [Value.slice none 0 0] := by kernel_rfl
theorem inf_33 : (Tryz.prog.info? 33).isSome = true := by kernel_rfl
theorem elem_33 : elemOfT Tryz.prog 33 = 35 := by kernel_rfl
theorem app_33 : appOk Tryz.prog 33 35 8 = true := by kernel_rfl
theorem cells_34 : Tryz.prog.cellsOf 34 = 8 := by kernel_rfl
theorem zero_34 : zeroA Tryz.prog 34 = some [Value.int IntKind.u8 0, Value.int IntKind.i64 0, Value.string { data := #[] }, Value.string { data := #[] }, Value.string { data := #[] }, Value.slice none 0 0, Value.slice none 0 0, Value.int IntKind.i64 0] := by kernel_rfl
theorem inf_34 : (Tryz.prog.info? 34).isSome = true := by kernel_rfl
theorem cells_35 : Tryz.prog.cellsOf 35 = 8 := by kernel_rfl
theorem zero_35 : zeroA Tryz.prog 35 = some [Value.int IntKind.u8 0, Value.int IntKind.i64 0, Value.string { data := #[] }, Value.string { data := #[] }, Value.string { data := #[] }, Value.slice none 0 0, Value.slice none 0 0, Value.int IntKind.i64 0] := by kernel_rfl
theorem inf_35 : (Tryz.prog.info? 35).isSome = true := by kernel_rfl
theorem cells_36 : Tryz.prog.cellsOf 36 = 1 := by kernel_rfl
theorem zero_36 : zeroA Tryz.prog 36 = some [Value.slice none 0 0] := by kernel_rfl
theorem inf_36 : (Tryz.prog.info? 36).isSome = true := by kernel_rfl
theorem elem_36 : elemOfT Tryz.prog 36 = 38 := by kernel_rfl
theorem app_36 : appOk Tryz.prog 36 38 3 = true := by kernel_rfl
theorem cells_37 : Tryz.prog.cellsOf 37 = 3 := by kernel_rfl
theorem zero_37 : zeroA Tryz.prog 37 = some [Value.int IntKind.u8 0, Value.string { data := #[] }, Value.slice none 0 0] := by kernel_rfl
theorem inf_37 : (Tryz.prog.info? 37).isSome = true := by kernel_rfl
theorem cells_38 : Tryz.prog.cellsOf 38 = 3 := by kernel_rfl
theorem zero_38 : zeroA Tryz.prog 38 = some [Value.int IntKind.u8 0, Value.string { data := #[] }, Value.slice none 0 0] := by kernel_rfl
theorem inf_38 : (Tryz.prog.info? 38).isSome = true := by kernel_rfl
theorem cells_39 : Tryz.prog.cellsOf 39 = 1 := by kernel_rfl
theorem zero_39 : zeroA Tryz.prog 39 = some [Value.slice none 0 0] := by kernel_rfl
theorem inf_39 : (Tryz.prog.info? 39).isSome = true := by kernel_rfl
theorem elem_39 : elemOfT Tryz.prog 39 = 69 := by kernel_rfl
theorem app_39 : appOk Tryz.prog 39 69 4 = true := by kernel_rfl
theorem cells_40 : Tryz.prog.cellsOf 40 = 1 := by kernel_rfl
theorem zero_40 : zeroA Tryz.prog 40 = some [Value.slice none 0 0] := by kernel_rfl
theorem inf_40 : (Tryz.prog.info? 40).isSome = true := by kernel_rfl
theorem elem_40 : elemOfT Tryz.prog 40 = 81 := by kernel_rfl
theorem app_40 : appOk Tryz.prog 40 81 15 = true := by kernel_rfl
theorem cells_41 : Tryz.prog.cellsOf 41 = 16 := by kernel_rfl
theorem zero_41 : zeroA Tryz.prog 41 = some [Value.int IntKind.u8 0, Value.string { data := #[] }, Value.slice none 0 0, Value.int IntKind.u8 0, Value.string { data := #[] }, Value.slice none 0 0, Value.slice none 0 0, Value.int IntKind.u8 0, Value.int IntKind.i64 0, Value.string { data := #[] }, Value.string { data := #[] }, Value.string { data := #[] }, Value.slice none 0 0, Value.slice none 0 0, Value.int IntKind.i64 0, Value.int IntKind.i64 0] := by kernel_rfl
theorem inf_41 : (Tryz.prog.info? 41).isSome = true := by kernel_rfl
theorem cells_42 : Tryz.prog.cellsOf 42 = 16 := by kernel_rfl
theorem zero_42 : zeroA Tryz.prog 42 = some [Value.int IntKind.u8 0, Value.string { data := #[] }, Value.slice none 0 0, Value.int IntKind.u8 0, Value.string { data := #[] }, Value.slice none 0 0, Value.slice none 0 0, Value.int IntKind.u8 0, Value.int IntKind.i64 0, Value.string { data := #[] }, Value.string { data := #[] }, Value.string { data := #[] }, Value.slice none 0 0, Value.slice none 0 0, Value.int IntKind.i64 0, Value.int IntKind.i64 0] := by kernel_rfl
theorem inf_42 : (Tryz.prog.info? 42).isSome = true := by kernel_rfl
theorem cells_43 : Tryz.prog.cellsOf 43 = 1 := by kernel_rfl
theorem zero_43 : zeroA Tryz.prog 43 = some [Value.nilFunc] := by kernel_rfl
theorem inf_43 : (Tryz.prog.info? 43).isSome = true := by kernel_rfl
theorem cells_44 : Tryz.prog.cellsOf 44 = 1 := by kernel_rfl
theorem zero_44 : zeroA Tryz.prog 44 = some [Value.nilFunc] := by kernel_rfl
theorem inf_44 : (Tryz.prog.info? 44).isSome = true := by kernel_rfl
theorem cells_45 : Tryz.prog.cellsOf 45 = 1 := by kernel_rfl
theorem zero_45 : zeroA Tryz.prog 45 = some [Value.nilFunc] := by kernel_rfl
theorem inf_45 : (Tryz.prog.info? 45).isSome = true := by kernel_rfl
theorem cells_46 : Tryz.prog.cellsOf 46 = 1 := by kernel_rfl
theorem zero_46 : zeroA Tryz.prog 46 = some [Value.nilFunc] := by kernel_rfl
theorem inf_46 : (Tryz.prog.info? 46).isSome = true := by kernel_rfl
theorem cells_47 : Tryz.prog.cellsOf 47 = 1 := by kernel_rfl
theorem zero_47 : zeroA Tryz.prog 47 = some [Value.nilFunc] := by kernel_rfl
theorem inf_47 : (Tryz.prog.info? 47).isSome = true := by kernel_rfl
theorem cells_48 : Tryz.prog.cellsOf 48 = 1 := by kernel_rfl
theorem zero_48 : zeroA Tryz.prog 48 = some [Value.pointer none] := by kernel_rfl
theorem inf_48 : (Tryz.prog.info? 48).isSome = true := by kernel_rfl
theorem cells_49 : Tryz.prog.cellsOf 49 = 1 := by kernel_rfl
theorem zero_49 : zeroA Tryz.prog 49 = some [Value.int IntKind.i64 0] := by kernel_rfl
theorem inf_49 : (Tryz.prog.info? 49).isSome = true := by kernel_rfl
theorem cells_50 : Tryz.prog.cellsOf 50 = 1 := by kernel_rfl
theorem zero_50 : zeroA Tryz.prog 50 = some [Value.int IntKind.i64 0] := by kernel_rfl
theorem inf_50 : (Tryz.prog.info? 50).isSome = true := by kernel_rfl
theorem cells_51 : Tryz.prog.cellsOf 51 = 1 := by kernel_rfl
theorem zero_51 : zeroA Tryz.prog 51 = some [Value.nilFunc] := by kernel_rfl
theorem inf_51 : (Tryz.prog.info? 51).isSome = true := by kernel_rfl
theorem cells_52 : Tryz.prog.cellsOf 52 = 1 := by kernel_rfl
theorem zero_52 : zeroA Tryz.prog 52 = some [Value.nilFunc] := by kernel_rfl
theorem inf_52 : (Tryz.prog.info? 52).isSome = true := by kernel_rfl
theorem cells_53 : Tryz.prog.cellsOf 53 = 1 := by kernel_rfl
theorem zero_53 : zeroA Tryz.prog 53 = some [Value.nilFunc] := by kernel_rfl
theorem inf_53 : (Tryz.prog.info? 53).isSome = true := by kernel_rfl
theorem cells_54 : Tryz.prog.cellsOf 54 = 1 := by kernel_rfl
theorem zero_54 : zeroA Tryz.prog 54 = some [Value.nilFunc] := by kernel_rfl
theorem inf_54 : (Tryz.prog.info? 54).isSome = true := by kernel_rfl
theorem cells_55 : Tryz.prog.cellsOf 55 = 1 := by kernel_rfl
theorem zero_55 : zeroA Tryz.prog 55 = some [Value.nilFunc] := by kernel_rfl
theorem inf_55 : (Tryz.prog.info? 55).isSome = true := by kernel_rfl
theorem cells_56 : Tryz.prog.cellsOf 56 = 1 := by kernel_rfl
theorem zero_56 : zeroA Tryz.prog 56 = some [Value.nilFunc] := by kernel_rfl
theorem inf_56 : (Tryz.prog.info? 56).isSome = true := by kernel_rfl
theorem cells_57 : Tryz.prog.cellsOf 57 = 1 := by kernel_rfl
theorem zero_57 : zeroA Tryz.prog 57 = some [Value.pointer none] := by kernel_rfl
theorem inf_57 : (Tryz.prog.info? 57).isSome = true := by kernel_rfl
theorem cells_58 : Tryz.prog.cellsOf 58 = 1 := by kernel_rfl
theorem zero_58 : zeroA Tryz.prog 58 = some [Value.nilFunc] := by kernel_rfl
theorem inf_58 : (Tryz.prog.info? 58).isSome = true := by kernel_rfl
theorem cells_59 : Tryz.prog.cellsOf 59 = 1 := by kernel_rfl
theorem zero_59 : zeroA Tryz.prog 59 = some [Value.nilFunc] := by kernel_rfl
theorem inf_59 : (Tryz.prog.info? 59).isSome = true := by kernel_rfl
theorem cells_60 : Tryz.prog.cellsOf 60 = 1 := by kernel_rfl
theorem zero_60 : zeroA Tryz.prog 60 = some [Value.nilFunc] := by kernel_rfl
theorem inf_60 : (Tryz.prog.info? 60).isSome = true := by kernel_rfl
theorem cells_61 : Tryz.prog.cellsOf 61 = 1 := by kernel_rfl
theorem zero_61 : zeroA Tryz.prog 61 = some [Value.nilFunc] := by kernel_rfl
theorem inf_61 : (Tryz.prog.info? 61).isSome = true := by kernel_rfl
theorem cells_62 : Tryz.prog.cellsOf 62 = 1 := by kernel_rfl
theorem zero_62 : zeroA Tryz.prog 62 = some [Value.nilFunc] := by kernel_rfl
theorem inf_62 : (Tryz.prog.info? 62).isSome = true := by kernel_rfl
theorem cells_63 : Tryz.prog.cellsOf 63 = 1 := by kernel_rfl
theorem zero_63 : zeroA Tryz.prog 63 = some [Value.nilFunc] := by kernel_rfl
theorem inf_63 : (Tryz.prog.info? 63).isSome = true := by kernel_rfl
theorem cells_64 : Tryz.prog.cellsOf 64 = 1 := by kernel_rfl
theorem zero_64 : zeroA Tryz.prog 64 = some [Value.nilFunc] := by kernel_rfl
theorem inf_64 : (Tryz.prog.info? 64).isSome = true := by kernel_rfl
theorem cells_65 : Tryz.prog.cellsOf 65 = 1 := by kernel_rfl
theorem zero_65 : zeroA Tryz.prog 65 = some [Value.nilFunc] := by kernel_rfl
theorem inf_65 : (Tryz.prog.info? 65).isSome = true := by kernel_rfl
theorem cells_66 : Tryz.prog.cellsOf 66 = 1 := by kernel_rfl
theorem zero_66 : zeroA Tryz.prog 66 = some [Value.nilFunc] := by kernel_rfl
theorem inf_66 : (Tryz.prog.info? 66).isSome = true := by kernel_rfl
theorem cells_67 : Tryz.prog.cellsOf 67 = 1 := by kernel_rfl
theorem zero_67 : zeroA Tryz.prog 67 = some [Value.nilFunc] := by kernel_rfl
theorem inf_67 : (Tryz.prog.info? 67).isSome = true := by kernel_rfl
theorem cells_68 : Tryz.prog.cellsOf 68 = 4 := by kernel_rfl
theorem zero_68 : zeroA Tryz.prog 68 = some [Value.string { data := #[] }, Value.int IntKind.u8 0, Value.string { data := #[] }, Value.slice none 0 0] := by kernel_rfl
theorem inf_68 : (Tryz.prog.info? 68).isSome = true := by kernel_rfl
theorem cells_69 : Tryz.prog.cellsOf 69 = 4 := by kernel_rfl
theorem zero_69 : zeroA Tryz.prog 69 = some [Value.string { data := #[] }, Value.int IntKind.u8 0, Value.string { data := #[] }, Value.slice none 0 0] := by kernel_rfl
theorem inf_69 : (Tryz.prog.info? 69).isSome = true := by kernel_rfl
theorem cells_70 : Tryz.prog.cellsOf 70 = 1 := by kernel_rfl
theorem zero_70 : zeroA Tryz.prog 70 = some [Value.nilFunc] := by kernel_rfl
theorem inf_70 : (Tryz.prog.info? 70).isSome = true := by kernel_rfl
theorem cells_71 : Tryz.prog.cellsOf 71 = 1 := by kernel_rfl
theorem zero_71 : zeroA Tryz.prog 71 = some [Value.nilFunc] := by kernel_rfl
theorem inf_71 : (Tryz.prog.info? 71).isSome = true := by kernel_rfl
theorem cells_72 : Tryz.prog.cellsOf 72 = 1 := by kernel_rfl
theorem zero_72 : zeroA Tryz.prog 72 = some [Value.nilFunc] := by kernel_rfl
theorem inf_72 : (Tryz.prog.info? 72).isSome = true := by kernel_rfl
theorem cells_73 : Tryz.prog.cellsOf 73 = 1 := by kernel_rfl
theorem zero_73 : zeroA Tryz.prog 73 = some [Value.nilFunc] := by kernel_rfl
theorem inf_73 : (Tryz.prog.info? 73).isSome = true := by kernel_rfl
theorem cells_74 : Tryz.prog.cellsOf 74 = 1 := by kernel_rfl
theorem zero_74 : zeroA Tryz.prog 74 = some [Value.nilFunc] := by kernel_rfl
theorem inf_74 : (Tryz.prog.info? 74).isSome = true := by kernel_rfl
theorem cells_75 : Tryz.prog.cellsOf 75 = 1 := by kernel_rfl
theorem zero_75 : zeroA Tryz.prog 75 = some [Value.nilFunc] := by kernel_rfl
theorem inf_75 : (Tryz.prog.info? 75).isSome = true := by kernel_rfl
theorem cells_76 : Tryz.prog.cellsOf 76 = 1 := by kernel_rfl
theorem zero_76 : zeroA Tryz.prog 76 = some [Value.nilFunc] := by kernel_rfl
theorem inf_76 : (Tryz.prog.info? 76).isSome = true := by kernel_rfl
theorem cells_77 : Tryz.prog.cellsOf 77 = 1 := by kernel_rfl
theorem zero_77 : zeroA Tryz.prog 77 = some [Value.nilFunc] := by kernel_rfl
theorem inf_77 : (Tryz.prog.info? 77).isSome = true := by kernel_rfl
theorem cells_78 : Tryz.prog.cellsOf 78 = 1 := by kernel_rfl
theorem zero_78 : zeroA Tryz.prog 78 = some [Value.nilFunc] := by kernel_rfl
theorem inf_78 : (Tryz.prog.info? 78).isSome = true := by kernel_rfl
theorem cells_79 : Tryz.prog.cellsOf 79 = 1 := by kernel_rfl
theorem zero_79 : zeroA Tryz.prog 79 = some [Value.slice none 0 0] := by kernel_rfl
theorem inf_79 : (Tryz.prog.info? 79).isSome = true := by kernel_rfl
theorem elem_79 : elemOfT Tryz.prog 79 = 84 := by kernel_rfl
theorem app_79 : appOk Tryz.prog 79 84 3 = true := by kernel_rfl
theorem cells_80 : Tryz.prog.cellsOf 80 = 15 := by kernel_rfl
theorem zero_80 : zeroA Tryz.prog 80 = some [Value.int IntKind.u8 0, Value.string { data := #[] }, Value.string { data := #[] }, Value.slice none 0 0, Value.int IntKind.u8 0, Value.string { data := #[] }, Value.slice none 0 0, Value.int IntKind.i64 0, Value.string { data := #[] }, Value.slice none 0 0, Value.slice none 0 0, Value.slice none 0 0, Value.slice none 0 0, Value.slice none 0 0, Value.int IntKind.i64 0] := by kernel_rfl
theorem inf_80 : (Tryz.prog.info? 80).isSome = true := by kernel_rfl
theorem cells_81 : Tryz.prog.cellsOf 81 = 15 := by kernel_rfl
theorem zero_81 : zeroA Tryz.prog 81 = some [Value.int IntKind.u8 0, Value.string { data := #[] }, Value.string { data := #[] }, Value.slice none 0 0, Value.int IntKind.u8 0, Value.string { data := #[] }, Value.slice none 0 0, Value.int IntKind.i64 0, Value.string { data := #[] }, Value.slice none 0 0, Value.slice none 0 0, Value.slice none 0 0, Value.slice none 0 0, Value.slice none 0 0, Value.int IntKind.i64 0] := by kernel_rfl
theorem inf_81 : (Tryz.prog.info? 81).isSome = true := by kernel_rfl
theorem cells_82 : Tryz.prog.cellsOf 82 = 1 := by kernel_rfl
theorem zero_82 : zeroA Tryz.prog 82 = some [Value.nilFunc] := by kernel_rfl
theorem inf_82 : (Tryz.prog.info? 82).isSome = true := by kernel_rfl
theorem cells_83 : Tryz.prog.cellsOf 83 = 3 := by kernel_rfl
theorem zero_83 : zeroA Tryz.prog 83 = some [Value.string { data := #[] }, Value.string { data := #[] }, Value.slice none 0 0] := by kernel_rfl
theorem inf_83 : (Tryz.prog.info? 83).isSome = true := by kernel_rfl
theorem cells_84 : Tryz.prog.cellsOf 84 = 3 := by kernel_rfl
theorem zero_84 : zeroA Tryz.prog 84 = some [Value.string { data := #[] }, Value.string { data := #[] }, Value.slice none 0 0] := by kernel_rfl
theorem inf_84 : (Tryz.prog.info? 84).isSome = true := by kernel_rfl
theorem cells_85 : Tryz.prog.cellsOf 85 = 1 := by kernel_rfl
theorem zero_85 : zeroA Tryz.prog 85 = some [Value.pointer none] := by kernel_rfl
theorem inf_85 : (Tryz.prog.info? 85).isSome = true := by kernel_rfl
theorem cells_86 : Tryz.prog.cellsOf 86 = 1 := by kernel_rfl
theorem zero_86 : zeroA Tryz.prog 86 = some [Value.slice none 0 0] := by kernel_rfl
theorem inf_86 : (Tryz.prog.info? 86).isSome = true := by kernel_rfl
theorem elem_86 : elemOfT Tryz.prog 86 = 5 := by kernel_rfl
theorem app_86 : appOk Tryz.prog 86 5 1 = true := by kernel_rfl
theorem cells_87 : Tryz.prog.cellsOf 87 = 2 := by kernel_rfl
theorem zero_87 : zeroA Tryz.prog 87 = some [Value.pointer none, Value.slice none 0 0] := by kernel_rfl
theorem inf_87 : (Tryz.prog.info? 87).isSome = true := by kernel_rfl
theorem cells_88 : Tryz.prog.cellsOf 88 = 2 := by kernel_rfl
theorem zero_88 : zeroA Tryz.prog 88 = some [Value.pointer none, Value.slice none 0 0] := by kernel_rfl
theorem inf_88 : (Tryz.prog.info? 88).isSome = true := by kernel_rfl
theorem cells_89 : Tryz.prog.cellsOf 89 = 3 := by kernel_rfl
theorem zero_89 : zeroA Tryz.prog 89 = some [Value.pointer none, Value.slice none 0 0, Value.bool false] := by kernel_rfl
theorem inf_89 : (Tryz.prog.info? 89).isSome = true := by kernel_rfl
theorem cells_90 : Tryz.prog.cellsOf 90 = 3 := by kernel_rfl
theorem zero_90 : zeroA Tryz.prog 90 = some [Value.pointer none, Value.slice none 0 0, Value.bool false] := by kernel_rfl
theorem inf_90 : (Tryz.prog.info? 90).isSome = true := by kernel_rfl
theorem cells_91 : Tryz.prog.cellsOf 91 = 3 := by kernel_rfl
theorem zero_91 : zeroA Tryz.prog 91 = some [Value.pointer none, Value.slice none 0 0, Value.bool false] := by kernel_rfl
theorem inf_91 : (Tryz.prog.info? 91).isSome = true := by kernel_rfl
theorem cells_92 : Tryz.prog.cellsOf 92 = 3 := by kernel_rfl
theorem zero_92 : zeroA Tryz.prog 92 = some [Value.pointer none, Value.slice none 0 0, Value.bool false] := by kernel_rfl
theorem inf_92 : (Tryz.prog.info? 92).isSome = true := by kernel_rfl
theorem cells_93 : Tryz.prog.cellsOf 93 = 1 := by kernel_rfl
theorem zero_93 : zeroA Tryz.prog 93 = some [Value.nilFunc] := by kernel_rfl
theorem inf_93 : (Tryz.prog.info? 93).isSome = true := by kernel_rfl
theorem cells_94 : Tryz.prog.cellsOf 94 = 1 := by kernel_rfl
theorem zero_94 : zeroA Tryz.prog 94 = some [Value.nilFunc] := by kernel_rfl
theorem inf_94 : (Tryz.prog.info? 94).isSome = true := by kernel_rfl
theorem cells_95 : Tryz.prog.cellsOf 95 = 1 := by kernel_rfl
theorem zero_95 : zeroA Tryz.prog 95 = some [Value.nilFunc] := by kernel_rfl
theorem inf_95 : (Tryz.prog.info? 95).isSome = true := by kernel_rfl
theorem cells_96 : Tryz.prog.cellsOf 96 = 1 := by kernel_rfl
theorem zero_96 : zeroA Tryz.prog 96 = some [Value.nilFunc] := by kernel_rfl
theorem inf_96 : (Tryz.prog.info? 96).isSome = true := by kernel_rfl
theorem cells_97 : Tryz.prog.cellsOf 97 = 1 := by kernel_rfl
theorem zero_97 : zeroA Tryz.prog 97 = some [Value.nilFunc] := by kernel_rfl
theorem inf_97 : (Tryz.prog.info? 97).isSome = true := by kernel_rfl
theorem cells_98 : Tryz.prog.cellsOf 98 = 1 := by kernel_rfl
theorem zero_98 : zeroA Tryz.prog 98 = some [Value.nilFunc] := by kernel_rfl
theorem inf_98 : (Tryz.prog.info? 98).isSome = true := by kernel_rfl
theorem cells_99 : Tryz.prog.cellsOf 99 = 1 := by kernel_rfl
theorem zero_99 : zeroA Tryz.prog 99 = some [Value.nilFunc] := by kernel_rfl
theorem inf_99 : (Tryz.prog.info? 99).isSome = true := by kernel_rfl
theorem cells_100 : Tryz.prog.cellsOf 100 = 1 := by kernel_rfl
theorem zero_100 : zeroA Tryz.prog 100 = some [Value.nilFunc] := by kernel_rfl
theorem inf_100 : (Tryz.prog.info? 100).isSome = true := by kernel_rfl
theorem cells_101 : Tryz.prog.cellsOf 101 = 1 := by kernel_rfl
theorem zero_101 : zeroA Tryz.prog 101 = some [Value.nilFunc] := by kernel_rfl
theorem inf_101 : (Tryz.prog.info? 101).isSome = true := by kernel_rfl
theorem cells_102 : Tryz.prog.cellsOf 102 = 1 := by kernel_rfl
theorem zero_102 : zeroA Tryz.prog 102 = some [Value.nilFunc] := by kernel_rfl
theorem inf_102 : (Tryz.prog.info? 102).isSome = true := by kernel_rfl
theorem cells_103 : Tryz.prog.cellsOf 103 = 1 := by kernel_rfl
theorem zero_103 : zeroA Tryz.prog 103 = some [Value.nilFunc] := by kernel_rfl
theorem inf_103 : (Tryz.prog.info? 103).isSome = true := by kernel_rfl
theorem cells_104 : Tryz.prog.cellsOf 104 = 1 := by kernel_rfl
theorem zero_104 : zeroA Tryz.prog 104 = some [Value.nilFunc] := by kernel_rfl
theorem inf_104 : (Tryz.prog.info? 104).isSome = true := by kernel_rfl
theorem cells_105 : Tryz.prog.cellsOf 105 = 1 := by kernel_rfl
theorem zero_105 : zeroA Tryz.prog 105 = some [Value.nilFunc] := by kernel_rfl
theorem inf_105 : (Tryz.prog.info? 105).isSome = true := by kernel_rfl
theorem cells_106 : Tryz.prog.cellsOf 106 = 1 := by kernel_rfl
theorem zero_106 : zeroA Tryz.prog 106 = some [Value.nilFunc] := by kernel_rfl
theorem inf_106 : (Tryz.prog.info? 106).isSome = true := by kernel_rfl
theorem cells_107 : Tryz.prog.cellsOf 107 = 1 := by kernel_rfl
theorem zero_107 : zeroA Tryz.prog 107 = some [Value.nilFunc] := by kernel_rfl
theorem inf_107 : (Tryz.prog.info? 107).isSome = true := by kernel_rfl
theorem cells_108 : Tryz.prog.cellsOf 108 = 1 := by kernel_rfl
theorem zero_108 : zeroA Tryz.prog 108 = some [Value.nilFunc] := by kernel_rfl
theorem inf_108 : (Tryz.prog.info? 108).isSome = true := by kernel_rfl
theorem cells_109 : Tryz.prog.cellsOf 109 = 1 := by kernel_rfl
theorem zero_109 : zeroA Tryz.prog 109 = some [Value.nilFunc] := by kernel_rfl
theorem inf_109 : (Tryz.prog.info? 109).isSome = true := by kernel_rfl
theorem cells_110 : Tryz.prog.cellsOf 110 = 1 := by kernel_rfl
theorem zero_110 : zeroA Tryz.prog 110 = some [Value.nilFunc] := by kernel_rfl
theorem inf_110 : (Tryz.prog.info? 110).isSome = true := by kernel_rfl
theorem cells_111 : Tryz.prog.cellsOf 111 = 1 := by kernel_rfl
theorem zero_111 : zeroA Tryz.prog 111 = some [Value.nilFunc] := by kernel_rfl
theorem inf_111 : (Tryz.prog.info? 111).isSome = true := by kernel_rfl
theorem cells_112 : Tryz.prog.cellsOf 112 = 1 := by kernel_rfl
theorem zero_112 : zeroA Tryz.prog 112 = some [Value.nilFunc] := by kernel_rfl
theorem inf_112 : (Tryz.prog.info? 112).isSome = true := by kernel_rfl
theorem cells_113 : Tryz.prog.cellsOf 113 = 1 := by kernel_rfl
theorem zero_113 : zeroA Tryz.prog 113 = some [Value.nilFunc] := by kernel_rfl
theorem inf_113 : (Tryz.prog.info? 113).isSome = true := by kernel_rfl
theorem cells_114 : Tryz.prog.cellsOf 114 = 1 := by kernel_rfl
theorem zero_114 : zeroA Tryz.prog 114 = some [Value.nilFunc] := by kernel_rfl
theorem inf_114 : (Tryz.prog.info? 114).isSome = true := by kernel_rfl
theorem cells_115 : Tryz.prog.cellsOf 115 = 1 := by kernel_rfl
theorem zero_115 : zeroA Tryz.prog 115 = some [Value.nilFunc] := by kernel_rfl
theorem inf_115 : (Tryz.prog.info? 115).isSome = true := by kernel_rfl
theorem cells_116 : Tryz.prog.cellsOf 116 = 1 := by kernel_rfl
theorem zero_116 : zeroA Tryz.prog 116 = some [Value.nilFunc] := by kernel_rfl
theorem inf_116 : (Tryz.prog.info? 116).isSome = true := by kernel_rfl
theorem cells_117 : Tryz.prog.cellsOf 117 = 1 := by kernel_rfl
theorem zero_117 : zeroA Tryz.prog 117 = some [Value.nilFunc] := by kernel_rfl
theorem inf_117 : (Tryz.prog.info? 117).isSome = true := by kernel_rfl
theorem cells_118 : Tryz.prog.cellsOf 118 = 1 := by kernel_rfl
theorem zero_118 : zeroA Tryz.prog 118 = some [Value.nilFunc] := by kernel_rfl
theorem inf_118 : (Tryz.prog.info? 118).isSome = true := by kernel_rfl
theorem cells_119 : Tryz.prog.cellsOf 119 = 1 := by kernel_rfl
theorem zero_119 : zeroA Tryz.prog 119 = some [Value.nilFunc] := by kernel_rfl
theorem inf_119 : (Tryz.prog.info? 119).isSome = true := by kernel_rfl
theorem cells_120 : Tryz.prog.cellsOf 120 = 1 := by kernel_rfl
theorem zero_120 : zeroA Tryz.prog 120 = some [Value.nilFunc] := by kernel_rfl
theorem inf_120 : (Tryz.prog.info? 120).isSome = true := by kernel_rfl
theorem cells_121 : Tryz.prog.cellsOf 121 = 1 := by kernel_rfl
theorem zero_121 : zeroA Tryz.prog 121 = some [Value.nilFunc] := by kernel_rfl
theorem inf_121 : (Tryz.prog.info? 121).isSome = true := by kernel_rfl
theorem cells_122 : Tryz.prog.cellsOf 122 = 1 := by kernel_rfl
theorem zero_122 : zeroA Tryz.prog 122 = some [Value.nilFunc] := by kernel_rfl
theorem inf_122 : (Tryz.prog.info? 122).isSome = true := by kernel_rfl
theorem cells_123 : Tryz.prog.cellsOf 123 = 1 := by kernel_rfl
theorem zero_123 : zeroA Tryz.prog 123 = some [Value.nilFunc] := by kernel_rfl
theorem inf_123 : (Tryz.prog.info? 123).isSome = true := by kernel_rfl
theorem cells_124 : Tryz.prog.cellsOf 124 = 1 := by kernel_rfl
theorem zero_124 : zeroA Tryz.prog 124 = some [Value.nilFunc] := by kernel_rfl
theorem inf_124 : (Tryz.prog.info? 124).isSome = true := by kernel_rfl
theorem cells_125 : Tryz.prog.cellsOf 125 = 2 := by kernel_rfl
theorem zero_125 : zeroA Tryz.prog 125 = some [Value.string { data := #[] }, Value.int IntKind.i64 0] := by kernel_rfl
theorem inf_125 : (Tryz.prog.info? 125).isSome = true := by kernel_rfl
theorem cells_126 : Tryz.prog.cellsOf 126 = 2 := by kernel_rfl
theorem zero_126 : zeroA Tryz.prog 126 = some [Value.string { data := #[] }, Value.int IntKind.i64 0] := by kernel_rfl
theorem inf_126 : (Tryz.prog.info? 126).isSome = true := by kernel_rfl
theorem cells_127 : Tryz.prog.cellsOf 127 = 1 := by kernel_rfl
theorem zero_127 : zeroA Tryz.prog 127 = some [Value.nilFunc] := by kernel_rfl
theorem inf_127 : (Tryz.prog.info? 127).isSome = true := by kernel_rfl
theorem cells_128 : Tryz.prog.cellsOf 128 = 1 := by kernel_rfl
theorem zero_128 : zeroA Tryz.prog 128 = some [Value.nilFunc] := by kernel_rfl
theorem inf_128 : (Tryz.prog.info? 128).isSome = true := by kernel_rfl
theorem cells_129 : Tryz.prog.cellsOf 129 = 1 := by kernel_rfl
theorem zero_129 : zeroA Tryz.prog 129 = some [Value.nilFunc] := by kernel_rfl
theorem inf_129 : (Tryz.prog.info? 129).isSome = true := by kernel_rfl
theorem cells_130 : Tryz.prog.cellsOf 130 = 1 := by kernel_rfl
theorem zero_130 : zeroA Tryz.prog 130 = some [Value.pointer none] := by kernel_rfl
theorem inf_130 : (Tryz.prog.info? 130).isSome = true := by kernel_rfl
theorem cells_131 : Tryz.prog.cellsOf 131 = 1 := by kernel_rfl
theorem zero_131 : zeroA Tryz.prog 131 = some [Value.pointer none] := by kernel_rfl
theorem inf_131 : (Tryz.prog.info? 131).isSome = true := by kernel_rfl
theorem cells_132 : Tryz.prog.cellsOf 132 = 1 := by kernel_rfl
theorem zero_132 : zeroA Tryz.prog 132 = some [Value.nilIface] := by kernel_rfl
theorem inf_132 : (Tryz.prog.info? 132).isSome = true := by kernel_rfl
theorem cells_133 : Tryz.prog.cellsOf 133 = 1 := by kernel_rfl
theorem zero_133 : zeroA Tryz.prog 133 = some [Value.nilIface] := by kernel_rfl
theorem inf_133 : (Tryz.prog.info? 133).isSome = true := by kernel_rfl
theorem cells_134 : Tryz.prog.cellsOf 134 = 1 := by kernel_rfl
theorem zero_134 : zeroA Tryz.prog 134 = some [Value.nilFunc] := by kernel_rfl
theorem inf_134 : (Tryz.prog.info? 134).isSome = true := by kernel_rfl
theorem cells_135 : Tryz.prog.cellsOf 135 = 1 := by kernel_rfl
theorem inf_135 : (Tryz.prog.info? 135).isSome = true := by kernel_rfl
theorem cells_136 : Tryz.prog.cellsOf 136 = 1 := by kernel_rfl
theorem zero_136 : zeroA Tryz.prog 136 = some [Value.nilFunc] := by kernel_rfl
theorem inf_136 : (Tryz.prog.info? 136).isSome = true := by kernel_rfl
theorem cells_137 : Tryz.prog.cellsOf 137 = 1 := by kernel_rfl
theorem zero_137 : zeroA Tryz.prog 137 = some [Value.nilFunc] := by kernel_rfl
theorem inf_137 : (Tryz.prog.info? 137).isSome = true := by kernel_rfl
theorem cells_138 : Tryz.prog.cellsOf 138 = 1 := by kernel_rfl
theorem zero_138 : zeroA Tryz.prog 138 = some [Value.nilFunc] := by kernel_rfl
theorem inf_138 : (Tryz.prog.info? 138).isSome = true := by kernel_rfl
theorem cells_139 : Tryz.prog.cellsOf 139 = 1 := by kernel_rfl
theorem zero_139 : zeroA Tryz.prog 139 = some [Value.nilFunc] := by kernel_rfl
theorem inf_139 : (Tryz.prog.info? 139).isSome = true := by kernel_rfl
theorem cells_140 : Tryz.prog.cellsOf 140 = 1 := by kernel_rfl
theorem zero_140 : zeroA Tryz.prog 140 = some [Value.nilFunc] := by kernel_rfl
theorem inf_140 : (Tryz.prog.info? 140).isSome = true := by kernel_rfl
theorem cells_141 : Tryz.prog.cellsOf 141 = 3 := by kernel_rfl
theorem zero_141 : zeroA Tryz.prog 141 = some [Value.bool false, Value.int IntKind.i64 0, Value.int IntKind.i64 0] := by kernel_rfl
theorem inf_141 : (Tryz.prog.info? 141).isSome = true := by kernel_rfl
theorem cells_142 : Tryz.prog.cellsOf 142 = 3 := by kernel_rfl
theorem zero_142 : zeroA Tryz.prog 142 = some [Value.bool false, Value.int IntKind.i64 0, Value.int IntKind.i64 0] := by kernel_rfl
theorem inf_142 : (Tryz.prog.info? 142).isSome = true := by kernel_rfl
theorem cells_143 : Tryz.prog.cellsOf 143 = 1 := by kernel_rfl
theorem inf_143 : (Tryz.prog.info? 143).isSome = true := by kernel_rfl
theorem cells_144 : Tryz.prog.cellsOf 144 = 1 := by kernel_rfl
theorem zero_144 : zeroA Tryz.prog 144 = some [Value.nilFunc] := by kernel_rfl
theorem inf_144 : (Tryz.prog.info? 144).isSome = true := by kernel_rfl
theorem cells_145 : Tryz.prog.cellsOf 145 = 1 := by kernel_rfl
theorem zero_145 : zeroA Tryz.prog 145 = some [Value.nilFunc] := by kernel_rfl
theorem inf_145 : (Tryz.prog.info? 145).isSome = true := by kernel_rfl
theorem cells_146 : Tryz.prog.cellsOf 146 = 1 := by kernel_rfl
theorem zero_146 : zeroA Tryz.prog 146 = some [Value.nilFunc] := by kernel_rfl
theorem inf_146 : (Tryz.prog.info? 146).isSome = true := by kernel_rfl
theorem cells_147 : Tryz.prog.cellsOf 147 = 10 := by kernel_rfl
theorem zero_147 : zeroA Tryz.prog 147 = some [Value.int IntKind.i64 0, Value.int IntKind.i64 0, Value.bool false, Value.bool false, Value.bool false, Value.bool false, Value.bool false, Value.bool false, Value.nilFunc, Value.nilFunc] := by kernel_rfl
theorem inf_147 : (Tryz.prog.info? 147).isSome = true := by kernel_rfl
theorem cells_148 : Tryz.prog.cellsOf 148 = 10 := by kernel_rfl
theorem zero_148 : zeroA Tryz.prog 148 = some [Value.int IntKind.i64 0, Value.int IntKind.i64 0, Value.bool false, Value.bool false, Value.bool false, Value.bool false, Value.bool false, Value.bool false, Value.nilFunc, Value.nilFunc] := by kernel_rfl
theorem inf_148 : (Tryz.prog.info? 148).isSome = true := by kernel_rfl
theorem cells_149 : Tryz.prog.cellsOf 149 = 1 := by kernel_rfl
theorem inf_149 : (Tryz.prog.info? 149).isSome = true := by kernel_rfl
theorem cells_150 : Tryz.prog.cellsOf 150 = 1 := by kernel_rfl
theorem zero_150 : zeroA Tryz.prog 150 = some [Value.nilFunc] := by kernel_rfl
theorem inf_150 : (Tryz.prog.info? 150).isSome = true := by kernel_rfl
theorem cells_151 : Tryz.prog.cellsOf 151 = 1 := by kernel_rfl
theorem zero_151 : zeroA Tryz.prog 151 = some [Value.nilFunc] := by kernel_rfl
theorem inf_151 : (Tryz.prog.info? 151).isSome = true := by kernel_rfl
theorem cells_152 : Tryz.prog.cellsOf 152 = 1 := by kernel_rfl
theorem zero_152 : zeroA Tryz.prog 152 = some [Value.nilFunc] := by kernel_rfl
theorem inf_152 : (Tryz.prog.info? 152).isSome = true := by kernel_rfl
theorem cells_153 : Tryz.prog.cellsOf 153 = 1 := by kernel_rfl
theorem zero_153 : zeroA Tryz.prog 153 = some [Value.nilFunc] := by kernel_rfl
theorem inf_153 : (Tryz.prog.info? 153).isSome = true := by kernel_rfl
theorem cells_154 : Tryz.prog.cellsOf 154 = 1 := by kernel_rfl
theorem zero_154 : zeroA Tryz.prog 154 = some [Value.nilFunc] := by kernel_rfl
theorem inf_154 : (Tryz.prog.info? 154).isSome = true := by kernel_rfl
theorem cells_155 : Tryz.prog.cellsOf 155 = 1 := by kernel_rfl
theorem zero_155 : zeroA Tryz.prog 155 = some [Value.nilFunc] := by kernel_rfl
theorem inf_155 : (Tryz.prog.info? 155).isSome = true := by kernel_rfl
theorem cells_156 : Tryz.prog.cellsOf 156 = 1 := by kernel_rfl
theorem zero_156 : zeroA Tryz.prog 156 = some [Value.nilFunc] := by kernel_rfl
theorem inf_156 : (Tryz.prog.info? 156).isSome = true := by kernel_rfl
theorem cells_157 : Tryz.prog.cellsOf 157 = 1 := by kernel_rfl
theorem zero_157 : zeroA Tryz.prog 157 = some [Value.nilFunc] := by kernel_rfl
theorem inf_157 : (Tryz.prog.info? 157).isSome = true := by kernel_rfl
theorem cells_158 : Tryz.prog.cellsOf 158 = 1 := by kernel_rfl
theorem zero_158 : zeroA Tryz.prog 158 = some [Value.nilFunc] := by kernel_rfl
theorem inf_158 : (Tryz.prog.info? 158).isSome = true := by kernel_rfl
theorem cells_159 : Tryz.prog.cellsOf 159 = 1 := by kernel_rfl
theorem zero_159 : zeroA Tryz.prog 159 = some [Value.nilFunc] := by kernel_rfl
theorem inf_159 : (Tryz.prog.info? 159).isSome = true := by kernel_rfl
theorem cells_160 : Tryz.prog.cellsOf 160 = 1 := by kernel_rfl
theorem zero_160 : zeroA Tryz.prog 160 = some [Value.nilFunc] := by kernel_rfl
theorem inf_160 : (Tryz.prog.info? 160).isSome = true := by kernel_rfl
theorem cells_161 : Tryz.prog.cellsOf 161 = 1 := by kernel_rfl
theorem zero_161 : zeroA Tryz.prog 161 = some [Value.nilFunc] := by kernel_rfl
theorem inf_161 : (Tryz.prog.info? 161).isSome = true := by kernel_rfl
theorem cells_162 : Tryz.prog.cellsOf 162 = 1 := by kernel_rfl
theorem zero_162 : zeroA Tryz.prog 162 = some [Value.nilFunc] := by kernel_rfl
theorem inf_162 : (Tryz.prog.info? 162).isSome = true := by kernel_rfl
theorem cells_163 : Tryz.prog.cellsOf 163 = 1 := by kernel_rfl
theorem zero_163 : zeroA Tryz.prog 163 = some [Value.pointer none] := by kernel_rfl
theorem inf_163 : (Tryz.prog.info? 163).isSome = true := by kernel_rfl
theorem cells_164 : Tryz.prog.cellsOf 164 = 1 := by kernel_rfl
theorem zero_164 : zeroA Tryz.prog 164 = some [Value.nilFunc] := by kernel_rfl
theorem inf_164 : (Tryz.prog.info? 164).isSome = true := by kernel_rfl
theorem cells_165 : Tryz.prog.cellsOf 165 = 1 := by kernel_rfl
theorem zero_165 : zeroA Tryz.prog 165 = some [Value.map none] := by kernel_rfl
theorem inf_165 : (Tryz.prog.info? 165).isSome = true := by kernel_rfl
theorem cells_166 : Tryz.prog.cellsOf 166 = 1 := by kernel_rfl
theorem zero_166 : zeroA Tryz.prog 166 = some [Value.nilFunc] := by kernel_rfl
theorem inf_166 : (Tryz.prog.info? 166).isSome = true := by kernel_rfl
theorem cells_167 : Tryz.prog.cellsOf 167 = 1 := by kernel_rfl
theorem zero_167 : zeroA Tryz.prog 167 = some [Value.nilFunc] := by kernel_rfl
theorem inf_167 : (Tryz.prog.info? 167).isSome = true := by kernel_rfl
theorem cells_168 : Tryz.prog.cellsOf 168 = 24 := by kernel_rfl
theorem zero_168 : zeroA Tryz.prog 168 = some [Value.int IntKind.u8 0, Value.int IntKind.u8 0, Value.int IntKind.u8 0, Value.int IntKind.u8 0, Value.int IntKind.u8 0, Value.int IntKind.u8 0, Value.int IntKind.u8 0, Value.int IntKind.u8 0, Value.int IntKind.u8 0, Value.int IntKind.u8 0, Value.int IntKind.u8 0, Value.int IntKind.u8 0, Value.int IntKind.u8 0, Value.int IntKind.u8 0, Value.int IntKind.u8 0, Value.int IntKind.u8 0, Value.int IntKind.u8 0, Value.int IntKind.u8 0, Value.int IntKind.u8 0, Value.int IntKind.u8 0, Value.int IntKind.u8 0, Value.int IntKind.u8 0, Value.int IntKind.u8 0, Value.int IntKind.u8 0] := by kernel_rfl
theorem inf_168 : (Tryz.prog.info? 168).isSome = true := by kernel_rfl
theorem cells_169 : Tryz.prog.cellsOf 169 = 1 := by kernel_rfl
theorem zero_169 : zeroA Tryz.prog 169 = some [Value.int IntKind.u64 0] := by kernel_rfl
theorem inf_169 : (Tryz.prog.info? 169).isSome = true := by kernel_rfl
theorem cells_170 : Tryz.prog.cellsOf 170 = 1 := by kernel_rfl
theorem zero_170 : zeroA Tryz.prog 170 = some [Value.nilFunc] := by kernel_rfl
theorem inf_170 : (Tryz.prog.info? 170).isSome = true := by kernel_rfl
theorem cells_171 : Tryz.prog.cellsOf 171 = 1 := by kernel_rfl
theorem zero_171 : zeroA Tryz.prog 171 = some [Value.nilFunc] := by kernel_rfl
theorem inf_171 : (Tryz.prog.info? 171).isSome = true := by kernel_rfl
theorem cells_172 : Tryz.prog.cellsOf 172 = 1 := by kernel_rfl
theorem inf_172 : (Tryz.prog.info? 172).isSome = true := by kernel_rfl
theorem cells_173 : Tryz.prog.cellsOf 173 = 1 := by kernel_rfl
theorem zero_173 : zeroA Tryz.prog 173 = some [Value.nilFunc] := by kernel_rfl
theorem inf_173 : (Tryz.prog.info? 173).isSome = true := by kernel_rfl
theorem cells_174 : Tryz.prog.cellsOf 174 = 1 := by kernel_rfl
theorem zero_174 : zeroA Tryz.prog 174 = some [Value.nilFunc] := by kernel_rfl
theorem inf_174 : (Tryz.prog.info? 174).isSome = true := by kernel_rfl
theorem cells_175 : Tryz.prog.cellsOf 175 = 1 := by kernel_rfl
theorem zero_175 : zeroA Tryz.prog 175 = some [Value.nilFunc] := by kernel_rfl
theorem inf_175 : (Tryz.prog.info? 175).isSome = true := by kernel_rfl
theorem cells_176 : Tryz.prog.cellsOf 176 = 20 := by kernel_rfl
theorem zero_176 : zeroA Tryz.prog 176 = some [Value.int IntKind.u64 0, Value.int IntKind.u64 0, Value.int IntKind.u64 0, Value.int IntKind.u64 0, Value.int IntKind.u64 0, Value.int IntKind.u64 0, Value.int IntKind.u64 0, Value.int IntKind.u64 0, Value.int IntKind.u64 0, Value.int IntKind.u64 0, Value.int IntKind.u64 0, Value.int IntKind.u64 0, Value.int IntKind.u64 0, Value.int IntKind.u64 0, Value.int IntKind.u64 0, Value.int IntKind.u64 0, Value.int IntKind.u64 0, Value.int IntKind.u64 0, Value.int IntKind.u64 0, Value.int IntKind.u64 0] := by kernel_rfl
theorem inf_176 : (Tryz.prog.info? 176).isSome = true := by kernel_rfl
theorem cells_177 : Tryz.prog.cellsOf 177 = 1 := by kernel_rfl
theorem zero_177 : zeroA Tryz.prog 177 = some [Value.int IntKind.u32 0] := by kernel_rfl
theorem inf_177 : (Tryz.prog.info? 177).isSome = true := by kernel_rfl
theorem cells_178 : Tryz.prog.cellsOf 178 = 65 := by kernel_rfl
theorem inf_178 : (Tryz.prog.info? 178).isSome = true := by kernel_rfl
theorem cells_179 : Tryz.prog.cellsOf 179 = 1 := by kernel_rfl
theorem zero_179 : zeroA Tryz.prog 179 = some [Value.nilFunc] := by kernel_rfl
theorem inf_179 : (Tryz.prog.info? 179).isSome = true := by kernel_rfl
theorem cells_180 : Tryz.prog.cellsOf 180 = 1 := by kernel_rfl
theorem zero_180 : zeroA Tryz.prog 180 = some [Value.int IntKind.u64 0] := by kernel_rfl
theorem inf_180 : (Tryz.prog.info? 180).isSome = true := by kernel_rfl
theorem cells_181 : Tryz.prog.cellsOf 181 = 1 := by kernel_rfl
theorem zero_181 : zeroA Tryz.prog 181 = some [Value.nilFunc] := by kernel_rfl
theorem inf_181 : (Tryz.prog.info? 181).isSome = true := by kernel_rfl
theorem cells_182 : Tryz.prog.cellsOf 182 = 256 := by kernel_rfl
theorem inf_182 : (Tryz.prog.info? 182).isSome = true := by kernel_rfl
theorem cells_183 : Tryz.prog.cellsOf 183 = 1 := by kernel_rfl
theorem zero_183 : zeroA Tryz.prog 183 = some [Value.nilFunc] := by kernel_rfl
theorem inf_183 : (Tryz.prog.info? 183).isSome = true := by kernel_rfl
theorem cells_184 : Tryz.prog.cellsOf 184 = 1 := by kernel_rfl
theorem zero_184 : zeroA Tryz.prog 184 = some [Value.nilFunc] := by kernel_rfl
theorem inf_184 : (Tryz.prog.info? 184).isSome = true := by kernel_rfl
theorem cells_185 : Tryz.prog.cellsOf 185 = 1 := by kernel_rfl
theorem zero_185 : zeroA Tryz.prog 185 = some [Value.nilFunc] := by kernel_rfl
theorem inf_185 : (Tryz.prog.info? 185).isSome = true := by kernel_rfl
theorem cells_186 : Tryz.prog.cellsOf 186 = 1 := by kernel_rfl
theorem zero_186 : zeroA Tryz.prog 186 = some [Value.slice none 0 0] := by kernel_rfl
theorem inf_186 : (Tryz.prog.info? 186).isSome = true := by kernel_rfl
theorem elem_186 : elemOfT Tryz.prog 186 = 188 := by kernel_rfl
theorem app_186 : appOk Tryz.prog 186 188 2 = true := by kernel_rfl
theorem cells_187 : Tryz.prog.cellsOf 187 = 2 := by kernel_rfl
theorem zero_187 : zeroA Tryz.prog 187 = some [Value.int IntKind.i64 0, Value.int IntKind.i64 0] := by kernel_rfl
theorem inf_187 : (Tryz.prog.info? 187).isSome = true := by kernel_rfl
theorem cells_188 : Tryz.prog.cellsOf 188 = 2 := by kernel_rfl
theorem zero_188 : zeroA Tryz.prog 188 = some [Value.int IntKind.i64 0, Value.int IntKind.i64 0] := by kernel_rfl
theorem inf_188 : (Tryz.prog.info? 188).isSome = true := by kernel_rfl
theorem cells_189 : Tryz.prog.cellsOf 189 = 1 := by kernel_rfl
theorem zero_189 : zeroA Tryz.prog 189 = some [Value.nilFunc] := by kernel_rfl
theorem inf_189 : (Tryz.prog.info? 189).isSome = true := by kernel_rfl
theorem cells_190 : Tryz.prog.cellsOf 190 = 1 := by kernel_rfl
theorem zero_190 : zeroA Tryz.prog 190 = some [Value.pointer none] := by kernel_rfl
theorem inf_190 : (Tryz.prog.info? 190).isSome = true := by kernel_rfl
theorem cells_191 : Tryz.prog.cellsOf 191 = 32 := by kernel_rfl
theorem zero_191 : zeroA Tryz.prog 191 = some [Value.int IntKind.u8 0, Value.int IntKind.u8 0, Value.int IntKind.u8 0, Value.int IntKind.u8 0, Value.int IntKind.u8 0, Value.int IntKind.u8 0, Value.int IntKind.u8 0, Value.int IntKind.u8 0, Value.int IntKind.u8 0, Value.int IntKind.u8 0, Value.int IntKind.u8 0, Value.int IntKind.u8 0, Value.int IntKind.u8 0, Value.int IntKind.u8 0, Value.int IntKind.u8 0, Value.int IntKind.u8 0, Value.int IntKind.u8 0, Value.int IntKind.u8 0, Value.int IntKind.u8 0, Value.int IntKind.u8 0, Value.int IntKind.u8 0, Value.int IntKind.u8 0, Value.int IntKind.u8 0, Value.int IntKind.u8 0, Value.int IntKind.u8 0, Value.int IntKind.u8 0, Value.int IntKind.u8 0, Value.int IntKind.u8 0, Value.int IntKind.u8 0, Value.int IntKind.u8 0, Value.int IntKind.u8 0, Value.int IntKind.u8 0] := by kernel_rfl
theorem inf_191 : (Tryz.prog.info? 191).isSome = true := by kernel_rfl
theorem cells_192 : Tryz.prog.cellsOf 192 = 64 := by kernel_rfl
theorem zero_192 : zeroA Tryz.prog 192 = some [Value.int IntKind.u8 0, Value.int IntKind.u8 0, Value.int IntKind.u8 0, Value.int IntKind.u8 0, Value.int IntKind.u8 0, Value.int IntKind.u8 0, Value.int IntKind.u8 0, Value.int IntKind.u8 0, Value.int IntKind.u8 0, Value.int IntKind.u8 0, Value.int IntKind.u8 0, Value.int IntKind.u8 0, Value.int IntKind.u8 0, Value.int IntKind.u8 0, Value.int IntKind.u8 0, Value.int IntKind.u8 0, Value.int IntKind.u8 0, Value.int IntKind.u8 0, Value.int IntKind.u8 0, Value.int IntKind.u8 0, Value.int IntKind.u8 0, Value.int IntKind.u8 0, Value.int IntKind.u8 0, Value.int IntKind.u8 0, Value.int IntKind.u8 0, Value.int IntKind.u8 0, Value.int IntKind.u8 0, Value.int IntKind.u8 0, Value.int IntKind.u8 0, Value.int IntKind.u8 0, Value.int IntKind.u8 0, Value.int IntKind.u8 0, Value.int IntKind.u8 0, Value.int IntKind.u8 0, Value.int IntKind.u8 0, Value.int IntKind.u8 0, Value.int IntKind.u8 0, Value.int IntKind.u8 0, Value.int IntKind.u8 0, Value.int IntKind.u8 0, Value.int IntKind.u8 0, Value.int IntKind.u8 0, Value.int IntKind.u8 0, Value.int IntKind.u8 0, Value.int IntKind.u8 0, Value.int IntKind.u8 0, Value.int IntKind.u8 0, Value.int IntKind.u8 0, Value.int IntKind.u8 0, Value.int IntKind.u8 0, Value.int IntKind.u8 0, Value.int IntKind.u8 0, Value.int IntKind.u8 0, Value.int IntKind.u8 0, Value.int IntKind.u8 0, Value.int IntKind.u8 0, Value.int IntKind.u8 0, Value.int IntKind.u8 0, Value.int IntKind.u8 0, Value.int IntKind.u8 0, Value.int IntKind.u8 0, Value.int IntKind.u8 0, Value.int IntKind.u8 0, Value.int IntKind.u8 0] := by kernel_rfl
theorem inf_192 : (Tryz.prog.info? 192).isSome = true := by kernel_rfl
theorem cells_193 : Tryz.prog.cellsOf 193 = 1 := by kernel_rfl
theorem zero_193 : zeroA Tryz.prog 193 = some [Value.slice none 0 0] := by kernel_rfl
theorem inf_193 : (Tryz.prog.info? 193).isSome = true := by kernel_rfl
theorem elem_193 : elemOfT Tryz.prog 193 = 199 := by kernel_rfl
theorem app_193 : appOk Tryz.prog 193 199 3 = true := by kernel_rfl
theorem cells_194 : Tryz.prog.cellsOf 194 = 1 := by kernel_rfl
theorem zero_194 : zeroA Tryz.prog 194 = some [Value.slice none 0 0] := by kernel_rfl
theorem inf_194 : (Tryz.prog.info? 194).isSome = true := by kernel_rfl
theorem elem_194 : elemOfT Tryz.prog 194 = 202 := by kernel_rfl
theorem app_194 : appOk Tryz.prog 194 202 3 = true := by kernel_rfl
theorem cells_195 : Tryz.prog.cellsOf 195 = 3 := by kernel_rfl
theorem zero_195 : zeroA Tryz.prog 195 = some [Value.slice none 0 0, Value.slice none 0 0, Value.int IntKind.i64 0] := by kernel_rfl
theorem inf_195 : (Tryz.prog.info? 195).isSome = true := by kernel_rfl
theorem cells_196 : Tryz.prog.cellsOf 196 = 3 := by kernel_rfl
theorem zero_196 : zeroA Tryz.prog 196 = some [Value.slice none 0 0, Value.slice none 0 0, Value.int IntKind.i64 0] := by kernel_rfl
theorem inf_196 : (Tryz.prog.info? 196).isSome = true := by kernel_rfl
theorem cells_197 : Tryz.prog.cellsOf 197 = 1 := by kernel_rfl
theorem zero_197 : zeroA Tryz.prog 197 = some [Value.int IntKind.u16 0] := by kernel_rfl
theorem inf_197 : (Tryz.prog.info? 197).isSome = true := by kernel_rfl
theorem cells_198 : Tryz.prog.cellsOf 198 = 3 := by kernel_rfl
theorem zero_198 : zeroA Tryz.prog 198 = some [Value.int IntKind.u16 0, Value.int IntKind.u16 0, Value.int IntKind.u16 0] := by kernel_rfl
theorem inf_198 : (Tryz.prog.info? 198).isSome = true := by kernel_rfl
theorem cells_199 : Tryz.prog.cellsOf 199 = 3 := by kernel_rfl
theorem zero_199 : zeroA Tryz.prog 199 = some [Value.int IntKind.u16 0, Value.int IntKind.u16 0, Value.int IntKind.u16 0] := by kernel_rfl
theorem inf_199 : (Tryz.prog.info? 199).isSome = true := by kernel_rfl
theorem cells_200 : Tryz.prog.cellsOf 200 = 1 := by kernel_rfl
theorem zero_200 : zeroA Tryz.prog 200 = some [Value.nilFunc] := by kernel_rfl
theorem inf_200 : (Tryz.prog.info? 200).isSome = true := by kernel_rfl
theorem cells_201 : Tryz.prog.cellsOf 201 = 3 := by kernel_rfl
theorem zero_201 : zeroA Tryz.prog 201 = some [Value.int IntKind.u32 0, Value.int IntKind.u32 0, Value.int IntKind.u32 0] := by kernel_rfl
theorem inf_201 : (Tryz.prog.info? 201).isSome = true := by kernel_rfl
theorem cells_202 : Tryz.prog.cellsOf 202 = 3 := by kernel_rfl
theorem zero_202 : zeroA Tryz.prog 202 = some [Value.int IntKind.u32 0, Value.int IntKind.u32 0, Value.int IntKind.u32 0] := by kernel_rfl
theorem inf_202 : (Tryz.prog.info? 202).isSome = true := by kernel_rfl
theorem cells_203 : Tryz.prog.cellsOf 203 = 1 := by kernel_rfl
theorem zero_203 : zeroA Tryz.prog 203 = some [Value.nilFunc] := by kernel_rfl
theorem inf_203 : (Tryz.prog.info? 203).isSome = true := by kernel_rfl
theorem cells_204 : Tryz.prog.cellsOf 204 = 1 := by kernel_rfl
theorem zero_204 : zeroA Tryz.prog 204 = some [Value.pointer none] := by kernel_rfl
theorem inf_204 : (Tryz.prog.info? 204).isSome = true := by kernel_rfl
theorem cells_205 : Tryz.prog.cellsOf 205 = 1 := by kernel_rfl
theorem zero_205 : zeroA Tryz.prog 205 = some [Value.pointer none] := by kernel_rfl
theorem inf_205 : (Tryz.prog.info? 205).isSome = true := by kernel_rfl
theorem cells_206 : Tryz.prog.cellsOf 206 = 4 := by kernel_rfl
theorem zero_206 : zeroA Tryz.prog 206 = some [Value.pointer none, Value.pointer none, Value.pointer none, Value.string { data := #[] }] := by kernel_rfl
theorem inf_206 : (Tryz.prog.info? 206).isSome = true := by kernel_rfl
theorem cells_207 : Tryz.prog.cellsOf 207 = 4 := by kernel_rfl
theorem zero_207 : zeroA Tryz.prog 207 = some [Value.pointer none, Value.pointer none, Value.pointer none, Value.string { data := #[] }] := by kernel_rfl
theorem inf_207 : (Tryz.prog.info? 207).isSome = true := by kernel_rfl
theorem cells_208 : Tryz.prog.cellsOf 208 = 0 := by kernel_rfl
theorem zero_208 : zeroA Tryz.prog 208 = some [] := by kernel_rfl
theorem inf_208 : (Tryz.prog.info? 208).isSome = true := by kernel_rfl
theorem cells_209 : Tryz.prog.cellsOf 209 = 0 := by kernel_rfl
theorem zero_209 : zeroA Tryz.prog 209 = some [] := by kernel_rfl
theorem inf_209 : (Tryz.prog.info? 209).isSome = true := by kernel_rfl
theorem cells_210 : Tryz.prog.cellsOf 210 = 0 := by kernel_rfl
theorem zero_210 : zeroA Tryz.prog 210 = some [] := by kernel_rfl
theorem inf_210 : (Tryz.prog.info? 210).isSome = true := by kernel_rfl
theorem cells_211 : Tryz.prog.cellsOf 211 = 1 := by kernel_rfl
theorem zero_211 : zeroA Tryz.prog 211 = some [Value.nilFunc] := by kernel_rfl
theorem inf_211 : (Tryz.prog.info? 211).isSome = true := by kernel_rfl
theorem cells_212 : Tryz.prog.cellsOf 212 = 1 := by kernel_rfl
theorem zero_212 : zeroA Tryz.prog 212 = some [Value.int IntKind.u8 0] := by kernel_rfl
theorem inf_212 : (Tryz.prog.info? 212).isSome = true := by kernel_rfl
theorem cells_213 : Tryz.prog.cellsOf 213 = 1 := by kernel_rfl
theorem zero_213 : zeroA Tryz.prog 213 = some [Value.int IntKind.u8 0] := by kernel_rfl
theorem inf_213 : (Tryz.prog.info? 213).isSome = true := by kernel_rfl
theorem cells_214 : Tryz.prog.cellsOf 214 = 1 := by kernel_rfl
theorem zero_214 : zeroA Tryz.prog 214 = some [Value.nilFunc] := by kernel_rfl
theorem inf_214 : (Tryz.prog.info? 214).isSome = true := by kernel_rfl
theorem cells_215 : Tryz.prog.cellsOf 215 = 1 := by kernel_rfl
theorem zero_215 : zeroA Tryz.prog 215 = some [Value.int IntKind.i32 0] := by kernel_rfl
theorem inf_215 : (Tryz.prog.info? 215).isSome = true := by kernel_rfl
theorem cells_216 : Tryz.prog.cellsOf 216 = 1 := by kernel_rfl
theorem zero_216 : zeroA Tryz.prog 216 = some [Value.int IntKind.i32 0] := by kernel_rfl
theorem inf_216 : (Tryz.prog.info? 216).isSome = true := by kernel_rfl
theorem cells_217 : Tryz.prog.cellsOf 217 = 11 := by kernel_rfl
theorem zero_217 : zeroA Tryz.prog 217 = some [Value.int IntKind.u64 0, Value.int IntKind.u64 0, Value.int IntKind.u32 0, Value.int IntKind.u8 0, Value.int IntKind.u8 0, Value.int IntKind.u8 0, Value.int IntKind.u8 0, Value.nilFunc, Value.pointer none, Value.int IntKind.i32 0, Value.int IntKind.i32 0] := by kernel_rfl
theorem inf_217 : (Tryz.prog.info? 217).isSome = true := by kernel_rfl
theorem cells_218 : Tryz.prog.cellsOf 218 = 11 := by kernel_rfl
theorem zero_218 : zeroA Tryz.prog 218 = some [Value.int IntKind.u64 0, Value.int IntKind.u64 0, Value.int IntKind.u32 0, Value.int IntKind.u8 0, Value.int IntKind.u8 0, Value.int IntKind.u8 0, Value.int IntKind.u8 0, Value.nilFunc, Value.pointer none, Value.int IntKind.i32 0, Value.int IntKind.i32 0] := by kernel_rfl
theorem inf_218 : (Tryz.prog.info? 218).isSome = true := by kernel_rfl
theorem zerov_3 : zeroV Tryz.prog 3 = some (.p (.v (Value.int IntKind.i64 0))) := by kernel_rfl

attribute [simp] cells_0 inf_0 cells_1 zero_1 inf_1 cells_2 zero_2 inf_2 cells_3 zero_3 inf_3 cells_4 zero_4 inf_4 cells_5 zero_5 inf_5 cells_6 zero_6 inf_6 cells_7 zero_7 inf_7 cells_8 zero_8 inf_8 cells_9 zero_9 inf_9 cells_10 zero_10 inf_10 cells_11 zero_11 inf_11 cells_12 zero_12 inf_12 cells_13 zero_13 inf_13 cells_14 zero_14 inf_14 cells_15 zero_15 inf_15 cells_16 zero_16 inf_16 cells_17 zero_17 inf_17 cells_18 zero_18 inf_18 cells_19 zero_19 inf_19 cells_20 zero_20 inf_20 cells_21 zero_21 inf_21 cells_22 zero_22 inf_22 elem_22 app_22 cells_23 zero_23 inf_23 cells_24 zero_24 inf_24 cells_25 zero_25 inf_25 cells_26 zero_26 inf_26 cells_27 zero_27 inf_27 cells_28 zero_28 inf_28 cells_29 zero_29 inf_29 cells_30 zero_30 inf_30 elem_30 app_30 cells_31 zero_31 inf_31 cells_32 zero_32 inf_32 cells_33 zero_33 inf_33 elem_33 app_33 cells_34 zero_34 inf_34 cells_35 zero_35 inf_35 cells_36 zero_36 inf_36 elem_36 app_36 cells_37 zero_37 inf_37 cells_38 zero_38 inf_38 cells_39 zero_39 inf_39 elem_39 app_39 cells_40 zero_40 inf_40 elem_40 app_40 cells_41 zero_41 inf_41 cells_42 zero_42 inf_42 cells_43 zero_43 inf_43 cells_44 zero_44 inf_44 cells_45 zero_45 inf_45 cells_46 zero_46 inf_46 cells_47 zero_47 inf_47 cells_48 zero_48 inf_48 cells_49 zero_49 inf_49 cells_50 zero_50 inf_50 cells_51 zero_51 inf_51 cells_52 zero_52 inf_52 cells_53 zero_53 inf_53 cells_54 zero_54 inf_54 cells_55 zero_55 inf_55 cells_56 zero_56 inf_56 cells_57 zero_57 inf_57 cells_58 zero_58 inf_58 cells_59 zero_59 inf_59 cells_60 zero_60 inf_60 cells_61 zero_61 inf_61 cells_62 zero_62 inf_62 cells_63 zero_63 inf_63 cells_64 zero_64 inf_64 cells_65 zero_65 inf_65 cells_66 zero_66 inf_66 cells_67 zero_67 inf_67 cells_68 zero_68 inf_68 cells_69 zero_69 inf_69 cells_70 zero_70 inf_70 cells_71 zero_71 inf_71 cells_72 zero_72 inf_72 cells_73 zero_73 inf_73 cells_74 zero_74 inf_74 cells_75 zero_75 inf_75 cells_76 zero_76 inf_76 cells_77 zero_77 inf_77 cells_78 zero_78 inf_78 cells_79 zero_79 inf_79 elem_79 app_79 cells_80 zero_80 inf_80 cells_81 zero_81 inf_81 cells_82 zero_82 inf_82 cells_83 zero_83 inf_83 cells_84 zero_84 inf_84 cells_85 zero_85 inf_85 cells_86 zero_86 inf_86 elem_86 app_86 cells_87 zero_87 inf_87 cells_88 zero_88 inf_88 cells_89 zero_89 inf_89 cells_90 zero_90 inf_90 cells_91 zero_91 inf_91 cells_92 zero_92 inf_92 cells_93 zero_93 inf_93 cells_94 zero_94 inf_94 cells_95 zero_95 inf_95 cells_96 zero_96 inf_96 cells_97 zero_97 inf_97 cells_98 zero_98 inf_98 cells_99 zero_99 inf_99 cells_100 zero_100 inf_100 cells_101 zero_101 inf_101 cells_102 zero_102 inf_102 cells_103 zero_103 inf_103 cells_104 zero_104 inf_104 cells_105 zero_105 inf_105 cells_106 zero_106 inf_106 cells_107 zero_107 inf_107 cells_108 zero_108 inf_108 cells_109 zero_109 inf_109 cells_110 zero_110 inf_110 cells_111 zero_111 inf_111 cells_112 zero_112 inf_112 cells_113 zero_113 inf_113 cells_114 zero_114 inf_114 cells_115 zero_115 inf_115 cells_116 zero_116 inf_116 cells_117 zero_117 inf_117 cells_118 zero_118 inf_118 cells_119 zero_119 inf_119 cells_120 zero_120 inf_120 cells_121 zero_121 inf_121 cells_122 zero_122 inf_122 cells_123 zero_123 inf_123 cells_124 zero_124 inf_124 cells_125 zero_125 inf_125 cells_126 zero_126 inf_126 cells_127 zero_127 inf_127 cells_128 zero_128 inf_128 cells_129 zero_129 inf_129 cells_130 zero_130 inf_130 cells_131 zero_131 inf_131 cells_132 zero_132 inf_132 cells_133 zero_133 inf_133 cells_134 zero_134 inf_134 cells_135 inf_135 cells_136 zero_136 inf_136 cells_137 zero_137 inf_137 cells_138 zero_138 inf_138 cells_139 zero_139 inf_139 cells_140 zero_140 inf_140 cells_141 zero_141 inf_141 cells_142 zero_142 inf_142 cells_143 inf_143 cells_144 zero_144 inf_144 cells_145 zero_145 inf_145 cells_146 zero_146 inf_146 cells_147 zero_147 inf_147 cells_148 zero_148 inf_148 cells_149 inf_149 cells_150 zero_150 inf_150 cells_151 zero_151 inf_151 cells_152 zero_152 inf_152 cells_153 zero_153 inf_153 cells_154 zero_154 inf_154 cells_155 zero_155 inf_155 cells_156 zero_156 inf_156 cells_157 zero_157 inf_157 cells_158 zero_158 inf_158 cells_159 zero_159 inf_159 cells_160 zero_160 inf_160 cells_161 zero_161 inf_161 cells_162 zero_162 inf_162 cells_163 zero_163 inf_163 cells_164 zero_164 inf_164 cells_165 zero_165 inf_165 cells_166 zero_166 inf_166 cells_167 zero_167 inf_167 cells_168 zero_168 inf_168 cells_169 zero_169 inf_169 cells_170 zero_170 inf_170 cells_171 zero_171 inf_171 cells_172 inf_172 cells_173 zero_173 inf_173 cells_174 zero_174 inf_174 cells_175 zero_175 inf_175 cells_176 zero_176 inf_176 cells_177 zero_177 inf_177 cells_178 inf_178 cells_179 zero_179 inf_179 cells_180 zero_180 inf_180 cells_181 zero_181 inf_181 cells_182 inf_182 cells_183 zero_183 inf_183 cells_184 zero_184 inf_184 cells_185 zero_185 inf_185 cells_186 zero_186 inf_186 elem_186 app_186 cells_187 zero_187 inf_187 cells_188 zero_188 inf_188 cells_189 zero_189 inf_189 cells_190 zero_190 inf_190 cells_191 zero_191 inf_191 cells_192 zero_192 inf_192 cells_193 zero_193 inf_193 elem_193 app_193 cells_194 zero_194 inf_194 elem_194 app_194 cells_195 zero_195 inf_195 cells_196 zero_196 inf_196 cells_197 zero_197 inf_197 cells_198 zero_198 inf_198 cells_199 zero_199 inf_199 cells_200 zero_200 inf_200 cells_201 zero_201 inf_201 cells_202 zero_202 inf_202 cells_203 zero_203 inf_203 cells_204 zero_204 inf_204 cells_205 zero_205 inf_205 cells_206 zero_206 inf_206 cells_207 zero_207 inf_207 cells_208 zero_208 inf_208 cells_209 zero_209 inf_209 cells_210 zero_210 inf_210 cells_211 zero_211 inf_211 cells_212 zero_212 inf_212 cells_213 zero_213 inf_213 cells_214 zero_214 inf_214 cells_215 zero_215 inf_215 cells_216 zero_216 inf_216 cells_217 zero_217 inf_217 cells_218 zero_218 inf_218 zerov_3
theorem mixed : Tryz.prog.follows .mixedOrders = true := by kernel_rfl
end Go.Proofs.YtlnoacoanfhdcaaGreatDoor

namespace Go.Proofs.YtlnoacoanfhdcaaGreatDoor
open Go.RowKit
set_option linter.unusedVariables false

mutual
inductive LeP : PV → PV → Prop
  | refl (p : PV) : LeP p p
  | nil (k : Nat) : LeP (.v (.slice none 0 0)) (.sl k [])
  | sl {k : Nat} {rows rows' : List (List PV)} : LeRows rows rows' → LeP (.sl k rows) (.sl k rows')
inductive LeRow : List PV → List PV → Prop
  | refl (l : List PV) : LeRow l l
  | cons {p p' : PV} {l l' : List PV} : LeP p p' → LeRow l l' → LeRow (p :: l) (p' :: l')
inductive LeRows : List (List PV) → List (List PV) → Prop
  | refl (l : List (List PV)) : LeRows l l
  | cons {p p' : List PV} {l l' : List (List PV)} : LeRow p p' → LeRows l l' → LeRows (p :: l) (p' :: l')
end
theorem LeP.ok {p p' : PV} (h : LeP p p') : ∀ {Pr : Prot} {x : Value}, RP Pr p x → RP Pr p' x := by
  refine LeP.rec (motive_1 := fun p p' _ => ∀ {Pr : Prot} {x : Value}, RP Pr p x → RP Pr p' x)
    (motive_2 := fun l l' _ => l.length = l'.length ∧ ∀ (j : Nat) (p' : PV), l'[j]? = some p' → ∃ p, l[j]? = some p ∧ ∀ {Pr : Prot} {x : Value}, RP Pr p x → RP Pr p' x)
    (motive_3 := fun l l' _ => l.length = l'.length ∧ ∀ (r : Nat) (row' : List PV), l'[r]? = some row' → ∃ row, l[r]? = some row ∧ row.length = row'.length ∧ ∀ (j : Nat) (p' : PV), row'[j]? = some p' → ∃ p, row[j]? = some p ∧ ∀ {Pr : Prot} {x : Value}, RP Pr p x → RP Pr p' x)
    ?_ ?_ ?_ ?_ ?_ ?_ ?_ h
  · intro p Pr x h; exact h
  · intro k Pr x h
    cases h with
    | v h => exact .slemp k none 0 (Nat.zero_le _)
  · intro k rows rows' _ ⟨hl, ih⟩ Pr x h
    cases h with
    | slemp _ A cap hc =>
      obtain rfl : rows' = [] := List.eq_nil_of_length_eq_zero hl.symm
      exact .slemp _ A _ hc
    | sl vs h1 h2 h3 h4 h5 =>
      rw [hl] at h1 ⊢
      refine .sl vs h1 h2 (fun r row' hr => ?_) (fun r row' j p' hr hj => ?_) (fun r row' j p' hr hj => ?_)
      · obtain ⟨row, k1, k2, _⟩ := ih r row' hr
        rw [← k2]; exact h3 r row k1
      · obtain ⟨row, k1, k2, k3⟩ := ih r row' hr
        obtain ⟨p, k4, k5⟩ := k3 j p' hj
        exact h4 r row j p k1 k4
      · obtain ⟨row, k1, k2, k3⟩ := ih r row' hr
        obtain ⟨p, k4, k5⟩ := k3 j p' hj
        exact k5 (h5 r row j p k1 k4)
  · intro l; exact ⟨rfl, fun j p h => ⟨p, h, fun h => h⟩⟩
  · intro p p' l l' _ _ ih1 ⟨hl, ih2⟩
    refine ⟨by simp [hl], fun j q hq => ?_⟩
    cases j with
    | zero => simp at hq; subst hq; exact ⟨p, rfl, ih1⟩
    | succ j => simpa using ih2 j q (by simpa using hq)
  · intro l; exact ⟨rfl, fun r row h => ⟨row, h, rfl, fun j p h => ⟨p, h, fun h => h⟩⟩⟩
  · intro p p' l l' _ _ ⟨hl1, ih1⟩ ⟨hl, ih2⟩
    refine ⟨by simp [hl], fun j q hq => ?_⟩
    cases j with
    | zero => simp at hq; subst hq; exact ⟨p, rfl, hl1, ih1⟩
    | succ j => simpa using ih2 j q (by simpa using hq)

mutual
inductive LeA : AV → AV → Prop
  | refl (v : AV) : LeA v v
  | any (v : AV) : LeA v .any
  | p {q q' : PV} : LeP q q' → LeA (.p q) (.p q')
  | osl {k d i : Nat} {rows rows' : List (List PV)} : LeRows rows rows' → LeA (.osl k rows d i) (.p (.sl k rows'))
  | agg {cs cs' : List AV} : LeAs cs cs' → LeA (.agg cs) (.agg cs')
inductive LeAs : List AV → List AV → Prop
  | refl (l : List AV) : LeAs l l
  | cons {v v' : AV} {l l' : List AV} : LeA v v' → LeAs l l' → LeAs (v :: l) (v' :: l')
end
theorem leA_both {Pr : Prot} {φ : Fi2} : (∀ {v v' : AV}, LeA v v' → ∀ {x : Value}, RA Pr φ v x → RA Pr φ v' x) ∧ (∀ {l l' : List AV}, LeAs l l' → l.length = l'.length ∧ ∀ (j : Nat) (v' : AV), l'[j]? = some v' → ∃ v, l[j]? = some v ∧ ∀ {x : Value}, RA Pr φ v x → RA Pr φ v' x) := by
  have key : ∀ {v v' : AV} (h : LeA v v') {x : Value}, RA Pr φ v x → RA Pr φ v' x := by
    intro v v' h
    refine LeA.rec (motive_1 := fun v v' _ => ∀ {x : Value}, RA Pr φ v x → RA Pr φ v' x)
      (motive_2 := fun l l' _ => l.length = l'.length ∧ ∀ (j : Nat) (v' : AV), l'[j]? = some v' → ∃ v, l[j]? = some v ∧ ∀ {x : Value}, RA Pr φ v x → RA Pr φ v' x) ?_ ?_ ?_ ?_ ?_ ?_ ?_ h
    · intro v x h; exact h
    · intro v x h; exact .any x
    · intro q q' hq x h
      cases h with
      | p h => exact .p (hq.ok h)
    · intro k d i rows rows' hr x h
      exact .p ((LeP.sl hr).ok h.sl)
    · intro cs cs' _ ⟨hl, ih⟩ x h
      cases h with
      | agg h1 h2 =>
        refine .agg (hl ▸ h1) fun j c y hc hy => ?_
        obtain ⟨v, k1, k2⟩ := ih j c hc
        exact k2 (h2 j v y k1 hy)
    · intro l; exact ⟨rfl, fun j v h => ⟨v, h, fun h => h⟩⟩
    · intro v v' l l' _ _ ih1 ⟨hl, ih2⟩
      refine ⟨by simp [hl], fun j q hq => ?_⟩
      cases j with
      | zero => simp at hq; subst hq; exact ⟨v, rfl, ih1⟩
      | succ j => simpa using ih2 j q (by simpa using hq)
  refine ⟨key, fun {l l'} h => ?_⟩
  have hA : LeA (.agg l) (.agg l') := .agg h
  refine LeAs.rec (motive_1 := fun v v' _ => True)
    (motive_2 := fun l l' _ => l.length = l'.length ∧ ∀ (j : Nat) (v' : AV), l'[j]? = some v' → ∃ v, l[j]? = some v ∧ ∀ {x : Value}, RA Pr φ v x → RA Pr φ v' x) ?_ ?_ ?_ ?_ ?_ ?_ ?_ h
  · intros; trivial
  · intros; trivial
  · intros; trivial
  · intros; trivial
  · intros; trivial
  · intro l; exact ⟨rfl, fun j v h => ⟨v, h, fun h => h⟩⟩
  · intro v v' l l' hv _ _ ⟨hl, ih2⟩
    refine ⟨by simp [hl], fun j q hq => ?_⟩
    cases j with
    | zero => simp at hq; subst hq; exact ⟨v, rfl, key hv⟩
    | succ j => simpa using ih2 j q (by simpa using hq)
/-- a contract's arguments may be known better -/
theorem ADet.sub {P : Program} {F : FuncId} {xs xs' : List AV} {S S' : ASt} {r : AV} (hle : LeAs xs xs') (h : ADet P F xs' S r S') : ADet P F xs S r S' :=
  ⟨h.1, fun Pr φ ys w hargs hR hne => by
    obtain ⟨hl, hk⟩ := (leA_both (Pr := Pr) (φ := φ)).2 hle
    exact h.2 Pr φ ys w ⟨hl ▸ hargs.1, fun j c x hc hx => by
      obtain ⟨v, k1, k2⟩ := hk j c hc
      exact k2 (hargs.2 j v x k1 hx)⟩ hR hne⟩
/-- .. its result may be told less well -/
theorem ADet.less {P : Program} {F : FuncId} {xs : List AV} {S S' : ASt} {r r' : AV} (hle : LeA r r') (h : ADet P F xs S r S') : ADet P F xs S r' S' :=
  ⟨h.1, fun Pr φ ys w hargs hR hne => (h.2 Pr φ ys w hargs hR hne).mono fun e w' hp => by
    obtain ⟨x, Pr', φ', h1, h2, h3, h4⟩ := hp
    exact ⟨x, Pr', φ', h1, h2, h3, (leA_both (Pr := Pr') (φ := φ')).1 hle h4⟩⟩
end Go.Proofs.YtlnoacoanfhdcaaGreatDoor

namespace Go.Proofs.YtlnoacoanfhdcaaGreatDoor
open Go.RowKit
set_option linter.unusedVariables false

/-- what a body's end says, where the result is an own list -/
def RetGift (P : Program) (rs : List ResultVar) (E : TypeId) (k : Nat) (rows : List (List PV)) (S' : ASt) : Exit → List AV → ASt → Prop := fun e fr S1 =>
  (e = .normal ∨ e = .ret) ∧ ∃ vs j, resA P fr S1 rs = some vs ∧ retA vs = .osl k rows 0 j ∧ get2 S1 0 j = some (.tok E k rows.length) ∧ S1.tail = S'

theorem get2_gift {α : Type} {l : List α} {φ : List (List α)} {x : α} {d i : Nat} {e : α} (h : get2 ((l ++ [x]) :: φ) d i = some e) : get2 (l :: φ) d i = some e ∨ (d = 0 ∧ i = l.length ∧ e = x) := by
  cases d with
  | succ d => exact .inl h
  | zero =>
    simp only [get2, List.getElem?_cons_zero, Option.bind_some] at h
    rcases Nat.lt_or_ge i l.length with hi | hi
    · rw [List.getElem?_append_left hi] at h; exact .inl h
    · rw [List.getElem?_append_right hi] at h
      have : i - l.length = 0 := by
        rcases Nat.eq_zero_or_pos (i - l.length) with h0 | h0
        · exact h0
        · rw [List.getElem?_eq_none (by simp; omega)] at h; cases h
      rw [this] at h
      cases h
      exact .inr ⟨rfl, by omega, rfl⟩
theorem get2_old {α : Type} {l : List α} {φ : List (List α)} {x : α} {d i : Nat} {e : α} (h : get2 (l :: φ) d i = some e) : get2 ((l ++ [x]) :: φ) d i = some e := by
  cases d with
  | succ d => exact h
  | zero =>
    simp only [get2, List.getElem?_cons_zero, Option.bind_some] at h ⊢
    rw [List.getElem?_append_left (List.getElem?_eq_some_iff.1 h).1]; exact h
theorem get2_new {α : Type} (l : List α) (φ : List (List α)) (x : α) : get2 ((l ++ [x]) :: φ) 0 l.length = some x := by
  simp [get2]
theorem fle_gift (l : List Ent) (φ : Fi2) (x : Ent) : Fle (l :: φ) ((l ++ [x]) :: φ) := fun d i e h => ⟨e, get2_old h, e.le_refl⟩

theorem ADet.gift {P : Program} {K : FuncId} {args : List AV} {S : ASt} {L : List AObj} {R : ASt} {E : TypeId} {k : Nat} {rows : List (List PV)} {fn : Func} {c : Code} (hm : P.follows .mixedOrders = true) (hK : ∀ xs w, (callFunc K xs).run P w = .ok (.enter K xs) w) (hf : P.funcs[K]? = some fn) (hb : fn.body = some c)
    (h : awp P c (AV.ups 1 args ++ List.replicate (fn.ntmps - args.length) .un) ([] :: S) (RetGift P fn.results.toList E k rows (L :: R))) : ADet P K args S (.osl k rows 0 L.length) ((L ++ [.tok E k rows.length]) :: R) := by
  refine ⟨hK, fun Pr φ xs w hargs hR hne => ?_⟩
  refine calls_of_wp hf hb ?_
  have hfr : RF Pr ([] :: φ) (AV.ups 1 args ++ List.replicate (fn.ntmps - args.length) .un) { tmps := xs ++ Array.replicate (fn.ntmps - xs.size) undef, defers := [] } := by
    refine ⟨by simp [ups_len, hargs.1], fun t v x hv hx => ?_⟩
    rcases Nat.lt_or_ge t args.length with ht | ht
    · rw [List.getElem?_append_left (by rw [ups_len]; exact ht), ups_get] at hv
      obtain ⟨v0, h0, rfl⟩ := Option.map_eq_some_iff.1 hv
      simp only at hx
      rw [Array.getElem?_append_left (by rw [← hargs.1]; exact ht)] at hx
      exact RA.up (k := 1) (hargs.2 t v0 x h0 hx)
    · rw [List.getElem?_append_right (by rw [ups_len]; exact ht)] at hv
      simp only at hx
      rw [Array.getElem?_append_right (by rw [← hargs.1]; exact ht)] at hx
      rw [List.getElem?_replicate] at hv
      rw [Array.getElem?_replicate] at hx
      split at hv
      · split at hx
        · cases hv; cases hx; exact .un
        · cases hx
      · cases hv
  refine wp_mono (awp_ok hm c _ Pr ([] :: φ) _ _ ([] :: S) w hfr (rel_push hR) (by simp) h) fun e a' w' hp => ?_
  obtain ⟨fr', S1, Pr', φ', ⟨he, vs, j, h1, h2, hj, h3⟩, h4, h5, h6, h7⟩ := hp
  obtain ⟨x, hx, hrun⟩ := results_ok (P := P) (fn := fn) h4 h5 h1
  rw [h2] at hx
  have hne' : φ' ≠ [] := ne_of_stp h6 (by simp)
  obtain ⟨l', φ0, rfl⟩ := List.exists_cons_of_ne_nil hne'
  have hS1 : S1 ≠ [] := fun h0 => by have := h5.shape; rw [h0] at this; simp at this
  obtain ⟨L', S2, rfl⟩ := List.exists_cons_of_ne_nil hS1
  simp only [List.tail_cons] at h3
  subst h3
  have hpop := rel_pop h5
  have spop := stp_pop h6
  have hne0 : φ0 ≠ [] := fun h0 => by have := hpop.shape; rw [h0] at this; simp at this
  obtain ⟨l, φ1, rfl⟩ := List.exists_cons_of_ne_nil hne0
  have hlen : l.length = L.length := by have := hpop.shape; simp at this; exact this.1
  -- the list's entry
  obtain ⟨e0, he0, ho0⟩ := h5.obj 0 j _ hj
  have ho0' : RelO Pr' ((l ++ [e0]) :: φ1) w' (.tok E k rows.length) e0 := ho0
  have hF := fle_gift l φ1 e0
  have hR2 : Rel Pr' ((l ++ [e0]) :: φ1) ((L ++ [.tok E k rows.length]) :: R) w' := by
    refine ⟨fun d i o ho => ?_, fun d i e d' i' e' g a b c f => ?_, fun d i e g a b => ?_, hpop.pr, fun g cs hmem => ?_, ?_⟩
    · rcases get2_gift ho with ho | ⟨rfl, rfl, rfl⟩
      · obtain ⟨e, k1, k2⟩ := hpop.obj d i o ho
        exact ⟨e, get2_old k1, k2.keep (Prot.le_refl _) (hF.drop d) fun g _ => ⟨rfl, fun _ h => h⟩⟩
      · exact ⟨e0, by rw [← hlen]; exact get2_new l φ1 e0, ho0'⟩
    · rcases get2_gift a with a1 | ⟨a1, a2, a3⟩
      · rcases get2_gift b with b1 | ⟨b1, b2, b3⟩
        · exact hpop.dis d i e d' i' e' g a1 b1 c f
        · rw [b3] at f
          have := (h5.dis 0 j _ (d + 1) i e g he0 a1 f c).1; omega
      · rcases get2_gift b with b1 | ⟨b1, b2, b3⟩
        · rw [a3] at c
          have := (h5.dis 0 j _ (d' + 1) i' e' g he0 b1 c f).1; omega
        · exact ⟨a1.trans b1.symm, a2.trans b2.symm⟩
    · rcases get2_gift a with a | ⟨rfl, rfl, rfl⟩
      · exact hpop.lt d i e g a b
      · exact h5.lt 0 j _ g he0 b
    · obtain ⟨t1, t2, t3, t4⟩ := hpop.tb g cs hmem
      refine ⟨t1, t2, t3, fun d i e a => ?_⟩
      rcases get2_gift a with a | ⟨rfl, rfl, rfl⟩
      · exact t4 d i e a
      · exact (h5.tb g cs hmem).2.2.2 0 j _ he0
    · have := hpop.shape
      simp at this ⊢
      exact ⟨by omega, this.2⟩
  have hS2 : Stp Pr φ w Pr' ((l ++ [e0]) :: φ1) w' := by
    refine ⟨spop.pl, spop.fl.trans hF, fun d i e g a b => ?_, spop.fr, ?_, spop.pn⟩
    · rcases get2_gift a with a | ⟨rfl, rfl, rfl⟩
      · exact spop.fresh d i e g a b
      · rcases h6.fresh 0 j _ g he0 b with ⟨d0, i0, e1, k1, k2⟩ | k1
        · cases d0 with
          | zero => simp [get2] at k1
          | succ d0 => exact .inl ⟨d0, i0, e1, k1, k2⟩
        · exact .inr k1
    · have := spop.len; simpa using this
  have hx2 : RA Pr' ((l ++ [e0]) :: φ1) (.osl k rows 0 L.length) x := by
    cases hx with
    | onil a1 a2 a3 =>
      rw [he0] at a1; cases a1
      exact .onil (by rw [← hlen]; exact get2_new l φ1 e0) a2 a3
    | osl vs a1 a2 a3 a4 a5 a6 a7 a8 a9 a10 =>
      rw [he0] at a1; cases a1
      exact .osl vs (by rw [← hlen]; exact get2_new l φ1 e0) a2 a3 a4 a5 a6 a7 a8 a9 a10
  have key : a'.defers = [] ∧ ∃ v, (results fn a'.tmps).run P w' = .ok v w' ∧ ∃ x Pr' φ', Ending.returned v = .returned x ∧ Stp Pr φ w Pr' φ' w' ∧ Rel Pr' φ' ((L ++ [.tok E k rows.length]) :: R) w' ∧ RA Pr' φ' (.osl k rows 0 L.length) x :=
    ⟨h7, x, hrun, x, Pr', _, rfl, hS2, hR2, hx2⟩
  rcases he with rfl | rfl
  · exact key
  · exact key
end Go.Proofs.YtlnoacoanfhdcaaGreatDoor

namespace Go.Proofs.YtlnoacoanfhdcaaGreatDoor
open Go.RowKit
set_option linter.unusedVariables false

/-- a region in the text's order, whose operations and calls leave the state as it was -/
def awpS (P : Program) (ops : Array Oper) (K : List AV → ASt → Prop) (S : ASt) : List Oper → List AV → Prop
  | [], fr => K fr S
  | o :: os, fr =>
    match wantA ops o fr with
    | some true =>
      match callA o fr with
      | some (F, args) => ∃ r, ADet P F args S r S ∧ awpS P ops K S os (putA fr o.dst r)
      | none =>
        match evL P o fr S with
        | some (v, _) => awpS P ops K S os (putA fr o.dst v)
        | none =>
          match stepF P o fr S with
          | some (v, S') => S' = S ∧ awpS P ops K S os (putA fr o.dst v)
          | none => False
    | some false => awpS P ops K S os (putA fr o.dst .un)
    | none => False
/-- a call, and what comes behind it, shut -/
def NextS (P : Program) (ops : Array Oper) (K : List AV → ASt → Prop) (S : ASt) (os : List Oper) (fr : List AV) (dst : Option Nat) (r : AV) : Prop := awpS P ops K S os (putA fr dst r)
@[reducible] def CallS (P : Program) (F : Nat) (args : List AV) (S : ASt) (K : AV → Prop) : Prop := ∃ r, ADet P F args S r S ∧ K r
theorem nextS_eq {P : Program} {ops : Array Oper} {K : List AV → ASt → Prop} {S : ASt} (os : List Oper) {fr : List AV} (dst : Option Nat) (r : AV) : NextS P ops K S os fr dst r = awpS P ops K S os (putA fr dst r) := rfl
theorem awpS_nil {P : Program} {ops : Array Oper} {K : List AV → ASt → Prop} {S : ASt} {fr : List AV} : awpS P ops K S [] fr = K fr S := by rw [awpS]
theorem awpS_cons {P : Program} {ops : Array Oper} {K : List AV → ASt → Prop} {S : ASt} (o : Oper) (os : List Oper) {fr : List AV} : awpS P ops K S (o :: os) fr = (match wantA ops o fr with
    | some true =>
      match callA o fr with
      | some (F, args) => CallS P F args S (NextS P ops K S os fr o.dst)
      | none =>
        match evL P o fr S with
        | some (v, _) => awpS P ops K S os (putA fr o.dst v)
        | none =>
          match stepF P o fr S with
          | some (v, S') => S' = S ∧ awpS P ops K S os (putA fr o.dst v)
          | none => False
    | some false => awpS P ops K S os (putA fr o.dst .un)
    | none => False) := by rw [awpS] <;> rfl
theorem getD_all {α : Type} {l : List α} {x d : α} (h : ∀ y ∈ l, y = x) {j : Nat} (hj : j < l.length) : l.getD j d = x := by
  rw [List.getD, List.getElem?_eq_getElem hj]
  exact h _ (List.getElem_mem hj)
theorem lcl_const {Ss : List ASt} {S : ASt} (h : ∀ T ∈ Ss, T = S) {i m : Nat} (hm : m + 1 < Ss.length) : ∀ ls : List (Nat × Nat × Nat), LCl Ss i m ls
  | [] => trivial
  | (j, d, k) :: ls => ⟨fun _ => by rw [getD_all h hm, getD_all h (by omega)], lcl_const h hm ls⟩
theorem lcp_const {Ss : List ASt} {S : ASt} (h : ∀ T ∈ Ss, T = S) {ls : List (Nat × Nat × Nat)} : ∀ prs : List (Nat × Nat), (∀ p ∈ prs, p.2 + 1 < Ss.length) → LCp Ss ls prs
  | [], _ => trivial
  | (i, m) :: prs, hp => ⟨lcl_const h (hp (i, m) (by simp)) ls, lcp_const h prs fun p hm => hp p (by simp [hm])⟩
theorem awpS_D {P : Program} {ops : Array Oper} {prs : List (Nat × Nat)} {K : List AV → ASt → Prop} {S : ASt} (n : Nat) (hp : ∀ p ∈ prs, p.2 < n) : ∀ (os : List Oper) (i : Nat) (fr : List AV) (Vs : List AV) (Ss : List ASt) (ls : List (Nat × Nat × Nat)), Ss.length = i + 1 → (∀ T ∈ Ss, T = S) → i + os.length = n →
    awpS P ops K S os fr → awpD P ops prs K os i fr S Vs Ss ls
  | [], i, fr, Vs, Ss, ls, h1, h2, h3, h => by
    rw [awpS] at h
    rw [awpD]
    exact ⟨lcp_const h2 prs fun p hm => by have := hp p hm; simp at h3; omega, h⟩
  | o :: os, i, fr, Vs, Ss, ls, h1, h2, h3, h => by
    have g1 : (Ss ++ [S]).length = (i + 1) + 1 := by simp [h1]
    have g2 : ∀ T ∈ Ss ++ [S], T = S := fun T hT => by
      rcases List.mem_append.1 hT with h | h
      · exact h2 T h
      · simpa using h
    have g3 : i + 1 + os.length = n := by simp at h3; omega
    rw [awpS] at h
    rw [awpD]
    split
    · rename_i hw
      rw [hw] at h
      simp only at h
      split
      · rename_i F args hc
        rw [hc] at h
        obtain ⟨r, k1, k2⟩ := h
        exact ⟨r, S, k1, awpS_D n hp os (i + 1) _ _ _ _ g1 g2 g3 k2⟩
      · rename_i hc
        rw [hc] at h
        simp only at h
        split
        · rename_i v ref he
          rw [he] at h
          exact awpS_D n hp os (i + 1) _ _ _ _ g1 g2 g3 h
        · rename_i he
          rw [he] at h
          simp only at h
          split
          · rename_i v S' hs
            rw [hs] at h
            obtain ⟨rfl, h⟩ := h
            exact awpS_D n hp os (i + 1) _ _ _ _ g1 g2 g3 h
          · rename_i hs
            rw [hs] at h
            exact h.elim
    · rename_i hw
      rw [hw] at h
      exact awpS_D n hp os (i + 1) _ _ _ _ g1 g2 g3 h
    · rename_i hw
      rw [hw] at h
      exact h.elim
/-- a region that draws its order and turns nothing -/
theorem awp_drawS {P : Program} {ops : Array Oper} {id : Nat} {fr : List AV} {S : ASt} {Q : Exit → List AV → ASt → Prop} (prs : List (Nat × Nat)) (hst : statD ops = true) (hprs : needLC ops = prs) (hr : (prs.all fun p => decide (p.2 < ops.size)) = true) (h : awpS P ops (Q .normal) S ops.toList fr) : awp P (.region id ops true) fr S Q :=
  awp_draw prs hst hprs (awpS_D ops.size (fun p hp => by simpa using List.all_eq_true.1 hr p hp) ops.toList 0 fr [] [S] [] rfl (fun T hT => by simpa using hT) (by simp) h)
end Go.Proofs.YtlnoacoanfhdcaaGreatDoor

namespace Go.Proofs.YtlnoacoanfhdcaaGreatDoor
open Go.RowKit
set_option linter.unusedVariables false

theorem run_bneq (a b : Bool) (x y : Operand) : pureRun Tryz.prog (do eqGuard .neq 4 x y (.bool a) (.bool b); binOp .neq 4 (.bool a) (.bool b) : Sem Value) = some (.bool (a != b)) := by
  cases a <;> cases b <;> kernel_rfl
theorem pureRun_map {P : Program} {α β : Type} (f : α → β) (s : Sem α) (a : α) (h : pureRun P s = some a) : pureRun P (f <$> s) = some (f a) := by
  induction s with
  | pure b => simp [pureRun] at h; subst h; rfl
  | program k ih => exact ih P (by simpa [pureRun] using h)
  | mark m k ih => exact ih (by simpa [pureRun] using h)
  | _ => simp [pureRun] at h
theorem genP_bneq {fr : List AV} {o : Oper} {x y : Operand} {k : TypeId} (a b : Bool) (ho : o.op = .binOp .neq 4 x y k) (hx : evA fr x = B a) (hy : evA fr y = B b) : genP Tryz.prog o fr = some (B (a != b)) := by
  obtain ⟨dst, op, ty, pos, after, guard⟩ := o
  simp only at ho
  subst ho
  have h1 : (noSel (.binOp .neq 4 x y k) && allAtoms fr (Op.operands (.binOp .neq 4 x y k)).toList) = true := by
    show (true && allAtoms fr [x, y]) = true
    rw [Bool.true_and, allAtoms, allAtoms, allAtoms, hx, hy]
    rfl
  have h2 : pureRun Tryz.prog (execOp (fun z => (atomV (evA fr z)).getD undef) ⟨dst, .binOp .neq 4 x y k, ty, pos, after, guard⟩) = some (.value (.bool (a != b))) := by
    have e1 : (atomV (evA fr x)).getD undef = .bool a := by rw [hx]; rfl
    have e2 : (atomV (evA fr y)).getD undef = .bool b := by rw [hy]; rfl
    unfold execOp
    simp only [e1, e2]
    exact pureRun_map _ _ _ (run_bneq a b x y)
  unfold genP
  simp only
  rw [if_pos h1, h2]
  rfl
/-- (kept shut) -/
noncomputable def genK (o : Oper) (fr : List AV) : Option AV := genP Tryz.prog o fr
@[simp] theorem genP_neq (dst : Option Tmp) (x y : Operand) (k ty : TypeId) (pos : String) (after : Array Edge) (guard : Option (Nat × Bool)) (fr : List AV) :
    genP Tryz.prog ⟨dst, .binOp .neq 4 x y k, ty, pos, after, guard⟩ fr = (match evA fr x, evA fr y with | .p (.v (.bool a)), .p (.v (.bool b)) => some (B (a != b)) | _, _ => genK ⟨dst, .binOp .neq 4 x y k, ty, pos, after, guard⟩ fr) := by
  split
  · rename_i a b hx hy
    exact genP_bneq a b rfl hx hy
  · rfl
end Go.Proofs.YtlnoacoanfhdcaaGreatDoor

namespace Go.Proofs.YtlnoacoanfhdcaaGreatDoor
open Go.RowKit
set_option linter.unusedVariables false

/-- what a body's end says, where nothing is forgotten -/
def RetFlat (P : Program) (rs : List ResultVar) (r : AV) (S' : ASt) : Exit → List AV → ASt → Prop := fun e fr S1 =>
  (e = .normal ∨ e = .ret) ∧ ∃ vs, resA P fr S1 rs = some vs ∧ retA vs = r ∧ S1 = S'
theorem retFlat_eq (P : Program) (rs : List ResultVar) (r : AV) (e : Exit) (fr : List AV) (S S1 : ASt) : RetFlat P rs r S e fr S1 = ((e = .normal ∨ e = .ret) ∧ ∃ vs, resA P fr S1 rs = some vs ∧ retA vs = r ∧ S1 = S) := by rw [RetFlat]
attribute [simp] retFlat_eq
theorem ADet.flat {P : Program} {K : FuncId} {args : List AV} {S S' : ASt} {r : AV} {fn : Func} {c : Code} (hm : P.follows .mixedOrders = true) (hK : ∀ xs w, (callFunc K xs).run P w = .ok (.enter K xs) w) (hf : P.funcs[K]? = some fn) (hb : fn.body = some c)
    (h : awp P c (args ++ List.replicate (fn.ntmps - args.length) .un) S (RetFlat P fn.results.toList r S')) : ADet P K args S r S' := by
  refine ⟨hK, fun Pr φ xs w hargs hR hne => ?_⟩
  refine calls_of_wp hf hb ?_
  have hfr : RF Pr φ (args ++ List.replicate (fn.ntmps - args.length) .un) { tmps := xs ++ Array.replicate (fn.ntmps - xs.size) undef, defers := [] } := by
    refine ⟨by simp [hargs.1], fun t v x hv hx => ?_⟩
    rcases Nat.lt_or_ge t args.length with ht | ht
    · rw [List.getElem?_append_left ht] at hv
      simp only at hx
      rw [Array.getElem?_append_left (by rw [← hargs.1]; exact ht)] at hx
      exact hargs.2 t v x hv hx
    · rw [List.getElem?_append_right ht] at hv
      simp only at hx
      rw [Array.getElem?_append_right (by rw [← hargs.1]; exact ht)] at hx
      rw [List.getElem?_replicate] at hv
      rw [Array.getElem?_replicate] at hx
      split at hv
      · split at hx
        · cases hv; cases hx; exact .un
        · cases hx
      · cases hv
  refine wp_mono (awp_ok hm c _ Pr φ _ _ S w hfr hR hne h) fun e a' w' hp => ?_
  obtain ⟨fr', S1, Pr', φ', ⟨he, vs, h1, h2, h3⟩, h4, h5, h6, h7⟩ := hp
  obtain ⟨x, hx, hrun⟩ := results_ok (P := P) (fn := fn) h4 h5 h1
  subst h3
  rw [h2] at hx
  have key : a'.defers = [] ∧ ∃ v, (results fn a'.tmps).run P w' = .ok v w' ∧ ∃ x Pr' φ', Ending.returned v = .returned x ∧ Stp Pr φ w Pr' φ' w' ∧ Rel Pr' φ' S1 w' ∧ RA Pr' φ' r x :=
    ⟨h7, x, hrun, x, Pr', φ', rfl, h6, h5, hx⟩
  rcases he with rfl | rfl
  · exact key
  · exact key
/-- less is said of the state behind a call -/
theorem ADet.after {P : Program} {K : FuncId} {args : List AV} {S S' S'' : ASt} {r : AV} (hw : wkT S' S'') (h : ADet P K args S r S') : ADet P K args S r S'' :=
  ⟨h.1, fun Pr φ xs w hargs hR hne => (h.2 Pr φ xs w hargs hR hne).mono fun e w' hp => by
    obtain ⟨x, Pr', φ', h1, h2, h3, h4⟩ := hp
    exact ⟨x, Pr', φ', h1, h2, rel_wk h3 (wkT_ok hw), h4⟩⟩
end Go.Proofs.YtlnoacoanfhdcaaGreatDoor

namespace Go.Proofs.YtlnoacoanfhdcaaGreatDoor
open Go.RowKit
set_option linter.unusedVariables false

theorem run_beql (a b : Bool) (x y : Operand) : pureRun Tryz.prog (do eqGuard .eql 4 x y (.bool a) (.bool b); binOp .eql 4 (.bool a) (.bool b) : Sem Value) = some (.bool (a == b)) := by
  cases a <;> cases b <;> kernel_rfl
theorem genP_beql {fr : List AV} {o : Oper} {x y : Operand} {k : TypeId} (a b : Bool) (ho : o.op = .binOp .eql 4 x y k) (hx : evA fr x = B a) (hy : evA fr y = B b) : genP Tryz.prog o fr = some (B (a == b)) := by
  obtain ⟨dst, op, ty, pos, after, guard⟩ := o
  simp only at ho
  subst ho
  have h1 : (noSel (.binOp .eql 4 x y k) && allAtoms fr (Op.operands (.binOp .eql 4 x y k)).toList) = true := by
    show (true && allAtoms fr [x, y]) = true
    rw [Bool.true_and, allAtoms, allAtoms, allAtoms, hx, hy]
    rfl
  have h2 : pureRun Tryz.prog (execOp (fun z => (atomV (evA fr z)).getD undef) ⟨dst, .binOp .eql 4 x y k, ty, pos, after, guard⟩) = some (.value (.bool (a == b))) := by
    have e1 : (atomV (evA fr x)).getD undef = .bool a := by rw [hx]; rfl
    have e2 : (atomV (evA fr y)).getD undef = .bool b := by rw [hy]; rfl
    unfold execOp
    simp only [e1, e2]
    exact pureRun_map _ _ _ (run_beql a b x y)
  unfold genP
  simp only
  rw [if_pos h1, h2]
  rfl
@[simp] theorem genP_eql (dst : Option Tmp) (x y : Operand) (k ty : TypeId) (pos : String) (after : Array Edge) (guard : Option (Nat × Bool)) (fr : List AV) :
    genP Tryz.prog ⟨dst, .binOp .eql 4 x y k, ty, pos, after, guard⟩ fr = (match evA fr x, evA fr y with | .p (.v (.bool a)), .p (.v (.bool b)) => some (B (a == b)) | _, _ => genK ⟨dst, .binOp .eql 4 x y k, ty, pos, after, guard⟩ fr) := by
  split
  · rename_i a b hx hy
    exact genP_beql a b rfl hx hy
  · rfl
end Go.Proofs.YtlnoacoanfhdcaaGreatDoor

namespace Go.Proofs.YtlnoacoanfhdcaaGreatDoor
open Go.RowKit
set_option linter.unusedVariables false

theorem get2_set2_ne {α : Type} (S : List (List α)) (d : Nat) {i j : Nat} (o : α) (h : i ≠ j) : get2 (set2 S d i o) d j = get2 S d j := by
  unfold get2 set2
  rcases Nat.lt_or_ge d S.length with hd | hd
  · rw [List.getElem?_set_self hd, List.getElem?_eq_getElem hd]
    simp only [Option.bind_some]
    rw [List.getElem?_set_ne h]
    simp [List.getD, hd]
  · rw [List.set_eq_of_length_le hd]
theorem set2_comm {α : Type} (S : List (List α)) (d : Nat) {i j : Nat} (a b : α) (h : i ≠ j) : set2 (set2 S d j a) d i b = set2 (set2 S d i b) d j a := by
  unfold set2
  rcases Nat.lt_or_ge d S.length with hd | hd
  · simp [List.getD, hd, List.set_comm _ _ h]
  · simp [List.set_eq_of_length_le hd]

theorem take_snoc {α : Type} (l : List α) {q : Nat} (h : q < l.length) : l.take (q + 1) = l.take q ++ [l[q]] := List.take_succ_eq_append_getElem h
end Go.Proofs.YtlnoacoanfhdcaaGreatDoor
