/- The facts on this seat's types and functions that the rules ask for. Printed by a program of this session. -/
import Derived.Test.YthdpebagkfloaaaDoorSlG
import Derived.Test.YthdpebagkfloaaaDoorProg
import Derived.KernelRfl
namespace Go.Proofs.YthdpebagkfloaaaDoor
open Go Go.RowKit SL
set_option maxRecDepth 100000
noncomputable abbrev P : Program := Tryd.prog
theorem mixed : P.follows .mixedOrders = true := by kernel_rfl
theorem und_int64 : P.underlying 2 = some (.int .i64) := by kernel_rfl
theorem tc_int64 : TC P 2 := ⟨fun w => by kernel_rfl, fun w => by kernel_rfl⟩
theorem te_int64 : TE P 2 1 8 (Value.int .i64 0) := TE.of (by kernel_rfl) (by kernel_rfl)
theorem und_int : P.underlying 3 = some (.int .i64) := by kernel_rfl
theorem tc_int : TC P 3 := ⟨fun w => by kernel_rfl, fun w => by kernel_rfl⟩
theorem te_int : TE P 3 1 8 (Value.int .i64 0) := TE.of (by kernel_rfl) (by kernel_rfl)
theorem und_bool : P.underlying 4 = some (.bool) := by kernel_rfl
theorem tc_bool : TC P 4 := ⟨fun w => by kernel_rfl, fun w => by kernel_rfl⟩
theorem te_bool : TE P 4 1 1 (Value.bool false) := TE.of (by kernel_rfl) (by kernel_rfl)
theorem und_uint8 : P.underlying 5 = some (.int .u8) := by kernel_rfl
theorem tc_uint8 : TC P 5 := ⟨fun w => by kernel_rfl, fun w => by kernel_rfl⟩
theorem te_uint8 : TE P 5 1 1 (Value.int .u8 0) := TE.of (by kernel_rfl) (by kernel_rfl)
theorem und_string : P.underlying 9 = some (.string) := by kernel_rfl
theorem tc_string : TC P 9 := ⟨fun w => by kernel_rfl, fun w => by kernel_rfl⟩
theorem te_string : TE P 9 1 16 (Value.string ByteArray.empty) := TE.of (by kernel_rfl) (by kernel_rfl)
theorem und_uintptr : P.underlying 12 = some (.int .u64) := by kernel_rfl
theorem tc_uintptr : TC P 12 := ⟨fun w => by kernel_rfl, fun w => by kernel_rfl⟩
theorem te_uintptr : TE P 12 1 8 (Value.int .u64 0) := TE.of (by kernel_rfl) (by kernel_rfl)
theorem ta_maps_unhashableTypeError : TA P 19 1 := ⟨fun w => by kernel_rfl, fun w => by kernel_rfl⟩
theorem te_maps_unhashableTypeError : TE P 19 1 8 (.agg #[(Value.pointer none)]) := TE.of (by kernel_rfl) (by kernel_rfl)
theorem ts_maps_unhashableTypeError : TS P 19 [(0, 1)] [(Value.pointer none)] := ⟨by kernel_rfl, te_maps_unhashableTypeError.zero⟩
theorem fa_maps_unhashableTypeError_0 : FieldAt P 19 0 0 := fun b o w => by kernel_rfl
theorem tc_any : TC P 20 := ⟨fun w => by kernel_rfl, fun w => by kernel_rfl⟩
theorem te_any : TE P 20 1 16 Value.nilIface := TE.of (by kernel_rfl) (by kernel_rfl)
theorem und_int32 : P.underlying 21 = some (.int .i32) := by kernel_rfl
theorem tc_int32 : TC P 21 := ⟨fun w => by kernel_rfl, fun w => by kernel_rfl⟩
theorem te_int32 : TE P 21 1 4 (Value.int .i32 0) := TE.of (by kernel_rfl) (by kernel_rfl)
theorem und_p_disk_Disk : P.underlying 23 = some (.pointer 47) := by kernel_rfl
theorem tc_p_disk_Disk : TC P 23 := ⟨fun w => by kernel_rfl, fun w => by kernel_rfl⟩
theorem te_p_disk_Disk : TE P 23 1 8 (Value.pointer none) := TE.of (by kernel_rfl) (by kernel_rfl)
theorem und_api_Errno : P.underlying 24 = some (.int .i64) := by kernel_rfl
theorem tc_api_Errno : TC P 24 := ⟨fun w => by kernel_rfl, fun w => by kernel_rfl⟩
theorem te_api_Errno : TE P 24 1 8 (Value.int .i64 0) := TE.of (by kernel_rfl) (by kernel_rfl)
theorem und_p_journal_Journal : P.underlying 27 = some (.pointer 50) := by kernel_rfl
theorem tc_p_journal_Journal : TC P 27 := ⟨fun w => by kernel_rfl, fun w => by kernel_rfl⟩
theorem te_p_journal_Journal : TE P 27 1 8 (Value.pointer none) := TE.of (by kernel_rfl) (by kernel_rfl)
theorem und_sl_uint8 : P.underlying 31 = some (.slice 5) := by kernel_rfl
theorem tc_sl_uint8 : TC P 31 := ⟨fun w => by kernel_rfl, fun w => by kernel_rfl⟩
theorem te_sl_uint8 : TE P 31 1 24 (Value.slice none 0 0) := TE.of (by kernel_rfl) (by kernel_rfl)
theorem und_sl_sl_uint8 : P.underlying 32 = some (.slice 31) := by kernel_rfl
theorem tc_sl_sl_uint8 : TC P 32 := ⟨fun w => by kernel_rfl, fun w => by kernel_rfl⟩
theorem te_sl_sl_uint8 : TE P 32 1 24 (Value.slice none 0 0) := TE.of (by kernel_rfl) (by kernel_rfl)
theorem und_uint64 : P.underlying 37 = some (.int .u64) := by kernel_rfl
theorem tc_uint64 : TC P 37 := ⟨fun w => by kernel_rfl, fun w => by kernel_rfl⟩
theorem te_uint64 : TE P 37 1 8 (Value.int .u64 0) := TE.of (by kernel_rfl) (by kernel_rfl)
theorem und_sl_bandboxlaw14_Act : P.underlying 40 = some (.slice 42) := by kernel_rfl
theorem tc_sl_bandboxlaw14_Act : TC P 40 := ⟨fun w => by kernel_rfl, fun w => by kernel_rfl⟩
theorem te_sl_bandboxlaw14_Act : TE P 40 1 24 (Value.slice none 0 0) := TE.of (by kernel_rfl) (by kernel_rfl)
theorem ta_bandboxlaw14_Act : TA P 42 5 := ⟨fun w => by kernel_rfl, fun w => by kernel_rfl⟩
theorem te_bandboxlaw14_Act : TE P 42 5 72 (.agg #[(Value.int .i64 0), (Value.int .i64 0), (Value.int .u64 0), (Value.slice none 0 0), (Value.slice none 0 0)]) := TE.of (by kernel_rfl) (by kernel_rfl)
theorem ts_bandboxlaw14_Act : TS P 42 [(0, 1), (1, 1), (2, 1), (3, 1), (4, 1)] [(Value.int .i64 0), (Value.int .i64 0), (Value.int .u64 0), (Value.slice none 0 0), (Value.slice none 0 0)] := ⟨by kernel_rfl, te_bandboxlaw14_Act.zero⟩
theorem fa_bandboxlaw14_Act_0 : FieldAt P 42 0 0 := fun b o w => by kernel_rfl
theorem fa_bandboxlaw14_Act_1 : FieldAt P 42 1 1 := fun b o w => by kernel_rfl
theorem fa_bandboxlaw14_Act_2 : FieldAt P 42 2 2 := fun b o w => by kernel_rfl
theorem fa_bandboxlaw14_Act_3 : FieldAt P 42 3 3 := fun b o w => by kernel_rfl
theorem fa_bandboxlaw14_Act_4 : FieldAt P 42 4 4 := fun b o w => by kernel_rfl
theorem und_m_string_p_disk_file : P.underlying 45 = some (.map 9 60) := by kernel_rfl
theorem tc_m_string_p_disk_file : TC P 45 := ⟨fun w => by kernel_rfl, fun w => by kernel_rfl⟩
theorem te_m_string_p_disk_file : TE P 45 1 8 (Value.map none) := TE.of (by kernel_rfl) (by kernel_rfl)
theorem ta_disk_Disk : TA P 47 4 := ⟨fun w => by kernel_rfl, fun w => by kernel_rfl⟩
theorem te_disk_Disk : TE P 47 4 32 (.agg #[(Value.int .i64 0), (Value.map none), (Value.bool false), (Value.int .i64 0)]) := TE.of (by kernel_rfl) (by kernel_rfl)
theorem ts_disk_Disk : TS P 47 [(0, 1), (1, 1), (2, 1), (3, 1)] [(Value.int .i64 0), (Value.map none), (Value.bool false), (Value.int .i64 0)] := ⟨by kernel_rfl, te_disk_Disk.zero⟩
theorem fa_disk_Disk_0 : FieldAt P 47 0 0 := fun b o w => by kernel_rfl
theorem fa_disk_Disk_1 : FieldAt P 47 1 1 := fun b o w => by kernel_rfl
theorem fa_disk_Disk_2 : FieldAt P 47 2 2 := fun b o w => by kernel_rfl
theorem fa_disk_Disk_3 : FieldAt P 47 3 3 := fun b o w => by kernel_rfl
theorem ta_journal_Journal : TA P 50 8 := ⟨fun w => by kernel_rfl, fun w => by kernel_rfl⟩
theorem te_journal_Journal : TE P 50 8 96 (.agg #[(Value.pointer none), (Value.int .i64 0), (Value.int .u64 0), (Value.int .i64 0), (Value.bool false), (Value.slice none 0 0), (Value.slice none 0 0), (Value.bool false)]) := TE.of (by kernel_rfl) (by kernel_rfl)
theorem ts_journal_Journal : TS P 50 [(0, 1), (1, 1), (2, 1), (3, 1), (4, 1), (5, 1), (6, 1), (7, 1)] [(Value.pointer none), (Value.int .i64 0), (Value.int .u64 0), (Value.int .i64 0), (Value.bool false), (Value.slice none 0 0), (Value.slice none 0 0), (Value.bool false)] := ⟨by kernel_rfl, te_journal_Journal.zero⟩
theorem fa_journal_Journal_0 : FieldAt P 50 0 0 := fun b o w => by kernel_rfl
theorem fa_journal_Journal_1 : FieldAt P 50 1 1 := fun b o w => by kernel_rfl
theorem fa_journal_Journal_2 : FieldAt P 50 2 2 := fun b o w => by kernel_rfl
theorem fa_journal_Journal_3 : FieldAt P 50 3 3 := fun b o w => by kernel_rfl
theorem fa_journal_Journal_4 : FieldAt P 50 4 4 := fun b o w => by kernel_rfl
theorem fa_journal_Journal_5 : FieldAt P 50 5 5 := fun b o w => by kernel_rfl
theorem fa_journal_Journal_6 : FieldAt P 50 6 6 := fun b o w => by kernel_rfl
theorem fa_journal_Journal_7 : FieldAt P 50 7 7 := fun b o w => by kernel_rfl
theorem und_p_disk_file : P.underlying 60 = some (.pointer 71) := by kernel_rfl
theorem tc_p_disk_file : TC P 60 := ⟨fun w => by kernel_rfl, fun w => by kernel_rfl⟩
theorem te_p_disk_file : TE P 60 1 8 (Value.pointer none) := TE.of (by kernel_rfl) (by kernel_rfl)
theorem ta_disk_file : TA P 71 2 := ⟨fun w => by kernel_rfl, fun w => by kernel_rfl⟩
theorem te_disk_file : TE P 71 2 48 (.agg #[(Value.slice none 0 0), (Value.slice none 0 0)]) := TE.of (by kernel_rfl) (by kernel_rfl)
theorem ts_disk_file : TS P 71 [(0, 1), (1, 1)] [(Value.slice none 0 0), (Value.slice none 0 0)] := ⟨by kernel_rfl, te_disk_file.zero⟩
theorem fa_disk_file_0 : FieldAt P 71 0 0 := fun b o w => by kernel_rfl
theorem fa_disk_file_1 : FieldAt P 71 1 1 := fun b o w => by kernel_rfl
theorem und_a32_uint8 : P.underlying 73 = some (.array 32 5) := by kernel_rfl
theorem ta_a32_uint8 : TA P 73 32 := ⟨fun w => by kernel_rfl, fun w => by kernel_rfl⟩
theorem te_a32_uint8 : TE P 73 32 32 (.agg (List.replicate 32 (Value.int .u8 0)).toArray) := TE.of (by kernel_rfl) (by kernel_rfl)
theorem und_api_Word : P.underlying 74 = some (.array 32 5) := by kernel_rfl
theorem ta_api_Word : TA P 74 32 := ⟨fun w => by kernel_rfl, fun w => by kernel_rfl⟩
theorem te_api_Word : TE P 74 32 32 (.agg (List.replicate 32 (Value.int .u8 0)).toArray) := TE.of (by kernel_rfl) (by kernel_rfl)
theorem und_uint : P.underlying 77 = some (.int .u64) := by kernel_rfl
theorem tc_uint : TC P 77 := ⟨fun w => by kernel_rfl, fun w => by kernel_rfl⟩
theorem te_uint : TE P 77 1 8 (Value.int .u64 0) := TE.of (by kernel_rfl) (by kernel_rfl)
theorem und_sl_string : P.underlying 79 = some (.slice 9) := by kernel_rfl
theorem tc_sl_string : TC P 79 := ⟨fun w => by kernel_rfl, fun w => by kernel_rfl⟩
theorem te_sl_string : TE P 79 1 24 (Value.slice none 0 0) := TE.of (by kernel_rfl) (by kernel_rfl)
theorem und_p_sha_Sum : P.underlying 81 = some (.pointer 98) := by kernel_rfl
theorem tc_p_sha_Sum : TC P 81 := ⟨fun w => by kernel_rfl, fun w => by kernel_rfl⟩
theorem te_p_sha_Sum : TE P 81 1 8 (Value.pointer none) := TE.of (by kernel_rfl) (by kernel_rfl)
theorem und_a24_uint8 : P.underlying 87 = some (.array 24 5) := by kernel_rfl
theorem ta_a24_uint8 : TA P 87 24 := ⟨fun w => by kernel_rfl, fun w => by kernel_rfl⟩
theorem te_a24_uint8 : TE P 87 24 24 (.agg (List.replicate 24 (Value.int .u8 0)).toArray) := TE.of (by kernel_rfl) (by kernel_rfl)
theorem und_uint32 : P.underlying 92 = some (.int .u32) := by kernel_rfl
theorem tc_uint32 : TC P 92 := ⟨fun w => by kernel_rfl, fun w => by kernel_rfl⟩
theorem te_uint32 : TE P 92 1 4 (Value.int .u32 0) := TE.of (by kernel_rfl) (by kernel_rfl)
theorem und_a8_uint32 : P.underlying 93 = some (.array 8 92) := by kernel_rfl
theorem ta_a8_uint32 : TA P 93 8 := ⟨fun w => by kernel_rfl, fun w => by kernel_rfl⟩
theorem te_a8_uint32 : TE P 93 8 32 (.agg #[(Value.int .u32 0), (Value.int .u32 0), (Value.int .u32 0), (Value.int .u32 0), (Value.int .u32 0), (Value.int .u32 0), (Value.int .u32 0), (Value.int .u32 0)]) := TE.of (by kernel_rfl) (by kernel_rfl)
theorem und_a64_uint32 : P.underlying 95 = some (.array 64 92) := by kernel_rfl
theorem ta_a64_uint32 : TA P 95 64 := ⟨fun w => by kernel_rfl, fun w => by kernel_rfl⟩
theorem te_a64_uint32 : TE P 95 64 256 (.agg (List.replicate 64 (Value.int .u32 0)).toArray) := TE.of (by kernel_rfl) (by kernel_rfl)
theorem ta_sha_Sum : TA P 98 74 := ⟨fun w => by kernel_rfl, fun w => by kernel_rfl⟩
theorem te_sha_Sum : TE P 98 74 320 (.agg (List.replicate 72 (Value.int .u32 0) ++ [(Value.slice none 0 0), (Value.int .i64 0)]).toArray) := TE.of (by kernel_rfl) (by kernel_rfl)
theorem ts_sha_Sum : TS P 98 [(0, 8), (8, 64), (72, 1), (73, 1)] (List.replicate 72 (Value.int .u32 0) ++ [(Value.slice none 0 0), (Value.int .i64 0)]) := ⟨by kernel_rfl, te_sha_Sum.zero⟩
theorem fa_sha_Sum_0 : FieldAt P 98 0 0 := fun b o w => by kernel_rfl
theorem fa_sha_Sum_1 : FieldAt P 98 1 8 := fun b o w => by kernel_rfl
theorem fa_sha_Sum_2 : FieldAt P 98 2 72 := fun b o w => by kernel_rfl
theorem fa_sha_Sum_3 : FieldAt P 98 3 73 := fun b o w => by kernel_rfl
theorem und_p_a64_uint32 : P.underlying 100 = some (.pointer 95) := by kernel_rfl
theorem tc_p_a64_uint32 : TC P 100 := ⟨fun w => by kernel_rfl, fun w => by kernel_rfl⟩
theorem te_p_a64_uint32 : TE P 100 1 8 (Value.pointer none) := TE.of (by kernel_rfl) (by kernel_rfl)
theorem und_a20_uint64 : P.underlying 105 = some (.array 20 37) := by kernel_rfl
theorem ta_a20_uint64 : TA P 105 20 := ⟨fun w => by kernel_rfl, fun w => by kernel_rfl⟩
theorem te_a20_uint64 : TE P 105 20 160 (.agg (List.replicate 20 (Value.int .u64 0)).toArray) := TE.of (by kernel_rfl) (by kernel_rfl)
theorem und_a65_uint8 : P.underlying 106 = some (.array 65 5) := by kernel_rfl
theorem ta_a65_uint8 : TA P 106 65 := ⟨fun w => by kernel_rfl, fun w => by kernel_rfl⟩
theorem te_a65_uint8 : TE P 106 65 65 (.agg (List.replicate 65 (Value.int .u8 0)).toArray) := TE.of (by kernel_rfl) (by kernel_rfl)
theorem und_a64_uint8 : P.underlying 111 = some (.array 64 5) := by kernel_rfl
theorem ta_a64_uint8 : TA P 111 64 := ⟨fun w => by kernel_rfl, fun w => by kernel_rfl⟩
theorem te_a64_uint8 : TE P 111 64 64 (.agg (List.replicate 64 (Value.int .u8 0)).toArray) := TE.of (by kernel_rfl) (by kernel_rfl)
theorem und_a0_p_runtime_PanicNilError : P.underlying 115 = some (.array 0 16) := by kernel_rfl
theorem ta_a0_p_runtime_PanicNilError : TA P 115 0 := ⟨fun w => by kernel_rfl, fun w => by kernel_rfl⟩
theorem te_a0_p_runtime_PanicNilError : TE P 115 0 0 (.agg #[]) := TE.of (by kernel_rfl) (by kernel_rfl)
theorem und_p_uint8 : P.underlying 121 = some (.pointer 5) := by kernel_rfl
theorem tc_p_uint8 : TC P 121 := ⟨fun w => by kernel_rfl, fun w => by kernel_rfl⟩
theorem te_p_uint8 : TE P 121 1 8 (Value.pointer none) := TE.of (by kernel_rfl) (by kernel_rfl)
theorem tc_unsafe_Pointer : TC P 127 := ⟨fun w => by kernel_rfl, fun w => by kernel_rfl⟩
abbrev n_bandboxlaw14_JournalKnown : Nat := 3
theorem E_bandboxlaw14_JournalKnown : Enters P 3 := fun args w => by kernel_rfl
theorem fn_bandboxlaw14_JournalKnown : P.funcs[3]? = some Tryd.f3 := Tryd.func3
abbrev n_bandboxlaw14_JournalPlays : Nat := 4
theorem E_bandboxlaw14_JournalPlays : Enters P 4 := fun args w => by kernel_rfl
theorem fn_bandboxlaw14_JournalPlays : P.funcs[4]? = some Tryd.f4 := Tryd.func4
abbrev n_bandboxlaw14_JournalKeeps : Nat := 5
theorem E_bandboxlaw14_JournalKeeps : Enters P 5 := fun args w => by kernel_rfl
theorem fn_bandboxlaw14_JournalKeeps : P.funcs[5]? = some Tryd.f5 := Tryd.func5
abbrev n_bandboxlaw14_awake : Nat := 6
theorem E_bandboxlaw14_awake : Enters P 6 := fun args w => by kernel_rfl
theorem fn_bandboxlaw14_awake : P.funcs[6]? = some Tryd.f6 := Tryd.func6
abbrev n_disk_New : Nat := 7
theorem E_disk_New : Enters P 7 := fun args w => by kernel_rfl
theorem fn_disk_New : P.funcs[7]? = some Tryd.f7 := Tryd.func7
abbrev n_journal_Open : Nat := 8
theorem E_journal_Open : Enters P 8 := fun args w => by kernel_rfl
theorem fn_journal_Open : P.funcs[8]? = some Tryd.f8 := Tryd.func8
abbrev n_journal_Journal_Add : Nat := 9
theorem E_journal_Journal_Add : Enters P 9 := fun args w => by kernel_rfl
theorem fn_journal_Journal_Add : P.funcs[9]? = some Tryd.f9 := Tryd.func9
abbrev n_journal_Journal_All : Nat := 10
theorem E_journal_Journal_All : Enters P 10 := fun args w => by kernel_rfl
theorem fn_journal_Journal_All : P.funcs[10]? = some Tryd.f10 := Tryd.func10
abbrev n_journal_Journal_Keep : Nat := 11
theorem E_journal_Journal_Keep : Enters P 11 := fun args w => by kernel_rfl
theorem fn_journal_Journal_Keep : P.funcs[11]? = some Tryd.f11 := Tryd.func11
abbrev n_journal_Journal_Sync : Nat := 12
theorem E_journal_Journal_Sync : Enters P 12 := fun args w => by kernel_rfl
theorem fn_journal_Journal_Sync : P.funcs[12]? = some Tryd.f12 := Tryd.func12
abbrev n_disk_Disk_Crash : Nat := 13
theorem E_disk_Disk_Crash : Enters P 13 := fun args w => by kernel_rfl
theorem fn_disk_Disk_Crash : P.funcs[13]? = some Tryd.f13 := Tryd.func13
abbrev n_disk_Disk_On : Nat := 14
theorem E_disk_Disk_On : Enters P 14 := fun args w => by kernel_rfl
theorem fn_disk_Disk_On : P.funcs[14]? = some Tryd.f14 := Tryd.func14
abbrev n_journal_Journal_Done : Nat := 15
theorem E_journal_Journal_Done : Enters P 15 := fun args w => by kernel_rfl
theorem fn_journal_Journal_Done : P.funcs[15]? = some Tryd.f15 := Tryd.func15
abbrev n_journal_Journal_Base : Nat := 16
theorem E_journal_Journal_Base : Enters P 16 := fun args w => by kernel_rfl
theorem fn_journal_Journal_Base : P.funcs[16]? = some Tryd.f16 := Tryd.func16
abbrev n_bandboxlaw14_same : Nat := 17
theorem E_bandboxlaw14_same : Enters P 17 := fun args w => by kernel_rfl
theorem fn_bandboxlaw14_same : P.funcs[17]? = some Tryd.f17 := Tryd.func17
abbrev n_disk_Disk_Power : Nat := 18
theorem E_disk_Disk_Power : Enters P 18 := fun args w => by kernel_rfl
theorem fn_disk_Disk_Power : P.funcs[18]? = some Tryd.f18 := Tryd.func18
abbrev n_disk_Disk_Lives : Nat := 19
theorem E_disk_Disk_Lives : Enters P 19 := fun args w => by kernel_rfl
theorem fn_disk_Disk_Lives : P.funcs[19]? = some Tryd.f19 := Tryd.func19
abbrev n_journal_Journal_readBase : Nat := 20
theorem E_journal_Journal_readBase : Enters P 20 := fun args w => by kernel_rfl
theorem fn_journal_Journal_readBase : P.funcs[20]? = some Tryd.f20 := Tryd.func20
abbrev n_disk_Disk_Drop : Nat := 21
theorem E_disk_Disk_Drop : Enters P 21 := fun args w => by kernel_rfl
theorem fn_disk_Disk_Drop : P.funcs[21]? = some Tryd.f21 := Tryd.func21
abbrev n_journal_Journal_tidy : Nat := 22
theorem E_journal_Journal_tidy : Enters P 22 := fun args w => by kernel_rfl
theorem fn_journal_Journal_tidy : P.funcs[22]? = some Tryd.f22 := Tryd.func22
abbrev n_journal_Journal_readPart : Nat := 23
theorem E_journal_Journal_readPart : Enters P 23 := fun args w => by kernel_rfl
theorem fn_journal_Journal_readPart : P.funcs[23]? = some Tryd.f23 := Tryd.func23
abbrev n_disk_Disk_Append : Nat := 24
theorem E_disk_Disk_Append : Enters P 24 := fun args w => by kernel_rfl
theorem fn_disk_Disk_Append : P.funcs[24]? = some Tryd.f24 := Tryd.func24
abbrev n_journal_name : Nat := 25
theorem E_journal_name : Enters P 25 := fun args w => by kernel_rfl
theorem fn_journal_name : P.funcs[25]? = some Tryd.f25 := Tryd.func25
abbrev n_journal_frame : Nat := 26
theorem E_journal_frame : Enters P 26 := fun args w => by kernel_rfl
theorem fn_journal_frame : P.funcs[26]? = some Tryd.f26 := Tryd.func26
abbrev n_journal_Journal_failed : Nat := 27
theorem E_journal_Journal_failed : Enters P 27 := fun args w => by kernel_rfl
theorem fn_journal_Journal_failed : P.funcs[27]? = some Tryd.f27 := Tryd.func27
abbrev n_bytes_Clone : Nat := 28
theorem E_bytes_Clone : Enters P 28 := fun args w => by kernel_rfl
theorem fn_bytes_Clone : P.funcs[28]? = some Tryd.f28 := Tryd.func28
abbrev n_octet_Big : Nat := 29
theorem E_octet_Big : Enters P 29 := fun args w => by kernel_rfl
theorem fn_octet_Big : P.funcs[29]? = some Tryd.f29 := Tryd.func29
abbrev n_disk_Disk_Sync : Nat := 30
theorem E_disk_Disk_Sync : Enters P 30 := fun args w => by kernel_rfl
theorem fn_disk_Disk_Sync : P.funcs[30]? = some Tryd.f30 := Tryd.func30
abbrev n_disk_Disk_Rename : Nat := 31
theorem E_disk_Disk_Rename : Enters P 31 := fun args w => by kernel_rfl
theorem fn_disk_Disk_Rename : P.funcs[31]? = some Tryd.f31 := Tryd.func31
abbrev n_disk_file_crash : Nat := 32
theorem E_disk_file_crash : Enters P 32 := fun args w => by kernel_rfl
theorem fn_disk_file_crash : P.funcs[32]? = some Tryd.f32 := Tryd.func32
abbrev n_disk_Disk_Read : Nat := 33
theorem E_disk_Disk_Read : Enters P 33 := fun args w => by kernel_rfl
theorem fn_disk_Disk_Read : P.funcs[33]? = some Tryd.f33 := Tryd.func33
abbrev n_journal_next : Nat := 34
theorem E_journal_next : Enters P 34 := fun args w => by kernel_rfl
theorem fn_journal_next : P.funcs[34]? = some Tryd.f34 := Tryd.func34
abbrev n_octet_FromBig : Nat := 35
theorem E_octet_FromBig : Enters P 35 := fun args w => by kernel_rfl
theorem fn_octet_FromBig : P.funcs[35]? = some Tryd.f35 := Tryd.func35
abbrev n_disk_Disk_find : Nat := 36
theorem E_disk_Disk_find : Enters P 36 := fun args w => by kernel_rfl
theorem fn_disk_Disk_find : P.funcs[36]? = some Tryd.f36 := Tryd.func36
abbrev n_disk_Disk_ask : Nat := 37
theorem E_disk_Disk_ask : Enters P 37 := fun args w => by kernel_rfl
theorem fn_disk_Disk_ask : P.funcs[37]? = some Tryd.f37 := Tryd.func37
abbrev n_disk_Disk_size : Nat := 38
theorem E_disk_Disk_size : Enters P 38 := fun args w => by kernel_rfl
theorem fn_disk_Disk_size : P.funcs[38]? = some Tryd.f38 := Tryd.func38
abbrev n_slices_Clone_sl_byte_byte : Nat := 39
theorem E_slices_Clone_sl_byte_byte : Enters P 39 := fun args w => by kernel_rfl
theorem fn_slices_Clone_sl_byte_byte : P.funcs[39]? = some Tryd.f39 := Tryd.func39
abbrev n_strconv_FormatUint : Nat := 40
theorem E_strconv_FormatUint : Enters P 40 := fun args w => by kernel_rfl
theorem fn_strconv_FormatUint : P.funcs[40]? = some Tryd.f40 := Tryd.func40
abbrev n_strconv_FormatInt : Nat := 41
theorem E_strconv_FormatInt : Enters P 41 := fun args w => by kernel_rfl
theorem fn_strconv_FormatInt : P.funcs[41]? = some Tryd.f41 := Tryd.func41
abbrev n_sha_Of : Nat := 42
theorem E_sha_Of : Enters P 42 := fun args w => by kernel_rfl
theorem fn_sha_Of : P.funcs[42]? = some Tryd.f42 := Tryd.func42
abbrev n_disk_file_sync : Nat := 43
theorem E_disk_file_sync : Enters P 43 := fun args w => by kernel_rfl
theorem fn_disk_file_sync : P.funcs[43]? = some Tryd.f43 := Tryd.func43
abbrev n_disk_file_crash_1 : Nat := 44
theorem E_disk_file_crash_1 : Enters P 44 := fun args w => by kernel_rfl
theorem fn_disk_file_crash_1 : P.funcs[44]? = some Tryd.f44 := Tryd.func44
abbrev n_disk_file_all : Nat := 45
theorem E_disk_file_all : Enters P 45 := fun args w => by kernel_rfl
theorem fn_disk_file_all : P.funcs[45]? = some Tryd.f45 := Tryd.func45
abbrev n_bytes_Equal : Nat := 46
theorem E_bytes_Equal : Enters P 46 := fun args w => by kernel_rfl
theorem fn_bytes_Equal : P.funcs[46]? = some Tryd.f46 := Tryd.func46
abbrev n_disk_good : Nat := 47
theorem E_disk_good : Enters P 47 := fun args w => by kernel_rfl
theorem fn_disk_good : P.funcs[47]? = some Tryd.f47 := Tryd.func47
abbrev n_disk_file_size : Nat := 48
theorem E_disk_file_size : Enters P 48 := fun args w => by kernel_rfl
theorem fn_disk_file_size : P.funcs[48]? = some Tryd.f48 := Tryd.func48
abbrev n_internal_strconv_FormatUint : Nat := 49
theorem E_internal_strconv_FormatUint : Enters P 49 := fun args w => by kernel_rfl
theorem fn_internal_strconv_FormatUint : P.funcs[49]? = some Tryd.f49 := Tryd.func49
abbrev n_internal_strconv_FormatInt : Nat := 50
theorem E_internal_strconv_FormatInt : Enters P 50 := fun args w => by kernel_rfl
theorem fn_internal_strconv_FormatInt : P.funcs[50]? = some Tryd.f50 := Tryd.func50
abbrev n_sha_New : Nat := 51
theorem E_sha_New : Enters P 51 := fun args w => by kernel_rfl
theorem fn_sha_New : P.funcs[51]? = some Tryd.f51 := Tryd.func51
abbrev n_sha_Sum_Add : Nat := 52
theorem E_sha_Sum_Add : Enters P 52 := fun args w => by kernel_rfl
theorem fn_sha_Sum_Add : P.funcs[52]? = some Tryd.f52 := Tryd.func52
abbrev n_sha_Sum_Word : Nat := 53
theorem E_sha_Sum_Word : Enters P 53 := fun args w => by kernel_rfl
theorem fn_sha_Sum_Word : P.funcs[53]? = some Tryd.f53 := Tryd.func53
abbrev n_slices_Concat_sl_byte_byte : Nat := 54
theorem E_slices_Concat_sl_byte_byte : Enters P 54 := fun args w => by kernel_rfl
theorem fn_slices_Concat_sl_byte_byte : P.funcs[54]? = some Tryd.f54 := Tryd.func54
abbrev n_internal_strconv_small : Nat := 55
theorem E_internal_strconv_small : Enters P 55 := fun args w => by kernel_rfl
theorem fn_internal_strconv_small : P.funcs[55]? = some Tryd.f55 := Tryd.func55
abbrev n_internal_strconv_numDigits : Nat := 56
theorem E_internal_strconv_numDigits : Enters P 56 := fun args w => by kernel_rfl
theorem fn_internal_strconv_numDigits : P.funcs[56]? = some Tryd.f56 := Tryd.func56
abbrev n_internal_strconv_formatBase10 : Nat := 57
theorem E_internal_strconv_formatBase10 : Enters P 57 := fun args w => by kernel_rfl
theorem fn_internal_strconv_formatBase10 : P.funcs[57]? = some Tryd.f57 := Tryd.func57
abbrev n_internal_strconv_formatBits : Nat := 58
theorem E_internal_strconv_formatBits : Enters P 58 := fun args w => by kernel_rfl
theorem fn_internal_strconv_formatBits : P.funcs[58]? = some Tryd.f58 := Tryd.func58
abbrev n_sha_start : Nat := 59
theorem E_sha_start : Enters P 59 := fun args w => by kernel_rfl
theorem fn_sha_start : P.funcs[59]? = some Tryd.f59 := Tryd.func59
abbrev n_sha_constants : Nat := 60
theorem E_sha_constants : Enters P 60 := fun args w => by kernel_rfl
theorem fn_sha_constants : P.funcs[60]? = some Tryd.f60 := Tryd.func60
abbrev n_sha_mix : Nat := 61
theorem E_sha_mix : Enters P 61 := fun args w => by kernel_rfl
theorem fn_sha_mix : P.funcs[61]? = some Tryd.f61 := Tryd.func61
abbrev n_sha_padding : Nat := 62
theorem E_sha_padding : Enters P 62 := fun args w => by kernel_rfl
theorem fn_sha_padding : P.funcs[62]? = some Tryd.f62 := Tryd.func62
abbrev n_slices_Grow_sl_byte_byte : Nat := 63
theorem E_slices_Grow_sl_byte_byte : Enters P 63 := fun args w => by kernel_rfl
theorem fn_slices_Grow_sl_byte_byte : P.funcs[63]? = some Tryd.f63 := Tryd.func63
abbrev n_internal_strconv_log10Pow2 : Nat := 64
theorem E_internal_strconv_log10Pow2 : Enters P 64 := fun args w => by kernel_rfl
theorem fn_internal_strconv_log10Pow2 : P.funcs[64]? = some Tryd.f64 := Tryd.func64
abbrev n_math_bits_Len64 : Nat := 65
theorem E_math_bits_Len64 : Enters P 65 := fun args w => by kernel_rfl
theorem fn_math_bits_Len64 : P.funcs[65]? = some Tryd.f65 := Tryd.func65
abbrev n_internal_strconv_bool2_int : Nat := 66
theorem E_internal_strconv_bool2_int : Enters P 66 := fun args w => by kernel_rfl
theorem fn_internal_strconv_bool2_int : P.funcs[66]? = some Tryd.f66 := Tryd.func66
abbrev n_internal_strconv_isPowerOfTwo : Nat := 67
theorem E_internal_strconv_isPowerOfTwo : Enters P 67 := fun args w => by kernel_rfl
theorem fn_internal_strconv_isPowerOfTwo : P.funcs[67]? = some Tryd.f67 := Tryd.func67
abbrev n_math_bits_TrailingZeros : Nat := 68
theorem E_math_bits_TrailingZeros : Enters P 68 := fun args w => by kernel_rfl
theorem fn_math_bits_TrailingZeros : P.funcs[68]? = some Tryd.f68 := Tryd.func68
abbrev n_sha_schedule : Nat := 69
theorem E_sha_schedule : Enters P 69 := fun args w => by kernel_rfl
theorem fn_sha_schedule : P.funcs[69]? = some Tryd.f69 := Tryd.func69
abbrev n_sha_turn : Nat := 70
theorem E_sha_turn : Enters P 70 := fun args w => by kernel_rfl
theorem fn_sha_turn : P.funcs[70]? = some Tryd.f70 := Tryd.func70
abbrev n_math_bits_TrailingZeros32 : Nat := 71
theorem E_math_bits_TrailingZeros32 : Enters P 71 := fun args w => by kernel_rfl
theorem fn_math_bits_TrailingZeros32 : P.funcs[71]? = some Tryd.f71 := Tryd.func71
abbrev n_math_bits_TrailingZeros64 : Nat := 72
theorem E_math_bits_TrailingZeros64 : Enters P 72 := fun args w => by kernel_rfl
theorem fn_math_bits_TrailingZeros64 : P.funcs[72]? = some Tryd.f72 := Tryd.func72
abbrev n_math_bits_RotateLeft32 : Nat := 73
theorem E_math_bits_RotateLeft32 : Enters P 73 := fun args w => by kernel_rfl
theorem fn_math_bits_RotateLeft32 : P.funcs[73]? = some Tryd.f73 := Tryd.func73
abbrev n_internal_abi_Type_Align : Nat := 86
abbrev n_api_Errno_Error : Nat := 89
abbrev n_sha_Sum_Len : Nat := 90
end Go.Proofs.YthdpebagkfloaaaDoor

