/- The type table's facts, and the functions', by the kernel each. Written by gen_inst.py. -/
import Derived.Test.YthcgmdmdgpljmaaDoorRun
import Derived.Test.YthcgmdmdgpljmaaDoorProg
set_option linter.unusedVariables false
set_option maxRecDepth 100000
namespace Go.Proofs.YthcgmdmdgpljmaaDoor.Z
open Go
noncomputable abbrev P : Program := Tryd.prog
instance : TI P 1 1 8 := ⟨by kernel_rfl⟩
instance : TZ P 1 Value.nilFunc := ⟨by kernel_rfl⟩
instance : TE P 1 1 8 Value.nilFunc := ⟨inferInstance, inferInstance, by kernel_rfl, by decide⟩
instance : TS P 1 := ⟨fun _ => by kernel_rfl⟩
instance : TU P 2 (.int .i64) := ⟨by kernel_rfl⟩
instance : TI P 2 1 8 := ⟨by kernel_rfl⟩
instance : TZ P 2 (Value.int .i64 0) := ⟨by kernel_rfl⟩
instance : TE P 2 1 8 (Value.int .i64 0) := ⟨inferInstance, inferInstance, by kernel_rfl, by decide⟩
instance : TS P 2 := ⟨fun _ => by kernel_rfl⟩
instance : TU P 3 (.int .i64) := ⟨by kernel_rfl⟩
instance : TI P 3 1 8 := ⟨by kernel_rfl⟩
instance : TZ P 3 (Value.int .i64 0) := ⟨by kernel_rfl⟩
instance : TE P 3 1 8 (Value.int .i64 0) := ⟨inferInstance, inferInstance, by kernel_rfl, by decide⟩
instance : TS P 3 := ⟨fun _ => by kernel_rfl⟩
instance : TU P 4 .bool := ⟨by kernel_rfl⟩
instance : TI P 4 1 1 := ⟨by kernel_rfl⟩
instance : TZ P 4 (Value.bool false) := ⟨by kernel_rfl⟩
instance : TE P 4 1 1 (Value.bool false) := ⟨inferInstance, inferInstance, by kernel_rfl, by decide⟩
instance : TS P 4 := ⟨fun _ => by kernel_rfl⟩
instance : TU P 5 (.int .u8) := ⟨by kernel_rfl⟩
instance : TI P 5 1 1 := ⟨by kernel_rfl⟩
instance : TZ P 5 (Value.int .u8 0) := ⟨by kernel_rfl⟩
instance : TE P 5 1 1 (Value.int .u8 0) := ⟨inferInstance, inferInstance, by kernel_rfl, by decide⟩
instance : TS P 5 := ⟨fun _ => by kernel_rfl⟩
instance : TU P 9 .string := ⟨by kernel_rfl⟩
instance : TI P 9 1 16 := ⟨by kernel_rfl⟩
instance : TZ P 9 (Value.string .empty) := ⟨by kernel_rfl⟩
instance : TE P 9 1 16 (Value.string .empty) := ⟨inferInstance, inferInstance, by kernel_rfl, by decide⟩
instance : TS P 9 := ⟨fun _ => by kernel_rfl⟩
instance : TU P 12 (.int .u64) := ⟨by kernel_rfl⟩
instance : TI P 12 1 8 := ⟨by kernel_rfl⟩
instance : TZ P 12 (Value.int .u64 0) := ⟨by kernel_rfl⟩
instance : TE P 12 1 8 (Value.int .u64 0) := ⟨inferInstance, inferInstance, by kernel_rfl, by decide⟩
instance : TS P 12 := ⟨fun _ => by kernel_rfl⟩
instance : TI P 13 2 24 := ⟨by kernel_rfl⟩
instance : TZ P 13 (.agg #[(Value.string .empty), (Value.int .u64 0)]) := ⟨by kernel_rfl⟩
instance : TE P 13 2 24 (.agg #[(Value.string .empty), (Value.int .u64 0)]) := ⟨inferInstance, inferInstance, by kernel_rfl, by decide⟩
instance : TA P 13 := ⟨fun _ => by kernel_rfl⟩
instance : TF P 13 0 0 := ⟨fun _ _ _ => by kernel_rfl⟩
instance : TF P 13 1 1 := ⟨fun _ _ _ => by kernel_rfl⟩
instance : TU P 15 (.pointer 128) := ⟨by kernel_rfl⟩
instance : TI P 15 1 8 := ⟨by kernel_rfl⟩
instance : TZ P 15 (Value.pointer none) := ⟨by kernel_rfl⟩
instance : TE P 15 1 8 (Value.pointer none) := ⟨inferInstance, inferInstance, by kernel_rfl, by decide⟩
instance : TS P 15 := ⟨fun _ => by kernel_rfl⟩
instance : TU P 16 (.pointer 131) := ⟨by kernel_rfl⟩
instance : TI P 16 1 8 := ⟨by kernel_rfl⟩
instance : TZ P 16 (Value.pointer none) := ⟨by kernel_rfl⟩
instance : TE P 16 1 8 (Value.pointer none) := ⟨inferInstance, inferInstance, by kernel_rfl, by decide⟩
instance : TS P 16 := ⟨fun _ => by kernel_rfl⟩
instance : TU P 17 (.pointer 140) := ⟨by kernel_rfl⟩
instance : TI P 17 1 8 := ⟨by kernel_rfl⟩
instance : TZ P 17 (Value.pointer none) := ⟨by kernel_rfl⟩
instance : TE P 17 1 8 (Value.pointer none) := ⟨inferInstance, inferInstance, by kernel_rfl, by decide⟩
instance : TS P 17 := ⟨fun _ => by kernel_rfl⟩
instance : TI P 19 1 8 := ⟨by kernel_rfl⟩
instance : TZ P 19 (.agg #[(Value.pointer none)]) := ⟨by kernel_rfl⟩
instance : TE P 19 1 8 (.agg #[(Value.pointer none)]) := ⟨inferInstance, inferInstance, by kernel_rfl, by decide⟩
instance : TA P 19 := ⟨fun _ => by kernel_rfl⟩
instance : TF P 19 0 0 := ⟨fun _ _ _ => by kernel_rfl⟩
instance : TU P 21 (.int .i32) := ⟨by kernel_rfl⟩
instance : TI P 21 1 4 := ⟨by kernel_rfl⟩
instance : TZ P 21 (Value.int .i32 0) := ⟨by kernel_rfl⟩
instance : TE P 21 1 4 (Value.int .i32 0) := ⟨inferInstance, inferInstance, by kernel_rfl, by decide⟩
instance : TS P 21 := ⟨fun _ => by kernel_rfl⟩
instance : TU P 22 (.slice 3) := ⟨by kernel_rfl⟩
instance : TI P 22 1 24 := ⟨by kernel_rfl⟩
instance : TZ P 22 (Value.slice none 0 0) := ⟨by kernel_rfl⟩
instance : TE P 22 1 24 (Value.slice none 0 0) := ⟨inferInstance, inferInstance, by kernel_rfl, by decide⟩
instance : TS P 22 := ⟨fun _ => by kernel_rfl⟩
instance : TU P 23 (.pointer 59) := ⟨by kernel_rfl⟩
instance : TI P 23 1 8 := ⟨by kernel_rfl⟩
instance : TZ P 23 (Value.pointer none) := ⟨by kernel_rfl⟩
instance : TE P 23 1 8 (Value.pointer none) := ⟨inferInstance, inferInstance, by kernel_rfl, by decide⟩
instance : TS P 23 := ⟨fun _ => by kernel_rfl⟩
instance : TI P 24 1 8 := ⟨by kernel_rfl⟩
instance : TZ P 24 Value.nilFunc := ⟨by kernel_rfl⟩
instance : TE P 24 1 8 Value.nilFunc := ⟨inferInstance, inferInstance, by kernel_rfl, by decide⟩
instance : TS P 24 := ⟨fun _ => by kernel_rfl⟩
instance : TU P 25 (.slice 30) := ⟨by kernel_rfl⟩
instance : TI P 25 1 24 := ⟨by kernel_rfl⟩
instance : TZ P 25 (Value.slice none 0 0) := ⟨by kernel_rfl⟩
instance : TE P 25 1 24 (Value.slice none 0 0) := ⟨inferInstance, inferInstance, by kernel_rfl, by decide⟩
instance : TS P 25 := ⟨fun _ => by kernel_rfl⟩
instance : TU P 26 (.int .u32) := ⟨by kernel_rfl⟩
instance : TI P 26 1 4 := ⟨by kernel_rfl⟩
instance : TZ P 26 (Value.int .u32 0) := ⟨by kernel_rfl⟩
instance : TE P 26 1 4 (Value.int .u32 0) := ⟨inferInstance, inferInstance, by kernel_rfl, by decide⟩
instance : TS P 26 := ⟨fun _ => by kernel_rfl⟩
instance : TU P 27 (.slice 63) := ⟨by kernel_rfl⟩
instance : TI P 27 1 24 := ⟨by kernel_rfl⟩
instance : TZ P 27 (Value.slice none 0 0) := ⟨by kernel_rfl⟩
instance : TE P 27 1 24 (Value.slice none 0 0) := ⟨inferInstance, inferInstance, by kernel_rfl, by decide⟩
instance : TS P 27 := ⟨fun _ => by kernel_rfl⟩
instance : TU P 28 (.slice 66) := ⟨by kernel_rfl⟩
instance : TI P 28 1 24 := ⟨by kernel_rfl⟩
instance : TZ P 28 (Value.slice none 0 0) := ⟨by kernel_rfl⟩
instance : TE P 28 1 24 (Value.slice none 0 0) := ⟨inferInstance, inferInstance, by kernel_rfl, by decide⟩
instance : TS P 28 := ⟨fun _ => by kernel_rfl⟩
instance : TI P 29 4 64 := ⟨by kernel_rfl⟩
instance : TZ P 29 (.agg #[(Value.int .u32 0), (Value.slice none 0 0), (Value.slice none 0 0), (Value.int .u32 0)]) := ⟨by kernel_rfl⟩
instance : TE P 29 4 64 (.agg #[(Value.int .u32 0), (Value.slice none 0 0), (Value.slice none 0 0), (Value.int .u32 0)]) := ⟨inferInstance, inferInstance, by kernel_rfl, by decide⟩
instance : TA P 29 := ⟨fun _ => by kernel_rfl⟩
instance : TF P 29 0 0 := ⟨fun _ _ _ => by kernel_rfl⟩
instance : TF P 29 1 1 := ⟨fun _ _ _ => by kernel_rfl⟩
instance : TF P 29 2 2 := ⟨fun _ _ _ => by kernel_rfl⟩
instance : TF P 29 3 3 := ⟨fun _ _ _ => by kernel_rfl⟩
instance : TI P 30 4 64 := ⟨by kernel_rfl⟩
instance : TZ P 30 (.agg #[(Value.int .u32 0), (Value.slice none 0 0), (Value.slice none 0 0), (Value.int .u32 0)]) := ⟨by kernel_rfl⟩
instance : TE P 30 4 64 (.agg #[(Value.int .u32 0), (Value.slice none 0 0), (Value.slice none 0 0), (Value.int .u32 0)]) := ⟨inferInstance, inferInstance, by kernel_rfl, by decide⟩
instance : TA P 30 := ⟨fun _ => by kernel_rfl⟩
instance : TF P 30 0 0 := ⟨fun _ _ _ => by kernel_rfl⟩
instance : TF P 30 1 1 := ⟨fun _ _ _ => by kernel_rfl⟩
instance : TF P 30 2 2 := ⟨fun _ _ _ => by kernel_rfl⟩
instance : TF P 30 3 3 := ⟨fun _ _ _ => by kernel_rfl⟩
instance : TI P 31 1 8 := ⟨by kernel_rfl⟩
instance : TZ P 31 Value.nilFunc := ⟨by kernel_rfl⟩
instance : TE P 31 1 8 Value.nilFunc := ⟨inferInstance, inferInstance, by kernel_rfl, by decide⟩
instance : TS P 31 := ⟨fun _ => by kernel_rfl⟩
instance : TU P 32 (.int .u64) := ⟨by kernel_rfl⟩
instance : TI P 32 1 8 := ⟨by kernel_rfl⟩
instance : TZ P 32 (Value.int .u64 0) := ⟨by kernel_rfl⟩
instance : TE P 32 1 8 (Value.int .u64 0) := ⟨inferInstance, inferInstance, by kernel_rfl, by decide⟩
instance : TS P 32 := ⟨fun _ => by kernel_rfl⟩
instance : TU P 33 (.slice 41) := ⟨by kernel_rfl⟩
instance : TI P 33 1 24 := ⟨by kernel_rfl⟩
instance : TZ P 33 (Value.slice none 0 0) := ⟨by kernel_rfl⟩
instance : TE P 33 1 24 (Value.slice none 0 0) := ⟨inferInstance, inferInstance, by kernel_rfl, by decide⟩
instance : TS P 33 := ⟨fun _ => by kernel_rfl⟩
instance : TI P 34 1 8 := ⟨by kernel_rfl⟩
instance : TZ P 34 Value.nilFunc := ⟨by kernel_rfl⟩
instance : TE P 34 1 8 Value.nilFunc := ⟨inferInstance, inferInstance, by kernel_rfl, by decide⟩
instance : TS P 34 := ⟨fun _ => by kernel_rfl⟩
instance : TI P 35 1 8 := ⟨by kernel_rfl⟩
instance : TZ P 35 Value.nilFunc := ⟨by kernel_rfl⟩
instance : TE P 35 1 8 Value.nilFunc := ⟨inferInstance, inferInstance, by kernel_rfl, by decide⟩
instance : TS P 35 := ⟨fun _ => by kernel_rfl⟩
instance : TI P 36 1 8 := ⟨by kernel_rfl⟩
instance : TZ P 36 Value.nilFunc := ⟨by kernel_rfl⟩
instance : TE P 36 1 8 Value.nilFunc := ⟨inferInstance, inferInstance, by kernel_rfl, by decide⟩
instance : TS P 36 := ⟨fun _ => by kernel_rfl⟩
instance : TI P 37 1 8 := ⟨by kernel_rfl⟩
instance : TZ P 37 Value.nilFunc := ⟨by kernel_rfl⟩
instance : TE P 37 1 8 Value.nilFunc := ⟨inferInstance, inferInstance, by kernel_rfl, by decide⟩
instance : TS P 37 := ⟨fun _ => by kernel_rfl⟩
instance : TI P 38 1 8 := ⟨by kernel_rfl⟩
instance : TZ P 38 Value.nilFunc := ⟨by kernel_rfl⟩
instance : TE P 38 1 8 Value.nilFunc := ⟨inferInstance, inferInstance, by kernel_rfl, by decide⟩
instance : TS P 38 := ⟨fun _ => by kernel_rfl⟩
instance : TU P 39 (.array 32 5) := ⟨by kernel_rfl⟩
instance : TI P 39 32 32 := ⟨by kernel_rfl⟩
instance : TZ P 39 (.agg (List.replicate 32 (Value.int .u8 0)).toArray) := ⟨by kernel_rfl⟩
instance : TE P 39 32 32 (.agg (List.replicate 32 (Value.int .u8 0)).toArray) := ⟨inferInstance, inferInstance, by kernel_rfl, by decide⟩
instance : TA P 39 := ⟨fun _ => by kernel_rfl⟩
instance : TI P 40 33 36 := ⟨by kernel_rfl⟩
instance : TZ P 40 (.agg (List.replicate 32 (Value.int .u8 0) ++ [(Value.int .u32 0)]).toArray) := ⟨by kernel_rfl⟩
instance : TE P 40 33 36 (.agg (List.replicate 32 (Value.int .u8 0) ++ [(Value.int .u32 0)]).toArray) := ⟨inferInstance, inferInstance, by kernel_rfl, by decide⟩
instance : TA P 40 := ⟨fun _ => by kernel_rfl⟩
instance : TF P 40 0 0 := ⟨fun _ _ _ => by kernel_rfl⟩
instance : TF P 40 1 32 := ⟨fun _ _ _ => by kernel_rfl⟩
instance : TI P 41 33 36 := ⟨by kernel_rfl⟩
instance : TZ P 41 (.agg (List.replicate 32 (Value.int .u8 0) ++ [(Value.int .u32 0)]).toArray) := ⟨by kernel_rfl⟩
instance : TE P 41 33 36 (.agg (List.replicate 32 (Value.int .u8 0) ++ [(Value.int .u32 0)]).toArray) := ⟨inferInstance, inferInstance, by kernel_rfl, by decide⟩
instance : TA P 41 := ⟨fun _ => by kernel_rfl⟩
instance : TF P 41 0 0 := ⟨fun _ _ _ => by kernel_rfl⟩
instance : TF P 41 1 32 := ⟨fun _ _ _ => by kernel_rfl⟩
instance : TU P 42 (.int .u64) := ⟨by kernel_rfl⟩
instance : TI P 42 1 8 := ⟨by kernel_rfl⟩
instance : TZ P 42 (Value.int .u64 0) := ⟨by kernel_rfl⟩
instance : TE P 42 1 8 (Value.int .u64 0) := ⟨inferInstance, inferInstance, by kernel_rfl, by decide⟩
instance : TS P 42 := ⟨fun _ => by kernel_rfl⟩
instance : TI P 43 4 32 := ⟨by kernel_rfl⟩
instance : TZ P 43 (.agg #[(Value.int .u64 0), (Value.int .i64 0), (Value.int .i64 0), (Value.bool false)]) := ⟨by kernel_rfl⟩
instance : TE P 43 4 32 (.agg #[(Value.int .u64 0), (Value.int .i64 0), (Value.int .i64 0), (Value.bool false)]) := ⟨inferInstance, inferInstance, by kernel_rfl, by decide⟩
instance : TA P 43 := ⟨fun _ => by kernel_rfl⟩
instance : TF P 43 0 0 := ⟨fun _ _ _ => by kernel_rfl⟩
instance : TF P 43 1 1 := ⟨fun _ _ _ => by kernel_rfl⟩
instance : TF P 43 2 2 := ⟨fun _ _ _ => by kernel_rfl⟩
instance : TF P 43 3 3 := ⟨fun _ _ _ => by kernel_rfl⟩
instance : TI P 44 4 32 := ⟨by kernel_rfl⟩
instance : TZ P 44 (.agg #[(Value.int .u64 0), (Value.int .i64 0), (Value.int .i64 0), (Value.bool false)]) := ⟨by kernel_rfl⟩
instance : TE P 44 4 32 (.agg #[(Value.int .u64 0), (Value.int .i64 0), (Value.int .i64 0), (Value.bool false)]) := ⟨inferInstance, inferInstance, by kernel_rfl, by decide⟩
instance : TA P 44 := ⟨fun _ => by kernel_rfl⟩
instance : TF P 44 0 0 := ⟨fun _ _ _ => by kernel_rfl⟩
instance : TF P 44 1 1 := ⟨fun _ _ _ => by kernel_rfl⟩
instance : TF P 44 2 2 := ⟨fun _ _ _ => by kernel_rfl⟩
instance : TF P 44 3 3 := ⟨fun _ _ _ => by kernel_rfl⟩
instance : TI P 46 1 8 := ⟨by kernel_rfl⟩
instance : TZ P 46 Value.nilFunc := ⟨by kernel_rfl⟩
instance : TE P 46 1 8 Value.nilFunc := ⟨inferInstance, inferInstance, by kernel_rfl, by decide⟩
instance : TS P 46 := ⟨fun _ => by kernel_rfl⟩
instance : TI P 47 1 8 := ⟨by kernel_rfl⟩
instance : TZ P 47 Value.nilFunc := ⟨by kernel_rfl⟩
instance : TE P 47 1 8 Value.nilFunc := ⟨inferInstance, inferInstance, by kernel_rfl, by decide⟩
instance : TS P 47 := ⟨fun _ => by kernel_rfl⟩
instance : TI P 48 1 8 := ⟨by kernel_rfl⟩
instance : TZ P 48 Value.nilFunc := ⟨by kernel_rfl⟩
instance : TE P 48 1 8 Value.nilFunc := ⟨inferInstance, inferInstance, by kernel_rfl, by decide⟩
instance : TS P 48 := ⟨fun _ => by kernel_rfl⟩
instance : TU P 49 (.map 41 4) := ⟨by kernel_rfl⟩
instance : TI P 49 1 8 := ⟨by kernel_rfl⟩
instance : TZ P 49 (Value.map none) := ⟨by kernel_rfl⟩
instance : TE P 49 1 8 (Value.map none) := ⟨inferInstance, inferInstance, by kernel_rfl, by decide⟩
instance : TS P 49 := ⟨fun _ => by kernel_rfl⟩
instance : TI P 50 1 8 := ⟨by kernel_rfl⟩
instance : TZ P 50 Value.nilFunc := ⟨by kernel_rfl⟩
instance : TE P 50 1 8 Value.nilFunc := ⟨inferInstance, inferInstance, by kernel_rfl, by decide⟩
instance : TS P 50 := ⟨fun _ => by kernel_rfl⟩
instance : TI P 51 1 8 := ⟨by kernel_rfl⟩
instance : TZ P 51 Value.nilFunc := ⟨by kernel_rfl⟩
instance : TE P 51 1 8 Value.nilFunc := ⟨inferInstance, inferInstance, by kernel_rfl, by decide⟩
instance : TS P 51 := ⟨fun _ => by kernel_rfl⟩
instance : TU P 52 (.pointer 55) := ⟨by kernel_rfl⟩
instance : TI P 52 1 8 := ⟨by kernel_rfl⟩
instance : TZ P 52 (Value.pointer none) := ⟨by kernel_rfl⟩
instance : TE P 52 1 8 (Value.pointer none) := ⟨inferInstance, inferInstance, by kernel_rfl, by decide⟩
instance : TS P 52 := ⟨fun _ => by kernel_rfl⟩
instance : TU P 53 (.slice 78) := ⟨by kernel_rfl⟩
instance : TI P 53 1 24 := ⟨by kernel_rfl⟩
instance : TZ P 53 (Value.slice none 0 0) := ⟨by kernel_rfl⟩
instance : TE P 53 1 24 (Value.slice none 0 0) := ⟨inferInstance, inferInstance, by kernel_rfl, by decide⟩
instance : TS P 53 := ⟨fun _ => by kernel_rfl⟩
instance : TI P 54 1 24 := ⟨by kernel_rfl⟩
instance : TZ P 54 (.agg #[(Value.slice none 0 0)]) := ⟨by kernel_rfl⟩
instance : TE P 54 1 24 (.agg #[(Value.slice none 0 0)]) := ⟨inferInstance, inferInstance, by kernel_rfl, by decide⟩
instance : TA P 54 := ⟨fun _ => by kernel_rfl⟩
instance : TF P 54 0 0 := ⟨fun _ _ _ => by kernel_rfl⟩
instance : TI P 55 1 24 := ⟨by kernel_rfl⟩
instance : TZ P 55 (.agg #[(Value.slice none 0 0)]) := ⟨by kernel_rfl⟩
instance : TE P 55 1 24 (.agg #[(Value.slice none 0 0)]) := ⟨inferInstance, inferInstance, by kernel_rfl, by decide⟩
instance : TA P 55 := ⟨fun _ => by kernel_rfl⟩
instance : TF P 55 0 0 := ⟨fun _ _ _ => by kernel_rfl⟩
instance : TI P 56 1 8 := ⟨by kernel_rfl⟩
instance : TZ P 56 Value.nilFunc := ⟨by kernel_rfl⟩
instance : TE P 56 1 8 Value.nilFunc := ⟨inferInstance, inferInstance, by kernel_rfl, by decide⟩
instance : TS P 56 := ⟨fun _ => by kernel_rfl⟩
instance : TU P 57 (.map 41 44) := ⟨by kernel_rfl⟩
instance : TI P 57 1 8 := ⟨by kernel_rfl⟩
instance : TZ P 57 (Value.map none) := ⟨by kernel_rfl⟩
instance : TE P 57 1 8 (Value.map none) := ⟨inferInstance, inferInstance, by kernel_rfl, by decide⟩
instance : TS P 57 := ⟨fun _ => by kernel_rfl⟩
instance : TI P 58 1 8 := ⟨by kernel_rfl⟩
instance : TZ P 58 (.agg #[(Value.map none)]) := ⟨by kernel_rfl⟩
instance : TE P 58 1 8 (.agg #[(Value.map none)]) := ⟨inferInstance, inferInstance, by kernel_rfl, by decide⟩
instance : TA P 58 := ⟨fun _ => by kernel_rfl⟩
instance : TF P 58 0 0 := ⟨fun _ _ _ => by kernel_rfl⟩
instance : TI P 59 1 8 := ⟨by kernel_rfl⟩
instance : TZ P 59 (.agg #[(Value.map none)]) := ⟨by kernel_rfl⟩
instance : TE P 59 1 8 (.agg #[(Value.map none)]) := ⟨inferInstance, inferInstance, by kernel_rfl, by decide⟩
instance : TA P 59 := ⟨fun _ => by kernel_rfl⟩
instance : TF P 59 0 0 := ⟨fun _ _ _ => by kernel_rfl⟩
instance : TU P 60 (.slice 5) := ⟨by kernel_rfl⟩
instance : TI P 60 1 24 := ⟨by kernel_rfl⟩
instance : TZ P 60 (Value.slice none 0 0) := ⟨by kernel_rfl⟩
instance : TE P 60 1 24 (Value.slice none 0 0) := ⟨inferInstance, inferInstance, by kernel_rfl, by decide⟩
instance : TS P 60 := ⟨fun _ => by kernel_rfl⟩
instance : TU P 61 (.slice 60) := ⟨by kernel_rfl⟩
instance : TI P 61 1 24 := ⟨by kernel_rfl⟩
instance : TZ P 61 (Value.slice none 0 0) := ⟨by kernel_rfl⟩
instance : TE P 61 1 24 (Value.slice none 0 0) := ⟨inferInstance, inferInstance, by kernel_rfl, by decide⟩
instance : TS P 61 := ⟨fun _ => by kernel_rfl⟩
instance : TI P 62 36 96 := ⟨by kernel_rfl⟩
instance : TZ P 62 (.agg (List.replicate 32 (Value.int .u8 0) ++ [(Value.int .u32 0)] ++ [(Value.slice none 0 0)] ++ [(Value.int .u32 0)] ++ [(Value.slice none 0 0)]).toArray) := ⟨by kernel_rfl⟩
instance : TE P 62 36 96 (.agg (List.replicate 32 (Value.int .u8 0) ++ [(Value.int .u32 0)] ++ [(Value.slice none 0 0)] ++ [(Value.int .u32 0)] ++ [(Value.slice none 0 0)]).toArray) := ⟨inferInstance, inferInstance, by kernel_rfl, by decide⟩
instance : TA P 62 := ⟨fun _ => by kernel_rfl⟩
instance : TF P 62 0 0 := ⟨fun _ _ _ => by kernel_rfl⟩
instance : TF P 62 1 32 := ⟨fun _ _ _ => by kernel_rfl⟩
instance : TF P 62 2 33 := ⟨fun _ _ _ => by kernel_rfl⟩
instance : TF P 62 3 34 := ⟨fun _ _ _ => by kernel_rfl⟩
instance : TF P 62 4 35 := ⟨fun _ _ _ => by kernel_rfl⟩
instance : TI P 63 36 96 := ⟨by kernel_rfl⟩
instance : TZ P 63 (.agg (List.replicate 32 (Value.int .u8 0) ++ [(Value.int .u32 0)] ++ [(Value.slice none 0 0)] ++ [(Value.int .u32 0)] ++ [(Value.slice none 0 0)]).toArray) := ⟨by kernel_rfl⟩
instance : TE P 63 36 96 (.agg (List.replicate 32 (Value.int .u8 0) ++ [(Value.int .u32 0)] ++ [(Value.slice none 0 0)] ++ [(Value.int .u32 0)] ++ [(Value.slice none 0 0)]).toArray) := ⟨inferInstance, inferInstance, by kernel_rfl, by decide⟩
instance : TA P 63 := ⟨fun _ => by kernel_rfl⟩
instance : TF P 63 0 0 := ⟨fun _ _ _ => by kernel_rfl⟩
instance : TF P 63 1 32 := ⟨fun _ _ _ => by kernel_rfl⟩
instance : TF P 63 2 33 := ⟨fun _ _ _ => by kernel_rfl⟩
instance : TF P 63 3 34 := ⟨fun _ _ _ => by kernel_rfl⟩
instance : TF P 63 4 35 := ⟨fun _ _ _ => by kernel_rfl⟩
instance : TI P 64 1 8 := ⟨by kernel_rfl⟩
instance : TZ P 64 Value.nilFunc := ⟨by kernel_rfl⟩
instance : TE P 64 1 8 Value.nilFunc := ⟨inferInstance, inferInstance, by kernel_rfl, by decide⟩
instance : TS P 64 := ⟨fun _ => by kernel_rfl⟩
instance : TI P 65 2 32 := ⟨by kernel_rfl⟩
instance : TZ P 65 (.agg #[(Value.int .u64 0), (Value.slice none 0 0)]) := ⟨by kernel_rfl⟩
instance : TE P 65 2 32 (.agg #[(Value.int .u64 0), (Value.slice none 0 0)]) := ⟨inferInstance, inferInstance, by kernel_rfl, by decide⟩
instance : TA P 65 := ⟨fun _ => by kernel_rfl⟩
instance : TF P 65 0 0 := ⟨fun _ _ _ => by kernel_rfl⟩
instance : TF P 65 1 1 := ⟨fun _ _ _ => by kernel_rfl⟩
instance : TI P 66 2 32 := ⟨by kernel_rfl⟩
instance : TZ P 66 (.agg #[(Value.int .u64 0), (Value.slice none 0 0)]) := ⟨by kernel_rfl⟩
instance : TE P 66 2 32 (.agg #[(Value.int .u64 0), (Value.slice none 0 0)]) := ⟨inferInstance, inferInstance, by kernel_rfl, by decide⟩
instance : TA P 66 := ⟨fun _ => by kernel_rfl⟩
instance : TF P 66 0 0 := ⟨fun _ _ _ => by kernel_rfl⟩
instance : TF P 66 1 1 := ⟨fun _ _ _ => by kernel_rfl⟩
instance : TI P 67 1 8 := ⟨by kernel_rfl⟩
instance : TZ P 67 Value.nilFunc := ⟨by kernel_rfl⟩
instance : TE P 67 1 8 Value.nilFunc := ⟨inferInstance, inferInstance, by kernel_rfl, by decide⟩
instance : TS P 67 := ⟨fun _ => by kernel_rfl⟩
instance : TI P 68 1 8 := ⟨by kernel_rfl⟩
instance : TZ P 68 Value.nilFunc := ⟨by kernel_rfl⟩
instance : TE P 68 1 8 Value.nilFunc := ⟨inferInstance, inferInstance, by kernel_rfl, by decide⟩
instance : TS P 68 := ⟨fun _ => by kernel_rfl⟩
instance : TI P 69 1 8 := ⟨by kernel_rfl⟩
instance : TZ P 69 Value.nilFunc := ⟨by kernel_rfl⟩
instance : TE P 69 1 8 Value.nilFunc := ⟨inferInstance, inferInstance, by kernel_rfl, by decide⟩
instance : TS P 69 := ⟨fun _ => by kernel_rfl⟩
instance : TI P 70 1 8 := ⟨by kernel_rfl⟩
instance : TZ P 70 Value.nilFunc := ⟨by kernel_rfl⟩
instance : TE P 70 1 8 Value.nilFunc := ⟨inferInstance, inferInstance, by kernel_rfl, by decide⟩
instance : TS P 70 := ⟨fun _ => by kernel_rfl⟩
instance : TI P 71 1 8 := ⟨by kernel_rfl⟩
instance : TZ P 71 Value.nilFunc := ⟨by kernel_rfl⟩
instance : TE P 71 1 8 Value.nilFunc := ⟨inferInstance, inferInstance, by kernel_rfl, by decide⟩
instance : TS P 71 := ⟨fun _ => by kernel_rfl⟩
instance : TI P 72 1 8 := ⟨by kernel_rfl⟩
instance : TZ P 72 Value.nilFunc := ⟨by kernel_rfl⟩
instance : TE P 72 1 8 Value.nilFunc := ⟨inferInstance, inferInstance, by kernel_rfl, by decide⟩
instance : TS P 72 := ⟨fun _ => by kernel_rfl⟩
instance : TI P 73 1 8 := ⟨by kernel_rfl⟩
instance : TZ P 73 Value.nilFunc := ⟨by kernel_rfl⟩
instance : TE P 73 1 8 Value.nilFunc := ⟨inferInstance, inferInstance, by kernel_rfl, by decide⟩
instance : TS P 73 := ⟨fun _ => by kernel_rfl⟩
instance : TI P 74 1 8 := ⟨by kernel_rfl⟩
instance : TZ P 74 Value.nilFunc := ⟨by kernel_rfl⟩
instance : TE P 74 1 8 Value.nilFunc := ⟨inferInstance, inferInstance, by kernel_rfl, by decide⟩
instance : TS P 74 := ⟨fun _ => by kernel_rfl⟩
instance : TI P 76 1 8 := ⟨by kernel_rfl⟩
instance : TZ P 76 Value.nilFunc := ⟨by kernel_rfl⟩
instance : TE P 76 1 8 Value.nilFunc := ⟨inferInstance, inferInstance, by kernel_rfl, by decide⟩
instance : TS P 76 := ⟨fun _ => by kernel_rfl⟩
instance : TI P 77 37 72 := ⟨by kernel_rfl⟩
instance : TZ P 77 (.agg (List.replicate 32 (Value.int .u8 0) ++ [(Value.int .u32 0)] ++ [(Value.int .u64 0)] ++ [(Value.int .i64 0), (Value.int .i64 0)] ++ [(Value.bool false)]).toArray) := ⟨by kernel_rfl⟩
instance : TE P 77 37 72 (.agg (List.replicate 32 (Value.int .u8 0) ++ [(Value.int .u32 0)] ++ [(Value.int .u64 0)] ++ [(Value.int .i64 0), (Value.int .i64 0)] ++ [(Value.bool false)]).toArray) := ⟨inferInstance, inferInstance, by kernel_rfl, by decide⟩
instance : TA P 77 := ⟨fun _ => by kernel_rfl⟩
instance : TF P 77 0 0 := ⟨fun _ _ _ => by kernel_rfl⟩
instance : TF P 77 1 33 := ⟨fun _ _ _ => by kernel_rfl⟩
instance : TI P 78 37 72 := ⟨by kernel_rfl⟩
instance : TZ P 78 (.agg (List.replicate 32 (Value.int .u8 0) ++ [(Value.int .u32 0)] ++ [(Value.int .u64 0)] ++ [(Value.int .i64 0), (Value.int .i64 0)] ++ [(Value.bool false)]).toArray) := ⟨by kernel_rfl⟩
instance : TE P 78 37 72 (.agg (List.replicate 32 (Value.int .u8 0) ++ [(Value.int .u32 0)] ++ [(Value.int .u64 0)] ++ [(Value.int .i64 0), (Value.int .i64 0)] ++ [(Value.bool false)]).toArray) := ⟨inferInstance, inferInstance, by kernel_rfl, by decide⟩
instance : TA P 78 := ⟨fun _ => by kernel_rfl⟩
instance : TF P 78 0 0 := ⟨fun _ _ _ => by kernel_rfl⟩
instance : TF P 78 1 33 := ⟨fun _ _ _ => by kernel_rfl⟩
instance : TI P 79 1 8 := ⟨by kernel_rfl⟩
instance : TZ P 79 Value.nilFunc := ⟨by kernel_rfl⟩
instance : TE P 79 1 8 Value.nilFunc := ⟨inferInstance, inferInstance, by kernel_rfl, by decide⟩
instance : TS P 79 := ⟨fun _ => by kernel_rfl⟩
instance : TI P 80 1 8 := ⟨by kernel_rfl⟩
instance : TZ P 80 Value.nilFunc := ⟨by kernel_rfl⟩
instance : TE P 80 1 8 Value.nilFunc := ⟨inferInstance, inferInstance, by kernel_rfl, by decide⟩
instance : TS P 80 := ⟨fun _ => by kernel_rfl⟩
instance : TI P 81 1 8 := ⟨by kernel_rfl⟩
instance : TZ P 81 Value.nilFunc := ⟨by kernel_rfl⟩
instance : TE P 81 1 8 Value.nilFunc := ⟨inferInstance, inferInstance, by kernel_rfl, by decide⟩
instance : TS P 81 := ⟨fun _ => by kernel_rfl⟩
instance : TI P 82 1 8 := ⟨by kernel_rfl⟩
instance : TZ P 82 Value.nilFunc := ⟨by kernel_rfl⟩
instance : TE P 82 1 8 Value.nilFunc := ⟨inferInstance, inferInstance, by kernel_rfl, by decide⟩
instance : TS P 82 := ⟨fun _ => by kernel_rfl⟩
instance : TI P 83 1 8 := ⟨by kernel_rfl⟩
instance : TZ P 83 Value.nilFunc := ⟨by kernel_rfl⟩
instance : TE P 83 1 8 Value.nilFunc := ⟨inferInstance, inferInstance, by kernel_rfl, by decide⟩
instance : TS P 83 := ⟨fun _ => by kernel_rfl⟩
instance : TI P 84 1 8 := ⟨by kernel_rfl⟩
instance : TZ P 84 Value.nilFunc := ⟨by kernel_rfl⟩
instance : TE P 84 1 8 Value.nilFunc := ⟨inferInstance, inferInstance, by kernel_rfl, by decide⟩
instance : TS P 84 := ⟨fun _ => by kernel_rfl⟩
instance : TI P 85 1 8 := ⟨by kernel_rfl⟩
instance : TZ P 85 Value.nilFunc := ⟨by kernel_rfl⟩
instance : TE P 85 1 8 Value.nilFunc := ⟨inferInstance, inferInstance, by kernel_rfl, by decide⟩
instance : TS P 85 := ⟨fun _ => by kernel_rfl⟩
instance : TI P 86 1 8 := ⟨by kernel_rfl⟩
instance : TZ P 86 Value.nilFunc := ⟨by kernel_rfl⟩
instance : TE P 86 1 8 Value.nilFunc := ⟨inferInstance, inferInstance, by kernel_rfl, by decide⟩
instance : TS P 86 := ⟨fun _ => by kernel_rfl⟩
instance : TI P 87 1 8 := ⟨by kernel_rfl⟩
instance : TZ P 87 Value.nilFunc := ⟨by kernel_rfl⟩
instance : TE P 87 1 8 Value.nilFunc := ⟨inferInstance, inferInstance, by kernel_rfl, by decide⟩
instance : TS P 87 := ⟨fun _ => by kernel_rfl⟩
instance : TI P 88 1 8 := ⟨by kernel_rfl⟩
instance : TZ P 88 Value.nilFunc := ⟨by kernel_rfl⟩
instance : TE P 88 1 8 Value.nilFunc := ⟨inferInstance, inferInstance, by kernel_rfl, by decide⟩
instance : TS P 88 := ⟨fun _ => by kernel_rfl⟩
instance : TI P 89 1 8 := ⟨by kernel_rfl⟩
instance : TZ P 89 Value.nilFunc := ⟨by kernel_rfl⟩
instance : TE P 89 1 8 Value.nilFunc := ⟨inferInstance, inferInstance, by kernel_rfl, by decide⟩
instance : TS P 89 := ⟨fun _ => by kernel_rfl⟩
instance : TI P 90 1 8 := ⟨by kernel_rfl⟩
instance : TZ P 90 Value.nilFunc := ⟨by kernel_rfl⟩
instance : TE P 90 1 8 Value.nilFunc := ⟨inferInstance, inferInstance, by kernel_rfl, by decide⟩
instance : TS P 90 := ⟨fun _ => by kernel_rfl⟩
instance : TI P 91 1 8 := ⟨by kernel_rfl⟩
instance : TZ P 91 Value.nilFunc := ⟨by kernel_rfl⟩
instance : TE P 91 1 8 Value.nilFunc := ⟨inferInstance, inferInstance, by kernel_rfl, by decide⟩
instance : TS P 91 := ⟨fun _ => by kernel_rfl⟩
instance : TI P 92 1 8 := ⟨by kernel_rfl⟩
instance : TZ P 92 Value.nilFunc := ⟨by kernel_rfl⟩
instance : TE P 92 1 8 Value.nilFunc := ⟨inferInstance, inferInstance, by kernel_rfl, by decide⟩
instance : TS P 92 := ⟨fun _ => by kernel_rfl⟩
instance : TU P 93 (.array 64 26) := ⟨by kernel_rfl⟩
instance : TI P 93 64 256 := ⟨by kernel_rfl⟩
instance : TZ P 93 (.agg (List.replicate 64 (Value.int .u32 0)).toArray) := ⟨by kernel_rfl⟩
instance : TE P 93 64 256 (.agg (List.replicate 64 (Value.int .u32 0)).toArray) := ⟨inferInstance, inferInstance, by kernel_rfl, by decide⟩
instance : TA P 93 := ⟨fun _ => by kernel_rfl⟩
instance : TI P 94 1 8 := ⟨by kernel_rfl⟩
instance : TZ P 94 Value.nilFunc := ⟨by kernel_rfl⟩
instance : TE P 94 1 8 Value.nilFunc := ⟨inferInstance, inferInstance, by kernel_rfl, by decide⟩
instance : TS P 94 := ⟨fun _ => by kernel_rfl⟩
instance : TU P 95 (.array 8 26) := ⟨by kernel_rfl⟩
instance : TI P 95 8 32 := ⟨by kernel_rfl⟩
instance : TZ P 95 (.agg (List.replicate 8 (Value.int .u32 0)).toArray) := ⟨by kernel_rfl⟩
instance : TE P 95 8 32 (.agg (List.replicate 8 (Value.int .u32 0)).toArray) := ⟨inferInstance, inferInstance, by kernel_rfl, by decide⟩
instance : TA P 95 := ⟨fun _ => by kernel_rfl⟩
instance : TI P 96 1 8 := ⟨by kernel_rfl⟩
instance : TZ P 96 Value.nilFunc := ⟨by kernel_rfl⟩
instance : TE P 96 1 8 Value.nilFunc := ⟨inferInstance, inferInstance, by kernel_rfl, by decide⟩
instance : TS P 96 := ⟨fun _ => by kernel_rfl⟩
instance : TI P 97 1 8 := ⟨by kernel_rfl⟩
instance : TZ P 97 Value.nilFunc := ⟨by kernel_rfl⟩
instance : TE P 97 1 8 Value.nilFunc := ⟨inferInstance, inferInstance, by kernel_rfl, by decide⟩
instance : TS P 97 := ⟨fun _ => by kernel_rfl⟩
instance : TI P 98 1 8 := ⟨by kernel_rfl⟩
instance : TZ P 98 Value.nilFunc := ⟨by kernel_rfl⟩
instance : TE P 98 1 8 Value.nilFunc := ⟨inferInstance, inferInstance, by kernel_rfl, by decide⟩
instance : TS P 98 := ⟨fun _ => by kernel_rfl⟩
instance : TI P 99 1 8 := ⟨by kernel_rfl⟩
instance : TZ P 99 Value.nilFunc := ⟨by kernel_rfl⟩
instance : TE P 99 1 8 Value.nilFunc := ⟨inferInstance, inferInstance, by kernel_rfl, by decide⟩
instance : TS P 99 := ⟨fun _ => by kernel_rfl⟩
instance : TI P 100 1 8 := ⟨by kernel_rfl⟩
instance : TZ P 100 Value.nilFunc := ⟨by kernel_rfl⟩
instance : TE P 100 1 8 Value.nilFunc := ⟨inferInstance, inferInstance, by kernel_rfl, by decide⟩
instance : TS P 100 := ⟨fun _ => by kernel_rfl⟩
instance : TU P 101 (.int .i64) := ⟨by kernel_rfl⟩
instance : TI P 101 1 8 := ⟨by kernel_rfl⟩
instance : TZ P 101 (Value.int .i64 0) := ⟨by kernel_rfl⟩
instance : TE P 101 1 8 (Value.int .i64 0) := ⟨inferInstance, inferInstance, by kernel_rfl, by decide⟩
instance : TS P 101 := ⟨fun _ => by kernel_rfl⟩
instance : TI P 103 1 8 := ⟨by kernel_rfl⟩
instance : TZ P 103 Value.nilFunc := ⟨by kernel_rfl⟩
instance : TE P 103 1 8 Value.nilFunc := ⟨inferInstance, inferInstance, by kernel_rfl, by decide⟩
instance : TS P 103 := ⟨fun _ => by kernel_rfl⟩
instance : TI P 104 1 8 := ⟨by kernel_rfl⟩
instance : TZ P 104 Value.nilFunc := ⟨by kernel_rfl⟩
instance : TE P 104 1 8 Value.nilFunc := ⟨inferInstance, inferInstance, by kernel_rfl, by decide⟩
instance : TS P 104 := ⟨fun _ => by kernel_rfl⟩
instance : TI P 105 1 8 := ⟨by kernel_rfl⟩
instance : TZ P 105 Value.nilFunc := ⟨by kernel_rfl⟩
instance : TE P 105 1 8 Value.nilFunc := ⟨inferInstance, inferInstance, by kernel_rfl, by decide⟩
instance : TS P 105 := ⟨fun _ => by kernel_rfl⟩
instance : TI P 106 1 8 := ⟨by kernel_rfl⟩
instance : TZ P 106 Value.nilFunc := ⟨by kernel_rfl⟩
instance : TE P 106 1 8 Value.nilFunc := ⟨inferInstance, inferInstance, by kernel_rfl, by decide⟩
instance : TS P 106 := ⟨fun _ => by kernel_rfl⟩
instance : TI P 107 1 8 := ⟨by kernel_rfl⟩
instance : TZ P 107 Value.nilFunc := ⟨by kernel_rfl⟩
instance : TE P 107 1 8 Value.nilFunc := ⟨inferInstance, inferInstance, by kernel_rfl, by decide⟩
instance : TS P 107 := ⟨fun _ => by kernel_rfl⟩
instance : TI P 108 1 8 := ⟨by kernel_rfl⟩
instance : TZ P 108 Value.nilFunc := ⟨by kernel_rfl⟩
instance : TE P 108 1 8 Value.nilFunc := ⟨inferInstance, inferInstance, by kernel_rfl, by decide⟩
instance : TS P 108 := ⟨fun _ => by kernel_rfl⟩
instance : TU P 109 (.int .u64) := ⟨by kernel_rfl⟩
instance : TI P 109 1 8 := ⟨by kernel_rfl⟩
instance : TZ P 109 (Value.int .u64 0) := ⟨by kernel_rfl⟩
instance : TE P 109 1 8 (Value.int .u64 0) := ⟨inferInstance, inferInstance, by kernel_rfl, by decide⟩
instance : TS P 109 := ⟨fun _ => by kernel_rfl⟩
instance : TI P 110 1 8 := ⟨by kernel_rfl⟩
instance : TZ P 110 Value.nilFunc := ⟨by kernel_rfl⟩
instance : TE P 110 1 8 Value.nilFunc := ⟨inferInstance, inferInstance, by kernel_rfl, by decide⟩
instance : TS P 110 := ⟨fun _ => by kernel_rfl⟩
instance : TI P 111 1 8 := ⟨by kernel_rfl⟩
instance : TZ P 111 Value.nilFunc := ⟨by kernel_rfl⟩
instance : TE P 111 1 8 Value.nilFunc := ⟨inferInstance, inferInstance, by kernel_rfl, by decide⟩
instance : TS P 111 := ⟨fun _ => by kernel_rfl⟩
instance : TI P 112 1 8 := ⟨by kernel_rfl⟩
instance : TZ P 112 Value.nilFunc := ⟨by kernel_rfl⟩
instance : TE P 112 1 8 Value.nilFunc := ⟨inferInstance, inferInstance, by kernel_rfl, by decide⟩
instance : TS P 112 := ⟨fun _ => by kernel_rfl⟩
instance : TU P 113 (.pointer 3) := ⟨by kernel_rfl⟩
instance : TI P 113 1 8 := ⟨by kernel_rfl⟩
instance : TZ P 113 (Value.pointer none) := ⟨by kernel_rfl⟩
instance : TE P 113 1 8 (Value.pointer none) := ⟨inferInstance, inferInstance, by kernel_rfl, by decide⟩
instance : TS P 113 := ⟨fun _ => by kernel_rfl⟩
instance : TI P 114 1 8 := ⟨by kernel_rfl⟩
instance : TZ P 114 Value.nilFunc := ⟨by kernel_rfl⟩
instance : TE P 114 1 8 Value.nilFunc := ⟨inferInstance, inferInstance, by kernel_rfl, by decide⟩
instance : TS P 114 := ⟨fun _ => by kernel_rfl⟩
instance : TI P 115 1 8 := ⟨by kernel_rfl⟩
instance : TZ P 115 Value.nilFunc := ⟨by kernel_rfl⟩
instance : TE P 115 1 8 Value.nilFunc := ⟨inferInstance, inferInstance, by kernel_rfl, by decide⟩
instance : TS P 115 := ⟨fun _ => by kernel_rfl⟩
instance : TI P 116 1 8 := ⟨by kernel_rfl⟩
instance : TZ P 116 Value.nilFunc := ⟨by kernel_rfl⟩
instance : TE P 116 1 8 Value.nilFunc := ⟨inferInstance, inferInstance, by kernel_rfl, by decide⟩
instance : TS P 116 := ⟨fun _ => by kernel_rfl⟩
instance : TI P 117 1 8 := ⟨by kernel_rfl⟩
instance : TZ P 117 Value.nilFunc := ⟨by kernel_rfl⟩
instance : TE P 117 1 8 Value.nilFunc := ⟨inferInstance, inferInstance, by kernel_rfl, by decide⟩
instance : TS P 117 := ⟨fun _ => by kernel_rfl⟩
instance : TI P 118 1 8 := ⟨by kernel_rfl⟩
instance : TZ P 118 Value.nilFunc := ⟨by kernel_rfl⟩
instance : TE P 118 1 8 Value.nilFunc := ⟨inferInstance, inferInstance, by kernel_rfl, by decide⟩
instance : TS P 118 := ⟨fun _ => by kernel_rfl⟩
instance : TI P 119 1 8 := ⟨by kernel_rfl⟩
instance : TZ P 119 Value.nilFunc := ⟨by kernel_rfl⟩
instance : TE P 119 1 8 Value.nilFunc := ⟨inferInstance, inferInstance, by kernel_rfl, by decide⟩
instance : TS P 119 := ⟨fun _ => by kernel_rfl⟩
instance : TU P 120 (.pointer 109) := ⟨by kernel_rfl⟩
instance : TI P 120 1 8 := ⟨by kernel_rfl⟩
instance : TZ P 120 (Value.pointer none) := ⟨by kernel_rfl⟩
instance : TE P 120 1 8 (Value.pointer none) := ⟨inferInstance, inferInstance, by kernel_rfl, by decide⟩
instance : TS P 120 := ⟨fun _ => by kernel_rfl⟩
instance : TI P 122 1 8 := ⟨by kernel_rfl⟩
instance : TZ P 122 Value.nilFunc := ⟨by kernel_rfl⟩
instance : TE P 122 1 8 Value.nilFunc := ⟨inferInstance, inferInstance, by kernel_rfl, by decide⟩
instance : TS P 122 := ⟨fun _ => by kernel_rfl⟩
instance : TI P 123 1 8 := ⟨by kernel_rfl⟩
instance : TZ P 123 Value.nilFunc := ⟨by kernel_rfl⟩
instance : TE P 123 1 8 Value.nilFunc := ⟨inferInstance, inferInstance, by kernel_rfl, by decide⟩
instance : TS P 123 := ⟨fun _ => by kernel_rfl⟩
instance : TI P 124 1 8 := ⟨by kernel_rfl⟩
instance : TZ P 124 Value.nilFunc := ⟨by kernel_rfl⟩
instance : TE P 124 1 8 Value.nilFunc := ⟨inferInstance, inferInstance, by kernel_rfl, by decide⟩
instance : TS P 124 := ⟨fun _ => by kernel_rfl⟩
instance : TI P 125 1 8 := ⟨by kernel_rfl⟩
instance : TZ P 125 Value.nilFunc := ⟨by kernel_rfl⟩
instance : TE P 125 1 8 Value.nilFunc := ⟨inferInstance, inferInstance, by kernel_rfl, by decide⟩
instance : TS P 125 := ⟨fun _ => by kernel_rfl⟩
instance : TI P 126 1 8 := ⟨by kernel_rfl⟩
instance : TZ P 126 Value.nilFunc := ⟨by kernel_rfl⟩
instance : TE P 126 1 8 Value.nilFunc := ⟨inferInstance, inferInstance, by kernel_rfl, by decide⟩
instance : TS P 126 := ⟨fun _ => by kernel_rfl⟩
instance : TI P 132 1 8 := ⟨by kernel_rfl⟩
instance : TZ P 132 Value.nilFunc := ⟨by kernel_rfl⟩
instance : TE P 132 1 8 Value.nilFunc := ⟨inferInstance, inferInstance, by kernel_rfl, by decide⟩
instance : TS P 132 := ⟨fun _ => by kernel_rfl⟩
instance : TI P 135 1 8 := ⟨by kernel_rfl⟩
instance : TZ P 135 Value.nilFunc := ⟨by kernel_rfl⟩
instance : TE P 135 1 8 Value.nilFunc := ⟨inferInstance, inferInstance, by kernel_rfl, by decide⟩
instance : TS P 135 := ⟨fun _ => by kernel_rfl⟩
instance : TU P 136 (.pointer 5) := ⟨by kernel_rfl⟩
instance : TI P 136 1 8 := ⟨by kernel_rfl⟩
instance : TZ P 136 (Value.pointer none) := ⟨by kernel_rfl⟩
instance : TE P 136 1 8 (Value.pointer none) := ⟨inferInstance, inferInstance, by kernel_rfl, by decide⟩
instance : TS P 136 := ⟨fun _ => by kernel_rfl⟩
instance : TI P 141 1 8 := ⟨by kernel_rfl⟩
instance : TZ P 141 Value.nilFunc := ⟨by kernel_rfl⟩
instance : TE P 141 1 8 Value.nilFunc := ⟨inferInstance, inferInstance, by kernel_rfl, by decide⟩
instance : TS P 141 := ⟨fun _ => by kernel_rfl⟩
instance : TI P 142 1 8 := ⟨by kernel_rfl⟩
instance : TZ P 142 (Value.pointer none) := ⟨by kernel_rfl⟩
instance : TE P 142 1 8 (Value.pointer none) := ⟨inferInstance, inferInstance, by kernel_rfl, by decide⟩
instance : TS P 142 := ⟨fun _ => by kernel_rfl⟩
instance : FN P 3 := ⟨fun _ _ => by kernel_rfl⟩  -- lighterage/lighteragelaw9.CoinBack
instance : FN P 4 := ⟨fun _ _ => by kernel_rfl⟩  -- lighterage/lighteragelaw9.CoinPart
instance : FN P 5 := ⟨fun _ _ => by kernel_rfl⟩  -- lighterage/lighteragelaw9.CoinRises
instance : FN P 6 := ⟨fun _ _ => by kernel_rfl⟩  -- lighterage/lighteragelaw9.CoinPlays
instance : FN P 7 := ⟨fun _ _ => by kernel_rfl⟩  -- lighterage/coin.New
instance : FN P 8 := ⟨fun _ _ => by kernel_rfl⟩  -- lighterage/lighteragelaw3.Tx
instance : FN P 9 := ⟨fun _ _ => by kernel_rfl⟩  -- (*lighterage/coin.Set).Points
instance : FN P 10 := ⟨fun _ _ => by kernel_rfl⟩  -- (*lighterage/coin.Set).Make
instance : FN P 11 := ⟨fun _ _ => by kernel_rfl⟩  -- (*lighterage/coin.Set).Unmake
instance : FN P 12 := ⟨fun _ _ => by kernel_rfl⟩  -- lighterage/lighteragelaw9.awake
instance : FN P 13 := ⟨fun _ _ => by kernel_rfl⟩  -- (*lighterage/coin.Set).Take
instance : FN P 14 := ⟨fun _ _ => by kernel_rfl⟩  -- (*lighterage/coin.Set).Put
instance : FN P 15 := ⟨fun _ _ => by kernel_rfl⟩  -- lighterage/lighteragelaw9.Point
instance : FN P 16 := ⟨fun _ _ => by kernel_rfl⟩  -- lighterage/lighterageref1.Less
instance : FN P 17 := ⟨fun _ _ => by kernel_rfl⟩  -- lighterage/lighterageref1.Txid
instance : FN P 18 := ⟨fun _ _ => by kernel_rfl⟩  -- (*lighterage/lighterageref9.Set).Put
instance : FN P 19 := ⟨fun _ _ => by kernel_rfl⟩  -- (*lighterage/lighterageref9.Set).Take
instance : FN P 20 := ⟨fun _ _ => by kernel_rfl⟩  -- (*lighterage/lighterageref9.Set).Make
instance : FN P 21 := ⟨fun _ _ => by kernel_rfl⟩  -- (*lighterage/lighterageref9.Set).Unmake
instance : FN P 22 := ⟨fun _ _ => by kernel_rfl⟩  -- (*lighterage/coin.Set).Get
instance : FN P 23 := ⟨fun _ _ => by kernel_rfl⟩  -- (*lighterage/lighterageref9.Set).Get
instance : FN P 24 := ⟨fun _ _ => by kernel_rfl⟩  -- (*lighterage/lighterageref9.Set).Points
instance : FN P 25 := ⟨fun _ _ => by kernel_rfl⟩  -- lighterage/lighteragelaw3.Script
instance : FN P 26 := ⟨fun _ _ => by kernel_rfl⟩  -- slices.SortedFunc[lighterage/api.Point]
instance : FN P 27 := ⟨fun _ _ => by kernel_rfl⟩  -- maps.Keys[map[lighterage/api.Point]lighterage/api.Coin,lighterage/api.Point,lighterage/api.Coin]
instance : FN P 28 := ⟨fun _ _ => by kernel_rfl⟩  -- lighterage/coin.Compare
instance : FN P 29 := ⟨fun _ _ => by kernel_rfl⟩  -- lighterage/coin.made
instance : FN P 30 := ⟨fun _ _ => by kernel_rfl⟩  -- lighterage/lighterageref1.Twice
instance : FN P 31 := ⟨fun _ _ => by kernel_rfl⟩  -- lighterage/lighterageref1.Base
instance : FN P 32 := ⟨fun _ _ => by kernel_rfl⟩  -- (*lighterage/lighterageref9.Set).at
instance : FN P 33 := ⟨fun _ _ => by kernel_rfl⟩  -- slices.Collect[lighterage/api.Point]
instance : FN P 34 := ⟨fun _ _ => by kernel_rfl⟩  -- slices.SortFunc[[]lighterage/api.Point,lighterage/api.Point]
instance : FN P 35 := ⟨fun _ _ => by kernel_rfl⟩  -- maps.Keys[map[lighterage/api.Point]lighterage/api.Coin,lighterage/api.Point,lighterage/api.Coin]$1
instance : FN P 36 := ⟨fun _ _ => by kernel_rfl⟩  -- cmp.Or[int]
instance : FN P 37 := ⟨fun _ _ => by kernel_rfl⟩  -- lighterage/shas.Compare
instance : FN P 38 := ⟨fun _ _ => by kernel_rfl⟩  -- cmp.Compare[uint32]
instance : FN P 39 := ⟨fun _ _ => by kernel_rfl⟩  -- lighterage/idsx.Txid
instance : FN P 40 := ⟨fun _ _ => by kernel_rfl⟩  -- lighterage/lighterageref1.Sum
instance : FN P 41 := ⟨fun _ _ => by kernel_rfl⟩  -- lighterage/lighterageref1.May
instance : FN P 42 := ⟨fun _ _ => by kernel_rfl⟩  -- lighterage/lighterageref1.Small
instance : FN P 43 := ⟨fun _ _ => by kernel_rfl⟩  -- lighterage/lighterageref1.body
instance : FN P 44 := ⟨fun _ _ => by kernel_rfl⟩  -- lighterage/lighterageref9.less
instance : FN P 45 := ⟨fun _ _ => by kernel_rfl⟩  -- slices.AppendSeq[[]lighterage/api.Point,lighterage/api.Point]
instance : FN P 46 := ⟨fun _ _ => by kernel_rfl⟩  -- slices.pdqsortCmpFunc[lighterage/api.Point]
instance : FN P 47 := ⟨fun _ _ => by kernel_rfl⟩  -- math/bits.Len
instance : FN P 48 := ⟨fun _ _ => by kernel_rfl⟩  -- bytes.Compare
instance : FN P 49 := ⟨fun _ _ => by kernel_rfl⟩  -- cmp.isNaN[uint32]
instance : FN P 50 := ⟨fun _ _ => by kernel_rfl⟩  -- lighterage/shas.Twice
instance : FN P 51 := ⟨fun _ _ => by kernel_rfl⟩  -- lighterage/txns.Base
instance : FN P 52 := ⟨fun _ _ => by kernel_rfl⟩  -- lighterage/lighterageref1.numbers
instance : FN P 53 := ⟨fun _ _ => by kernel_rfl⟩  -- lighterage/lighterageref1.turned
instance : FN P 54 := ⟨fun _ _ => by kernel_rfl⟩  -- lighterage/lighterageref1.Count
instance : FN P 55 := ⟨fun _ _ => by kernel_rfl⟩  -- lighterage/lighterageref1.bytes
instance : FN P 56 := ⟨fun _ _ => by kernel_rfl⟩  -- lighterage/lighterageref1.Big
instance : FN P 57 := ⟨fun _ _ => by kernel_rfl⟩  -- slices.insertionSortCmpFunc[lighterage/api.Point]
instance : FN P 58 := ⟨fun _ _ => by kernel_rfl⟩  -- slices.heapSortCmpFunc[lighterage/api.Point]
instance : FN P 59 := ⟨fun _ _ => by kernel_rfl⟩  -- slices.breakPatternsCmpFunc[lighterage/api.Point]
instance : FN P 60 := ⟨fun _ _ => by kernel_rfl⟩  -- slices.choosePivotCmpFunc[lighterage/api.Point]
instance : FN P 61 := ⟨fun _ _ => by kernel_rfl⟩  -- slices.reverseRangeCmpFunc[lighterage/api.Point]
instance : FN P 62 := ⟨fun _ _ => by kernel_rfl⟩  -- slices.partialInsertionSortCmpFunc[lighterage/api.Point]
instance : FN P 63 := ⟨fun _ _ => by kernel_rfl⟩  -- slices.partitionEqualCmpFunc[lighterage/api.Point]
instance : FN P 64 := ⟨fun _ _ => by kernel_rfl⟩  -- slices.partitionCmpFunc[lighterage/api.Point]
instance : FN P 65 := ⟨fun _ _ => by kernel_rfl⟩  -- math/bits.Len32
instance : FN P 66 := ⟨fun _ _ => by kernel_rfl⟩  -- math/bits.Len64
instance : FN P 68 := ⟨fun _ _ => by kernel_rfl⟩  -- lighterage/shas.Sum
instance : FN P 69 := ⟨fun _ _ => by kernel_rfl⟩  -- lighterage/txns.May
instance : FN P 70 := ⟨fun _ _ => by kernel_rfl⟩  -- lighterage/wire.Small
instance : FN P 71 := ⟨fun _ _ => by kernel_rfl⟩  -- lighterage/txns.body
instance : FN P 72 := ⟨fun _ _ => by kernel_rfl⟩  -- slices.siftDownCmpFunc[lighterage/api.Point]
instance : FN P 73 := ⟨fun _ _ => by kernel_rfl⟩  -- slices.nextPowerOfTwo
instance : FN P 74 := ⟨fun _ _ => by kernel_rfl⟩  -- (*slices.xorshift).Next
instance : FN P 75 := ⟨fun _ _ => by kernel_rfl⟩  -- slices.medianAdjacentCmpFunc[lighterage/api.Point]
instance : FN P 76 := ⟨fun _ _ => by kernel_rfl⟩  -- slices.medianCmpFunc[lighterage/api.Point]
instance : FN P 77 := ⟨fun _ _ => by kernel_rfl⟩  -- slices.Clip[[]byte,byte]
instance : FN P 78 := ⟨fun _ _ => by kernel_rfl⟩  -- slices.Clone[[]byte,byte]
instance : FN P 79 := ⟨fun _ _ => by kernel_rfl⟩  -- lighterage/shas.mix
instance : FN P 80 := ⟨fun _ _ => by kernel_rfl⟩  -- lighterage/txns.long
instance : FN P 81 := ⟨fun _ _ => by kernel_rfl⟩  -- slices.ContainsFunc[[][]byte,[]byte]
instance : FN P 82 := ⟨fun _ _ => by kernel_rfl⟩  -- lighterage/wire.low
instance : FN P 83 := ⟨fun _ _ => by kernel_rfl⟩  -- lighterage/wire.Count
instance : FN P 84 := ⟨fun _ _ => by kernel_rfl⟩  -- lighterage/txns.counted
instance : FN P 85 := ⟨fun _ _ => by kernel_rfl⟩  -- lighterage/wire.Big
instance : FN P 86 := ⟨fun _ _ => by kernel_rfl⟩  -- slices.order2CmpFunc[lighterage/api.Point]
instance : FN P 87 := ⟨fun _ _ => by kernel_rfl⟩  -- lighterage/shas.spread
instance : FN P 88 := ⟨fun _ _ => by kernel_rfl⟩  -- lighterage/shas.turned
instance : FN P 89 := ⟨fun _ _ => by kernel_rfl⟩  -- slices.IndexFunc[[][]byte,[]byte]
instance : FN P 90 := ⟨fun _ _ => by kernel_rfl⟩  -- math/bits.RotateLeft32
end Go.Proofs.YthcgmdmdgpljmaaDoor.Z
