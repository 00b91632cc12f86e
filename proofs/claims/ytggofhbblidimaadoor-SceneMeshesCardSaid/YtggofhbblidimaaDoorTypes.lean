/- What the walks ask of the program's types: made by a program (walk.py). -/
import Derived.Test.YtggofhbblidimaaDoorEngH
import Derived.Test.YtggofhbblidimaaDoorProg
namespace Go.Proofs.YtggofhbblidimaaDoor
open Go Go.RowKit Eng
set_option maxRecDepth 4000
theorem mixed : Tryd.prog.follows .mixedOrders = true := by kernel_rfl
theorem ar_3_mesh_view : ArrayOf Tryd.prog 68 3 67 3 := ⟨Tryd.underlying68, Tryd.sizeOf67⟩
theorem bd_3_mesh_view_0_1_2 (x00 : Fn) (x00a x00b : Array Value) (x01 : Fn) (x01a x01b : Array Value) (x02 : Fn) (x02a x02b : Array Value) (x10 : Fn) (x10a x10b : Array Value) (x11 : Fn) (x11a x11b : Array Value) (x12 : Fn) (x12a x12b : Array Value) (x20 : Fn) (x20a x20b : Array Value) (x21 : Fn) (x21a x21b : Array Value) (x22 : Fn) (x22a x22b : Array Value) (w : World) : (Instr.build 68 [(0, (.agg #[.func x00 x00a x00b, .func x01 x01a x01b, .func x02 x02a x02b])), (1, (.agg #[.func x10 x10a x10b, .func x11 x11a x11b, .func x12 x12a x12b])), (2, (.agg #[.func x20 x20a x20b, .func x21 x21a x21b, .func x22 x22a x22b]))].toArray).run Tryd.prog w = .ok (.agg [.func x00 x00a x00b, .func x01 x01a x01b, .func x02 x02a x02b, .func x10 x10a x10b, .func x11 x11a x11b, .func x12 x12a x12b, .func x20 x20a x20b, .func x21 x21a x21b, .func x22 x22a x22b].toArray) w := by kernel_rfl
theorem bd_api_Quad_0_1_2 (x0 : Int) (x10 : Int) (x11 : Int) (x12 : Int) (x20 : Int) (x21 : Int) (x22 : Int) (w : World) : (Instr.build 42 [(0, (.int .u8 x0)), (1, (.agg #[.int .i64 x10, .int .i64 x11, .int .i64 x12])), (2, (.agg #[.int .i64 x20, .int .i64 x21, .int .i64 x22]))].toArray).run Tryd.prog w = .ok (.agg [.int .u8 x0, .int .i64 x10, .int .i64 x11, .int .i64 x12, .int .i64 x20, .int .i64 x21, .int .i64 x22].toArray) w := by kernel_rfl
theorem bd_api_Rect_0_1_2_3 (x0 : Int) (x1 : Int) (x2 : Int) (x3 : Int) (w : World) : (Instr.build 72 [(0, (.int .i64 x0)), (1, (.int .i64 x1)), (2, (.int .i64 x2)), (3, (.int .i64 x3))].toArray).run Tryd.prog w = .ok (.agg [.int .i64 x0, .int .i64 x1, .int .i64 x2, .int .i64 x3].toArray) w := by kernel_rfl
theorem bd_api_Vec_0_1_2 (x0 : Int) (x1 : Int) (x2 : Int) (w : World) : (Instr.build 40 [(0, (.int .i64 x0)), (1, (.int .i64 x1)), (2, (.int .i64 x2))].toArray).run Tryd.prog w = .ok (.agg [.int .i64 x0, .int .i64 x1, .int .i64 x2].toArray) w := by kernel_rfl
theorem bd_mesh_view_0_1_2 (x0 : Fn) (x0a x0b : Array Value) (x1 : Fn) (x1a x1b : Array Value) (x2 : Fn) (x2a x2b : Array Value) (w : World) : (Instr.build 67 [(0, (.func x0 x0a x0b)), (1, (.func x1 x1a x1b)), (2, (.func x2 x2a x2b))].toArray).run Tryd.prog w = .ok (.agg [.func x0 x0a x0b, .func x1 x1a x1b, .func x2 x2a x2b].toArray) w := by kernel_rfl
theorem bs_L_P_int_1 (x0 : Option Addr) (w : World) : (Instr.buildSlice 86 1 [(0, (.pointer x0))].toArray).run Tryd.prog w = .ok (.slice (some ⟨w.heap.size, 0, none⟩) 1 1) (w.alloc (.cells ([[.pointer x0]] : List (List Value)).flatten.toArray 55)) := by kernel_rfl
theorem bs_L_P_int_6 (x0 : Option Addr) (x1 : Option Addr) (x2 : Option Addr) (x3 : Option Addr) (x4 : Option Addr) (x5 : Option Addr) (w : World) : (Instr.buildSlice 86 6 [(0, (.pointer x0)), (1, (.pointer x1)), (2, (.pointer x2)), (3, (.pointer x3)), (4, (.pointer x4)), (5, (.pointer x5))].toArray).run Tryd.prog w = .ok (.slice (some ⟨w.heap.size, 0, none⟩) 6 6) (w.alloc (.cells ([[.pointer x0], [.pointer x1], [.pointer x2], [.pointer x3], [.pointer x4], [.pointer x5]] : List (List Value)).flatten.toArray 55)) := by kernel_rfl
theorem bs_L_api_Quad_1 (x00 : Int) (x010 : Int) (x011 : Int) (x012 : Int) (x020 : Int) (x021 : Int) (x022 : Int) (w : World) : (Instr.buildSlice 22 1 [(0, (.agg #[.int .u8 x00, .int .i64 x010, .int .i64 x011, .int .i64 x012, .int .i64 x020, .int .i64 x021, .int .i64 x022]))].toArray).run Tryd.prog w = .ok (.slice (some ⟨w.heap.size, 0, none⟩) 1 1) (w.alloc (.cells ([[.int .u8 x00, .int .i64 x010, .int .i64 x011, .int .i64 x012, .int .i64 x020, .int .i64 x021, .int .i64 x022]] : List (List Value)).flatten.toArray 42)) := by kernel_rfl
theorem bs_L_int_1 (x0 : Int) (w : World) : (Instr.buildSlice 48 1 [(0, (.int .i64 x0))].toArray).run Tryd.prog w = .ok (.slice (some ⟨w.heap.size, 0, none⟩) 1 1) (w.alloc (.cells ([[.int .i64 x0]] : List (List Value)).flatten.toArray 3)) := by kernel_rfl
theorem bs_L_int_6 (x0 : Int) (x1 : Int) (x2 : Int) (x3 : Int) (x4 : Int) (x5 : Int) (w : World) : (Instr.buildSlice 48 6 [(0, (.int .i64 x0)), (1, (.int .i64 x1)), (2, (.int .i64 x2)), (3, (.int .i64 x3)), (4, (.int .i64 x4)), (5, (.int .i64 x5))].toArray).run Tryd.prog w = .ok (.slice (some ⟨w.heap.size, 0, none⟩) 6 6) (w.alloc (.cells ([[.int .i64 x0], [.int .i64 x1], [.int .i64 x2], [.int .i64 x3], [.int .i64 x4], [.int .i64 x5]] : List (List Value)).flatten.toArray 3)) := by kernel_rfl
theorem bs_L_int_7 (x0 : Int) (x1 : Int) (x2 : Int) (x3 : Int) (x4 : Int) (x5 : Int) (x6 : Int) (w : World) : (Instr.buildSlice 48 7 [(0, (.int .i64 x0)), (1, (.int .i64 x1)), (2, (.int .i64 x2)), (3, (.int .i64 x3)), (4, (.int .i64 x4)), (5, (.int .i64 x5)), (6, (.int .i64 x6))].toArray).run Tryd.prog w = .ok (.slice (some ⟨w.heap.size, 0, none⟩) 7 7) (w.alloc (.cells ([[.int .i64 x0], [.int .i64 x1], [.int .i64 x2], [.int .i64 x3], [.int .i64 x4], [.int .i64 x5], [.int .i64 x6]] : List (List Value)).flatten.toArray 3)) := by kernel_rfl
theorem bs_L_string_1 (x0 : List UInt8) (w : World) : (Instr.buildSlice 50 1 [(0, (str x0))].toArray).run Tryd.prog w = .ok (.slice (some ⟨w.heap.size, 0, none⟩) 1 1) (w.alloc (.cells ([[str x0]] : List (List Value)).flatten.toArray 9)) := by kernel_rfl
theorem bs_L_uint8_1 (x0 : Int) (w : World) : (Instr.buildSlice 36 1 [(0, (.int .u8 x0))].toArray).run Tryd.prog w = .ok (.slice (some ⟨w.heap.size, 0, none⟩) 1 1) (w.alloc (.cells ([[.int .u8 x0]] : List (List Value)).flatten.toArray 5)) := by kernel_rfl
theorem fa_api_Box_0 : FieldAt Tryd.prog 57 0 0 := fun _ _ _ => by kernel_rfl
theorem fa_api_Box_1 : FieldAt Tryd.prog 57 1 3 := fun _ _ _ => by kernel_rfl
theorem fa_api_Quad_0 : FieldAt Tryd.prog 42 0 0 := fun _ _ _ => by kernel_rfl
theorem fa_api_Quad_1 : FieldAt Tryd.prog 42 1 1 := fun _ _ _ => by kernel_rfl
theorem fa_api_Quad_2 : FieldAt Tryd.prog 42 2 4 := fun _ _ _ => by kernel_rfl
theorem fa_api_Rect_0 : FieldAt Tryd.prog 72 0 0 := fun _ _ _ => by kernel_rfl
theorem fa_api_Rect_1 : FieldAt Tryd.prog 72 1 1 := fun _ _ _ => by kernel_rfl
theorem fa_api_Rect_2 : FieldAt Tryd.prog 72 2 2 := fun _ _ _ => by kernel_rfl
theorem fa_api_Rect_3 : FieldAt Tryd.prog 72 3 3 := fun _ _ _ => by kernel_rfl
theorem fa_api_Vec_0 : FieldAt Tryd.prog 40 0 0 := fun _ _ _ => by kernel_rfl
theorem fa_api_Vec_1 : FieldAt Tryd.prog 40 1 1 := fun _ _ _ => by kernel_rfl
theorem fa_api_Vec_2 : FieldAt Tryd.prog 40 2 2 := fun _ _ _ => by kernel_rfl
theorem fa_mesh_view_0 : FieldAt Tryd.prog 67 0 0 := fun _ _ _ => by kernel_rfl
theorem fa_mesh_view_1 : FieldAt Tryd.prog 67 1 1 := fun _ _ _ => by kernel_rfl
theorem fa_strings_Builder_0 : FieldAt Tryd.prog 38 0 0 := fun _ _ _ => by kernel_rfl
theorem fa_strings_Builder_1 : FieldAt Tryd.prog 38 1 1 := fun _ _ _ => by kernel_rfl
theorem sl_L_P_int : SliceOf Tryd.prog 86 55 1 8 := ⟨Tryd.underlying86, by kernel_rfl, by decide⟩
theorem sl_L_api_Quad : SliceOf Tryd.prog 22 42 7 56 := ⟨Tryd.underlying22, by kernel_rfl, by decide⟩
theorem sl_L_int : SliceOf Tryd.prog 48 3 1 8 := ⟨Tryd.underlying48, by kernel_rfl, by decide⟩
theorem sl_L_string : SliceOf Tryd.prog 50 9 1 16 := ⟨Tryd.underlying50, by kernel_rfl, by decide⟩
theorem sl_L_uint8 : SliceOf Tryd.prog 36 5 1 1 := ⟨Tryd.underlying36, by kernel_rfl, by decide⟩
end Go.Proofs.YtggofhbblidimaaDoor
