/- Parts of a proof: evaluation of Go code over typed values, and what it computes. -/
import Derived.Test.YtafinkfeghghkaaDoorX4
import Derived.Test.YtafinkfeghghkaaDoorH
import Derived.Test.YtafinkfeghghkaaDoorF
import Derived.KernelRfl
import Derived.Test.YtafinkfeghghkaaDoorChecked
set_option linter.unusedSimpArgs false
set_option linter.unusedVariables false
set_option linter.unusedSectionVars false
set_option linter.unusedVariables false
set_option maxRecDepth 100000
namespace Go.Rx
open Go.Proofs Go.Sq
abbrev yI : Ty := .int .i64
abbrev y1 : Ty := .pair yI yI
abbrev y2 : Ty := .pair yI y1
abbrev y3 : Ty := .pair yI y2
abbrev y4 : Ty := .sl y3
abbrev y5 : Ty := .pair yI .bool
abbrev y6 : Ty := .pair yI y5
abbrev y7 : Ty := .arr 16 .str
abbrev y8 : Ty := .sl y4
abbrev y9 : Ty := .own y3
abbrev y10 : Ty := .own y4
abbrev y11 : Ty := .sl yI
abbrev y12 : Ty := .own yI
abbrev yU : Ty := .int .u64
abbrev y18 : Ty := .arr 20 yU
noncomputable instance gwInst : Inhabited GW := ⟨⟨fun g => bif Nat.beq g 0 then some ⟨y18, tb_pow10⟩ else none⟩⟩
def tab : Tab := [
 (2, { td := .int .i64, size := 1, bytes := 8, ty := some (.int .i64), zc := [.int .i64 0] }),
 (3, { td := .int .i64, size := 1, bytes := 8, ty := some (.int .i64), zc := [.int .i64 0] }),
 (4, { td := .bool, size := 1, bytes := 1, ty := some .bool, zc := [.bool false] }),
 (5, { td := .int .u8, size := 1, bytes := 1, ty := some (.int .u8), zc := [.int .u8 0] }),
 (9, { td := .str, size := 1, bytes := 16, ty := some .str, zc := [.str ByteArray.empty] }),
 (20, { td := .other, size := 1, bytes := 16, ty := none, zc := [.nili] }),
 (21, { td := .int .i32, size := 1, bytes := 4, ty := some (.int .i32), zc := [.int .i32 0] }),
 (23, { td := .st [(0, 3), (1, 3), (2, 3), (3, 3)], size := 4, bytes := 32, ty := some (.pair (.int .i64) (.pair (.int .i64) (.pair (.int .i64) (.int .i64)))), zc := [.int .i64 0, .int .i64 0, .int .i64 0, .int .i64 0], eq := true }),
 (29, { td := .ptr 23, size := 1, bytes := 8, ty := none, zc := [.nilp] }),
 (30, { td := .sl 3, size := 1, bytes := 24, ty := some (.sl (.int .i64)), zc := [.nilsl] }),
 (32, { td := .sl 23, size := 1, bytes := 24, ty := some (.sl (.pair (.int .i64) (.pair (.int .i64) (.pair (.int .i64) (.int .i64))))), zc := [.nilsl] }),
 (35, { td := .sl 32, size := 1, bytes := 24, ty := some (.sl (.sl (.pair (.int .i64) (.pair (.int .i64) (.pair (.int .i64) (.int .i64)))))), zc := [.nilsl] }),
 (42, { td := .other, size := 1, bytes := 8, ty := none, zc := [.nilm] }),
 (48, { td := .st [(0, 3), (1, 3), (2, 4)], size := 3, bytes := 24, ty := some (.pair (.int .i64) (.pair (.int .i64) .bool)), zc := [.int .i64 0, .int .i64 0, .bool false] }),
 (51, { td := .st [(0, 3), (1, 3), (2, 4)], size := 3, bytes := 24, ty := some (.pair (.int .i64) (.pair (.int .i64) .bool)), zc := [.int .i64 0, .int .i64 0, .bool false] }),
 (54, { td := .arr 16 9, size := 16, bytes := 256, ty := some (.arr 16 .str), zc := [.arr 16 .str (List.replicate 16 (dflt .str))] }),
 (55, { td := .ptr 58, size := 1, bytes := 8, ty := none, zc := [.nilp] }),
 (56, { td := .sl 5, size := 1, bytes := 24, ty := some (.sl (.int .u8)), zc := [.nilsl] }),
 (64, { td := .ptr 48, size := 1, bytes := 8, ty := none, zc := [.nilp] }),
 (70, { td := .int .u32, size := 1, bytes := 4, ty := some (.int .u32), zc := [.int .u32 0] }),
 (71, { td := .arr 24 5, size := 24, bytes := 24, ty := some (.arr 24 (.int .u8)), zc := [.arr 24 (.int .u8) (List.replicate 24 (dflt (.int .u8)))] }),
 (72, { td := .int .u64, size := 1, bytes := 8, ty := some (.int .u64), zc := [.int .u64 0] }),
 (77, { td := .int .u64, size := 1, bytes := 8, ty := some (.int .u64), zc := [.int .u64 0] }),
 (80, { td := .arr 20 72, size := 20, bytes := 160, ty := some (.arr 20 (.int .u64)), zc := [.arr 20 (.int .u64) (List.replicate 20 (dflt (.int .u64)))] }),
 (81, { td := .arr 65 5, size := 65, bytes := 65, ty := some (.arr 65 (.int .u8)), zc := [.arr 65 (.int .u8) (List.replicate 65 (dflt (.int .u8)))] }),
 (85, { td := .arr 32 5, size := 32, bytes := 32, ty := some (.arr 32 (.int .u8)), zc := [.arr 32 (.int .u8) (List.replicate 32 (dflt (.int .u8)))] }),
 (86, { td := .arr 64 5, size := 64, bytes := 64, ty := some (.arr 64 (.int .u8)), zc := [.arr 64 (.int .u8) (List.replicate 64 (dflt (.int .u8)))] })]
noncomputable abbrev P : Program := Tryd.prog
theorem tabOK : TabOK P tab := chkTab_sound (by kernel_rfl)
theorem mixed : P.follows .mixedOrders = true := by kernel_rfl
theorem c12 : Contract P 12 [(false, y4)] [(false, yI), (false, .bool)] fun x => g_trace_Judge x := mkC tabOK mixed Tryd.func12 (.seq .no (.seq .no (.seq (.seq .no (.blk (.loop [.slot 0 false y4, .keep 4 4, .slot 7 false y4, .slot 8 false yI, .slot 9 false yI, .obj 4 y6] [(.exit 0, [.slot 0 false y4]), (.ret, [.slot 2 false yI, .slot 3 false .bool])] (.seq .no (.seq .no (.seq (.blk (.seq .no (.seq (.join [(.normal, [.slot 0 false y4, .keep 4 4, .slot 5 false yI, .slot 7 false y4, .slot 8 false yI, .slot 9 false yI, .slot 16 false .bool, .obj 4 y6])] .no) .no))) .no)))))) .no))) [ceI Tryd.func25 (.seq .no (.seq .no (.seq (.seq .no (.blk (.seq .no (.cond (.seq (.join [(.normal, [.keep 0 0, .slot 1 true y3, .slot 4 false .bool, .keep 6 6, .keep 7 7, .keep 8 8, .obj 7 y6])] .no) .no) (.seq (.draw [0, 1, 2, 3, 4, 5, 6, 7, 8, 9, 10]) (.cond (.seq (.join [(.normal, [.keep 0 0, .slot 1 true y3, .slot 5 false .bool, .keep 6 6, .keep 7 7, .keep 8 8, .keep 23 23, .keep 24 24, .keep 25 25, .keep 27 27, .keep 28 28, .keep 29 29, .obj 29 y6])] .no) .no) (.seq .no (.cond .no (.seq .no (.cond (.seq (.join [(.normal, [.keep 0 0, .slot 1 true y3, .slot 4 false .bool, .keep 6 6, .keep 7 7, .keep 8 8, .keep 23 23, .keep 24 24, .keep 25 25, .keep 27 27, .keep 28 28, .keep 29 29, .keep 45 45, .keep 46 46, .keep 47 47, .obj 47 y6])] (.draw [0, 1, 2, 3, 4, 5, 6, 7, 8, 9, 10, 11, 12, 13, 14, 15, 16, 17, 18, 19, 20, 21, 22, 23, 24, 25])) .no) (.seq (.join [(.normal, [.keep 0 0, .slot 1 true y3, .keep 3 3, .keep 6 6, .keep 7 7, .keep 8 8, .keep 13 13, .keep 15 15, .keep 23 23, .keep 24 24, .keep 25 25, .keep 27 27, .keep 28 28, .keep 29 29, .keep 45 45, .keep 46 46, .keep 47 47, .keep 60 60, .keep 62 62, .slot 91 false .bool, .obj 47 y6, .obj 3 y3])] (.seq .no (.cond .no (.draw [0, 1, 2, 3, 4, 5, 6, 7, 8])))) .no))))))))))) .no))) (by kernel_rfl), ceI Tryd.func31 (.seq .no (.seq (.blk (.seq .no (.cond .no (.seq (.draw [0, 1, 2, 3, 4, 5, 6, 7, 8]) .no)))) (.seq (.join [(.normal, [.keep 0 0, .slot 1 true y3, .slot 4 false .bool, .keep 12 12, .keep 13 13, .keep 14 14, .obj 14 y6])] (.draw [0, 1, 2, 3, 4, 5, 6, 7, 8, 9, 10, 11, 12, 13, 14, 15, 16, 17, 18, 19, 20, 21, 22, 23])) .no))) (by kernel_rfl)] (by kernel_rfl) fun x => by kernel_rfl
theorem c23 : Contract P 23 [(false, .str)] [(false, .str)] fun x => g_trace_points x := h_points
theorem c24 : Contract P 24 [(false, yI)] [(false, .str)] fun x => g_strconv_Itoa x := h_itoa (by kernel_rfl)
theorem c22 : Contract P 22 [(false, yI)] [(false, .str)] fun x => g_trace_word x := mkC tabOK mixed Tryd.func22 (.seq .no (.seq .no (.seq (.seq (.join [(.normal, [.slot 0 false yI, .keep 3 3, .slot 16 false .bool, .obj 3 y7])] .no) .no) .no))) [] (by kernel_rfl) fun x => by kernel_rfl
theorem c7 : Contract P 7 [] [(false, .bool)] fun x => g_law23_live := mkC tabOK mixed Tryd.func7 .no [ceI Tryd.func8 .no (by kernel_rfl), ceS c12, ceS c22, ceS c23, ceS c24] (by kernel_rfl) fun x => by kernel_rfl
theorem c13 : Contract P 13 [(false, y4)] [(false, y8)] fun x => g_trace_Parts x := mkC tabOK mixed Tryd.func13 (.seq .no (.seq .no (.seq .no (.seq .no (.seq (.seq .no (.blk (.loop [.keep 3 3, .slot 4 false y9, .slot 5 false y10, .slot 9 false y4, .slot 10 false yI, .slot 11 false yI, .obj 3 y6] [(.exit 0, [.slot 4 false y9, .slot 5 false y10])] (.seq .no (.seq .no (.seq (.blk (.seq .no (.seq .no (.seq (.seq (.join [(.normal, [.keep 3 3, .keep 4 4, .aob 4 y3, .keep 5 5, .aob 5 y4, .keep 7 7, .slot 8 false yI, .slot 9 false y4, .slot 10 false yI, .slot 11 false yI, .keep 15 15, .slot 19 false .bool, .obj 15 y6, .obj 7 y3])] .no) .no) (.seq (.join [(.normal, [.keep 3 3, .slot 4 false y9, .slot 5 false y10, .keep 7 7, .slot 9 false y4, .slot 10 false yI, .slot 11 false yI, .keep 15 15, .obj 15 y6, .obj 7 y3])] .no) .no))))) .no)))))) .no))))) [ceI Tryd.func25 (.seq .no (.seq .no (.seq (.seq .no (.blk (.seq .no (.cond (.seq (.join [(.normal, [.keep 0 0, .slot 1 true y3, .slot 4 false .bool, .keep 6 6, .keep 7 7, .keep 8 8, .obj 7 y6])] .no) .no) (.seq (.draw [0, 1, 2, 3, 4, 5, 6, 7, 8, 9, 10]) (.cond (.seq (.join [(.normal, [.keep 0 0, .slot 1 true y3, .slot 5 false .bool, .keep 6 6, .keep 7 7, .keep 8 8, .keep 23 23, .keep 24 24, .keep 25 25, .keep 27 27, .keep 28 28, .keep 29 29, .obj 29 y6])] .no) .no) (.seq .no (.cond .no (.seq .no (.cond (.seq (.join [(.normal, [.keep 0 0, .slot 1 true y3, .slot 4 false .bool, .keep 6 6, .keep 7 7, .keep 8 8, .keep 23 23, .keep 24 24, .keep 25 25, .keep 27 27, .keep 28 28, .keep 29 29, .keep 45 45, .keep 46 46, .keep 47 47, .obj 47 y6])] (.draw [0, 1, 2, 3, 4, 5, 6, 7, 8, 9, 10, 11, 12, 13, 14, 15, 16, 17, 18, 19, 20, 21, 22, 23, 24, 25])) .no) (.seq (.join [(.normal, [.keep 0 0, .slot 1 true y3, .keep 3 3, .keep 6 6, .keep 7 7, .keep 8 8, .keep 13 13, .keep 15 15, .keep 23 23, .keep 24 24, .keep 25 25, .keep 27 27, .keep 28 28, .keep 29 29, .keep 45 45, .keep 46 46, .keep 47 47, .keep 60 60, .keep 62 62, .slot 91 false .bool, .obj 47 y6, .obj 3 y3])] (.seq .no (.cond .no (.draw [0, 1, 2, 3, 4, 5, 6, 7, 8])))) .no))))))))))) .no))) (by kernel_rfl), ceI Tryd.func31 (.seq .no (.seq (.blk (.seq .no (.cond .no (.seq (.draw [0, 1, 2, 3, 4, 5, 6, 7, 8]) .no)))) (.seq (.join [(.normal, [.keep 0 0, .slot 1 true y3, .slot 4 false .bool, .keep 12 12, .keep 13 13, .keep 14 14, .obj 14 y6])] (.draw [0, 1, 2, 3, 4, 5, 6, 7, 8, 9, 10, 11, 12, 13, 14, 15, 16, 17, 18, 19, 20, 21, 22, 23])) .no))) (by kernel_rfl)] (by kernel_rfl) fun x => by kernel_rfl
theorem c14 : Contract P 14 [(false, y4)] [(false, y11)] fun x => g_trace_Holders x := mkC tabOK mixed Tryd.func14 (.seq .no (.seq .no (.seq (.seq .no (.blk (.loop [.slot 3 false y12, .slot 8 false y8, .slot 9 false yI, .slot 10 false yI] [(.exit 0, [.slot 3 false y12])] .no))) .no))) [ceS c13] (by kernel_rfl) fun x => by kernel_rfl
theorem c15 : Contract P 15 [(false, y11), (false, y11)] [(false, .bool)] fun x => g_r03_Equal x.1 x.2 := mkC tabOK mixed Tryd.func15 (.seq .no (.seq .no (.seq (.seq .no (.blk (.loop [.slot 0 false y11, .slot 1 false y11, .slot 12 false yI, .slot 13 false yI] [(.exit 0, []), (.ret, [.slot 4 false .bool])] (.seq .no (.seq .no (.seq (.blk (.seq .no (.seq (.draw [0, 1, 2, 3, 4, 5, 6, 7, 8]) .no))) .no)))))) .no))) [] (by kernel_rfl) fun x => by kernel_rfl
theorem c5 : Contract P 5 [(false, y4), (false, y4)] [(false, .bool)] fun x => g_law23_TraceJoins x.1 x.2 := mkC tabOK mixed Tryd.func5 .no [ceS c7, ceS c12, ceS c14, ceS c15] (by kernel_rfl) fun x => by kernel_rfl
end Go.Rx
