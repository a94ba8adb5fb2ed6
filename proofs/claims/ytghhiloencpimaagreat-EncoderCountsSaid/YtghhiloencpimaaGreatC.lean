/- Parts of a proof: evaluation of Go code over typed values, and what it computes. -/
import Derived.Test.YtghhiloencpimaaGreatX4
import Derived.Test.YtghhiloencpimaaGreatF
import Derived.KernelRfl
import Derived.Test.YtghhiloencpimaaGreatChecked
set_option linter.unusedSimpArgs false
set_option linter.unusedVariables false
set_option linter.unusedSectionVars false
set_option linter.unusedVariables false
set_option maxRecDepth 100000
namespace Go.Rx
open Go.Proofs Go.Sq
def tab : Tab := [
 (3, { td := .int .i64, size := 1, bytes := 8, ty := some (.int .i64), zc := [.int .i64 0] }),
 (4, { td := .bool, size := 1, bytes := 1, ty := some .bool, zc := [.bool false] }),
 (5, { td := .int .u8, size := 1, bytes := 1, ty := some (.int .u8), zc := [.int .u8 0] }),
 (9, { td := .str, size := 1, bytes := 16, ty := some .str, zc := [.str ByteArray.empty] }),
 (20, { td := .other, size := 1, bytes := 16, ty := none, zc := [.nili] }),
 (23, { td := .arr 16 3, size := 16, bytes := 128, ty := some (.arr 16 (.int .i64)), zc := [.arr 16 (.int .i64) (List.replicate 16 (dflt (.int .i64)))], eq := true }),
 (24, { td := .arr 16 3, size := 16, bytes := 128, ty := some (.arr 16 (.int .i64)), zc := [.arr 16 (.int .i64) (List.replicate 16 (dflt (.int .i64)))], eq := true }),
 (25, { td := .arr 16 3, size := 16, bytes := 128, ty := some (.arr 16 (.int .i64)), zc := [.arr 16 (.int .i64) (List.replicate 16 (dflt (.int .i64)))] }),
 (27, { td := .arr 6 3, size := 6, bytes := 48, ty := some (.arr 6 (.int .i64)), zc := [.arr 6 (.int .i64) (List.replicate 6 (dflt (.int .i64)))], eq := true }),
 (28, { td := .int .u32, size := 1, bytes := 4, ty := some (.int .u32), zc := [.int .u32 0] }),
 (30, { td := .st [(0, 25), (16, 27), (22, 4), (23, 4), (24, 28)], size := 25, bytes := 184, ty := some (.pair (.arr 16 (.int .i64)) (.pair (.arr 6 (.int .i64)) (.pair .bool (.pair .bool (.int .u32))))), zc := [.arr 16 (.int .i64) (List.replicate 16 (dflt (.int .i64))), .arr 6 (.int .i64) (List.replicate 6 (dflt (.int .i64))), .bool false, .bool false, .int .u32 0], eq := true }),
 (32, { td := .st [(0, 24), (16, 3), (17, 3), (18, 3), (19, 30)], size := 44, bytes := 336, ty := some (.pair (.arr 16 (.int .i64)) (.pair (.int .i64) (.pair (.int .i64) (.pair (.int .i64) (.pair (.arr 16 (.int .i64)) (.pair (.arr 6 (.int .i64)) (.pair .bool (.pair .bool (.int .u32))))))))), zc := [.arr 16 (.int .i64) (List.replicate 16 (dflt (.int .i64))), .int .i64 0, .int .i64 0, .int .i64 0, .arr 16 (.int .i64) (List.replicate 16 (dflt (.int .i64))), .arr 6 (.int .i64) (List.replicate 6 (dflt (.int .i64))), .bool false, .bool false, .int .u32 0], eq := true }),
 (34, { td := .sl 5, size := 1, bytes := 24, ty := some (.sl (.int .u8)), zc := [.nilsl] }),
 (35, { td := .int .i64, size := 1, bytes := 8, ty := some (.int .i64), zc := [.int .i64 0] }),
 (40, { td := .sl 24, size := 1, bytes := 24, ty := some (.sl (.arr 16 (.int .i64))), zc := [.nilsl] }),
 (44, { td := .st [(0, 3), (1, 27), (7, 23)], size := 23, bytes := 184, ty := some (.pair (.int .i64) (.pair (.arr 6 (.int .i64)) (.arr 16 (.int .i64)))), zc := [.int .i64 0, .arr 6 (.int .i64) (List.replicate 6 (dflt (.int .i64))), .arr 16 (.int .i64) (List.replicate 16 (dflt (.int .i64)))] }),
 (57, { td := .sl 34, size := 1, bytes := 24, ty := some (.sl (.sl (.int .u8))), zc := [.nilsl] }),
 (62, { td := .arr 16 3, size := 16, bytes := 128, ty := some (.arr 16 (.int .i64)), zc := [.arr 16 (.int .i64) (List.replicate 16 (dflt (.int .i64)))], eq := true }),
 (65, { td := .ptr 67, size := 1, bytes := 8, ty := none, zc := [.nilp] }),
 (67, { td := .st [(0, 32), (44, 62), (60, 27)], size := 66, bytes := 512, ty := some (.pair (.pair (.arr 16 (.int .i64)) (.pair (.int .i64) (.pair (.int .i64) (.pair (.int .i64) (.pair (.arr 16 (.int .i64)) (.pair (.arr 6 (.int .i64)) (.pair .bool (.pair .bool (.int .u32))))))))) (.pair (.arr 16 (.int .i64)) (.arr 6 (.int .i64)))), zc := [.arr 16 (.int .i64) (List.replicate 16 (dflt (.int .i64))), .int .i64 0, .int .i64 0, .int .i64 0, .arr 16 (.int .i64) (List.replicate 16 (dflt (.int .i64))), .arr 6 (.int .i64) (List.replicate 6 (dflt (.int .i64))), .bool false, .bool false, .int .u32 0, .arr 16 (.int .i64) (List.replicate 16 (dflt (.int .i64))), .arr 6 (.int .i64) (List.replicate 6 (dflt (.int .i64)))] }),
 (78, { td := .ptr 44, size := 1, bytes := 8, ty := none, zc := [.nilp] }),
 (79, { td := .other, size := 1, bytes := 8, ty := none, zc := [.nilf] }),
 (80, { td := .ptr 120, size := 1, bytes := 8, ty := none, zc := [.nilp] }),
 (84, { td := .ptr 87, size := 1, bytes := 8, ty := none, zc := [.nilp] }),
 (87, { td := .st [(0, 30), (25, 24), (41, 35)], size := 42, bytes := 320, ty := some (.pair (.pair (.arr 16 (.int .i64)) (.pair (.arr 6 (.int .i64)) (.pair .bool (.pair .bool (.int .u32))))) (.pair (.arr 16 (.int .i64)) (.int .i64))), zc := [.arr 16 (.int .i64) (List.replicate 16 (dflt (.int .i64))), .arr 6 (.int .i64) (List.replicate 6 (dflt (.int .i64))), .bool false, .bool false, .int .u32 0, .arr 16 (.int .i64) (List.replicate 16 (dflt (.int .i64))), .int .i64 0] }),
 (97, { td := .arr 6 3, size := 6, bytes := 48, ty := some (.arr 6 (.int .i64)), zc := [.arr 6 (.int .i64) (List.replicate 6 (dflt (.int .i64)))] }),
 (100, { td := .ptr 3, size := 1, bytes := 8, ty := none, zc := [.nilp] }),
 (101, { td := .sl 3, size := 1, bytes := 24, ty := some (.sl (.int .i64)), zc := [.nilsl] }),
 (103, { td := .st [(0, 101)], size := 1, bytes := 24, ty := some (.sl (.int .i64)), zc := [.nilsl] }),
 (108, { td := .arr 32 3, size := 32, bytes := 256, ty := some (.arr 32 (.int .i64)), zc := [.arr 32 (.int .i64) (List.replicate 32 (dflt (.int .i64)))] }),
 (109, { td := .arr 32 3, size := 32, bytes := 256, ty := some (.arr 32 (.int .i64)), zc := [.arr 32 (.int .i64) (List.replicate 32 (dflt (.int .i64)))] }),
 (116, { td := .st [(0, 34), (1, 3)], size := 2, bytes := 32, ty := some (.pair (.sl (.int .u8)) (.int .i64)), zc := [.nilsl, .int .i64 0] }),
 (118, { td := .st [(0, 28), (1, 28), (2, 28), (3, 116), (5, 3)], size := 6, bytes := 56, ty := some (.pair (.int .u32) (.pair (.int .u32) (.pair (.int .u32) (.pair (.pair (.sl (.int .u8)) (.int .i64)) (.int .i64))))), zc := [.int .u32 0, .int .u32 0, .int .u32 0, .nilsl, .int .i64 0, .int .i64 0] }),
 (120, { td := .st [(0, 118), (6, 35)], size := 7, bytes := 64, ty := some (.pair (.pair (.int .u32) (.pair (.int .u32) (.pair (.int .u32) (.pair (.pair (.sl (.int .u8)) (.int .i64)) (.int .i64))))) (.int .i64)), zc := [.int .u32 0, .int .u32 0, .int .u32 0, .nilsl, .int .i64 0, .int .i64 0, .int .i64 0] }),
 (127, { td := .sl 103, size := 1, bytes := 24, ty := some (.sl (.sl (.int .i64))), zc := [.nilsl] }),
 (138, { td := .st [(0, 3), (1, 3)], size := 2, bytes := 16, ty := some (.pair (.int .i64) (.int .i64)), zc := [.int .i64 0, .int .i64 0] }),
 (139, { td := .arr 16 138, size := 32, bytes := 256, ty := some (.arr 16 (.pair (.int .i64) (.int .i64))), zc := [.arr 16 (.pair (.int .i64) (.int .i64)) (List.replicate 16 (dflt (.pair (.int .i64) (.int .i64))))] }),
 (142, { td := .arr 128 3, size := 128, bytes := 1024, ty := some (.arr 128 (.int .i64)), zc := [.arr 128 (.int .i64) (List.replicate 128 (dflt (.int .i64)))] }),
 (144, { td := .st [(0, 142), (128, 142)], size := 256, bytes := 2048, ty := some (.pair (.arr 128 (.int .i64)) (.arr 128 (.int .i64))), zc := [.arr 128 (.int .i64) (List.replicate 128 (dflt (.int .i64))), .arr 128 (.int .i64) (List.replicate 128 (dflt (.int .i64)))] }),
 (147, { td := .int .u64, size := 1, bytes := 8, ty := some (.int .u64), zc := [.int .u64 0] }),
 (156, { td := .arr 16 101, size := 16, bytes := 384, ty := some (.arr 16 (.sl (.int .i64))), zc := [.arr 16 (.sl (.int .i64)) (List.replicate 16 (dflt (.sl (.int .i64))))] }),
 (158, { td := .st [(0, 108), (32, 156)], size := 48, bytes := 640, ty := some (.pair (.arr 32 (.int .i64)) (.arr 16 (.sl (.int .i64)))), zc := [.arr 32 (.int .i64) (List.replicate 32 (dflt (.int .i64))), .arr 16 (.sl (.int .i64)) (List.replicate 16 (dflt (.sl (.int .i64))))] }),
 (162, { td := .arr 7 3, size := 7, bytes := 56, ty := some (.arr 7 (.int .i64)), zc := [.arr 7 (.int .i64) (List.replicate 7 (dflt (.int .i64)))] }),
 (169, { td := .other, size := 1, bytes := 8, ty := none, zc := [.nilf] }),
 (173, { td := .int .u64, size := 1, bytes := 8, ty := some (.int .u64), zc := [.int .u64 0] }),
 (178, { td := .st [(0, 147), (1, 147)], size := 2, bytes := 16, ty := some (.pair (.int .u64) (.int .u64)), zc := [.int .u64 0, .int .u64 0] }),
 (187, { td := .st [(0, 28), (1, 28), (2, 3), (3, 116)], size := 5, bytes := 48, ty := some (.pair (.int .u32) (.pair (.int .u32) (.pair (.int .i64) (.pair (.sl (.int .u8)) (.int .i64))))), zc := [.int .u32 0, .int .u32 0, .int .i64 0, .nilsl, .int .i64 0] }),
 (194, { td := .other, size := 1, bytes := 8, ty := none, zc := [.nilf] }),
 (195, { td := .sl 147, size := 1, bytes := 24, ty := some (.sl (.int .u64)), zc := [.nilsl] }),
 (204, { td := .ptr 178, size := 1, bytes := 8, ty := none, zc := [.nilp] }),
 (205, { td := .ptr 210, size := 1, bytes := 8, ty := none, zc := [.nilp] }),
 (210, { td := .st [(0, 178), (2, 3), (3, 116), (5, 35)], size := 6, bytes := 64, ty := some (.pair (.pair (.int .u64) (.int .u64)) (.pair (.int .i64) (.pair (.pair (.sl (.int .u8)) (.int .i64)) (.int .i64)))), zc := [.int .u64 0, .int .u64 0, .int .i64 0, .nilsl, .int .i64 0, .int .i64 0] }),
 (218, { td := .ptr 229, size := 1, bytes := 8, ty := none, zc := [.nilp] }),
 (221, { td := .st [(0, 3), (1, 3)], size := 2, bytes := 16, ty := some (.pair (.int .i64) (.int .i64)), zc := [.int .i64 0, .int .i64 0] }),
 (229, { td := .arr 128 221, size := 256, bytes := 2048, ty := some (.arr 128 (.pair (.int .i64) (.int .i64))), zc := [.arr 128 (.pair (.int .i64) (.int .i64)) (List.replicate 128 (dflt (.pair (.int .i64) (.int .i64))))] }),
 (230, { td := .arr 8 221, size := 16, bytes := 128, ty := some (.arr 8 (.pair (.int .i64) (.int .i64))), zc := [.arr 8 (.pair (.int .i64) (.int .i64)) (List.replicate 8 (dflt (.pair (.int .i64) (.int .i64))))] }),
 (241, { td := .ptr 244, size := 1, bytes := 8, ty := none, zc := [.nilp] }),
 (242, { td := .other, size := 1, bytes := 8, ty := none, zc := [.nilf] }),
 (244, { td := .st [(0, 20), (1, 242)], size := 2, bytes := 24, ty := none, zc := [.nili, .nilf] })]
noncomputable abbrev P : Program := Tryz.prog
theorem tabOK : TabOK P tab := chkTab_sound (by kernel_rfl)
theorem mixed : P.follows .mixedOrders = true := by kernel_rfl
noncomputable def bd160 : BackD := ⟨15, 0, 1, 2, 3, 0, 1, 8, 18, 11, 12, 16, 17, rO (cF (Tryz.f160.body.getD .skip)), rO (cF (cF (bkL (Tryz.f160.body.getD .skip)))), rO (cS (cS (bkL (Tryz.f160.body.getD .skip)))), (bkO (Tryz.f160.body.getD .skip)).take 6, (bkO (Tryz.f160.body.getD .skip)).drop 7, hdO ((bkO (Tryz.f160.body.getD .skip)).drop 6), atO (hdO ((bkO (Tryz.f160.body.getD .skip)).drop 6))⟩
theorem bk160 : BackOK P tab 160 6 bd160 := ⟨⟨Tryz.f160, Tryz.func160, by kernel_rfl, by kernel_rfl, by kernel_rfl, by kernel_rfl⟩, fun y l => by kernel_rfl, fun y i => by kernel_rfl, fun y l i => tk_bif (c := within i 6) (S := bkS 6 15 y l i) (by kernel_rfl) (by kernel_rfl), ⟨by kernel_rfl, by kernel_rfl, by kernel_rfl⟩, by decide, fun y i b => by kernel_rfl, fun y i => by kernel_rfl⟩
noncomputable abbrev b31 : Code := Tryz.f31.body.getD .skip
noncomputable abbrev b32 : Code := Tryz.f32.body.getD .skip
noncomputable abbrev b33 : Code := Tryz.f33.body.getD .skip
noncomputable abbrev b39 : Code := Tryz.f39.body.getD .skip
noncomputable abbrev b40 : Code := Tryz.f40.body.getD .skip
noncomputable abbrev b41 : Code := Tryz.f41.body.getD .skip
noncomputable abbrev b44 : Code := Tryz.f44.body.getD .skip
noncomputable abbrev b45 : Code := Tryz.f45.body.getD .skip
noncomputable abbrev b46 : Code := Tryz.f46.body.getD .skip
noncomputable abbrev b47 : Code := Tryz.f47.body.getD .skip
noncomputable abbrev b48 : Code := Tryz.f48.body.getD .skip
noncomputable abbrev b113 : Code := Tryz.f113.body.getD .skip
noncomputable abbrev b123 : Code := Tryz.f123.body.getD .skip
noncomputable abbrev b125 : Code := Tryz.f125.body.getD .skip
noncomputable abbrev b126 : Code := Tryz.f126.body.getD .skip
noncomputable abbrev b162 : Code := Tryz.f162.body.getD .skip
noncomputable abbrev b164 : Code := Tryz.f164.body.getD .skip
noncomputable abbrev b165 : Code := Tryz.f165.body.getD .skip
noncomputable abbrev b184 : Code := Tryz.f184.body.getD .skip
noncomputable abbrev b211 : Code := Tryz.f211.body.getD .skip
noncomputable abbrev b212 : Code := Tryz.f212.body.getD .skip
abbrev yI : Ty := .int .i64
abbrev y1 : Ty := .arr 16 yI
abbrev y2 : Ty := .arr 6 yI
abbrev yW : Ty := .int .u32
abbrev y4 : Ty := .pair .bool yW
abbrev y5 : Ty := .pair .bool y4
abbrev y6 : Ty := .pair y2 y5
abbrev y7 : Ty := .pair y1 y6
abbrev y8 : Ty := .pair yI y7
abbrev y9 : Ty := .pair yI y8
abbrev y10 : Ty := .pair yI y9
abbrev y11 : Ty := .pair y1 y10
abbrev yU : Ty := .int .u64
abbrev y13 : Ty := .pair yI yI
abbrev y14 : Ty := .arr 8 y13
abbrev y15 : Ty := .arr 128 y13
abbrev y16 : Ty := .sl yI
abbrev y17 : Ty := .own yI
abbrev y18 : Ty := .arr 32 yI
abbrev y19 : Ty := .arr 16 y16
abbrev y20 : Ty := .pair y18 y19
abbrev y21 : Ty := .arr 7 yI
abbrev y22 : Ty := .sl yU
abbrev y23 : Ty := .own yU
abbrev y24 : Ty := .arr 16 y13
abbrev y25 : Ty := .pair y2 y1
abbrev y26 : Ty := .pair yI y25
abbrev y27 : Ty := .sl y16
abbrev y28 : Ty := .own y16
abbrev yB : Ty := .int .u8
abbrev y30 : Ty := .sl yB
abbrev y31 : Ty := .pair y30 yI
abbrev y32 : Ty := .pair yI y31
abbrev y33 : Ty := .pair yW y32
abbrev y34 : Ty := .pair yW y33
abbrev y35 : Ty := .pair yU yU
abbrev y36 : Ty := .own yB
abbrev y37 : Ty := .pair y36 yI
abbrev y38 : Ty := .pair yI y37
abbrev y39 : Ty := .pair yW y38
abbrev y40 : Ty := .pair yW y39
abbrev y41 : Ty := .pair y31 yI
abbrev y42 : Ty := .pair yI y41
abbrev y43 : Ty := .pair y35 y42
abbrev y44 : Ty := .pair y37 yI
abbrev y45 : Ty := .pair yI y44
abbrev y46 : Ty := .pair y35 y45
abbrev y47 : Ty := .pair yW y41
abbrev y48 : Ty := .pair yW y47
abbrev y49 : Ty := .pair yW y48
abbrev y50 : Ty := .pair yW y44
abbrev y51 : Ty := .pair yW y50
abbrev y52 : Ty := .pair yW y51
abbrev y53 : Ty := .pair y49 yI
abbrev y54 : Ty := .pair y1 yI
abbrev y55 : Ty := .pair y7 y54
abbrev y56 : Ty := .pair y1 y2
abbrev y57 : Ty := .pair y11 y56
abbrev y58 : Ty := .sl y1
abbrev i14 : List (Bool × Ty) := []
abbrev o14 : List (Bool × Ty) := [(true, y7)]
noncomputable def s14 : List (Nat × Callee) := []
theorem h14 : HOK P (handler tab s14 8) := handler_sound tabOK mixed (callsOK_get (l := s14) trivial) 8
def n14 : Ann := .no
noncomputable abbrev b14 : Code := Tryz.f14.body.getD .skip
theorem e14 (x : denL i14) : evalF tab s14 8 Tryz.f14 b14 n14 i14 o14 x = g_decoder_Start := by kernel_rfl
theorem c14 : Contract P 14 i14 o14 (fun x => g_decoder_Start) := evalF_contract tabOK mixed h14 Tryz.func14 (body := b14) (by kernel_rfl) (by kernel_rfl) e14
noncomputable def d14 : Nat × Callee := (14, .sem i14 o14 fun x => g_decoder_Start)
abbrev i23 : List (Bool × Ty) := [(true, y11)]
abbrev o23 : List (Bool × Ty) := [(true, y11)]
noncomputable def s23 : List (Nat × Callee) := [d14]
theorem h23 : HOK P (handler tab s23 8) := handler_sound tabOK mixed (callsOK_get (l := s23) ⟨c14, trivial⟩) 8
def n23 : Ann := (.seq .no (.seq (.draw [0, 1, 2, 3, 4]) .no))
noncomputable abbrev b23 : Code := Tryz.f23.body.getD .skip
theorem e23 (x : denL i23) : evalF tab s23 8 Tryz.f23 b23 n23 i23 o23 x = g_encoder_Again x := by kernel_rfl
theorem c23 : Contract P 23 i23 o23 (fun x => g_encoder_Again x) := evalF_contract tabOK mixed h23 Tryz.func23 (body := b23) (by kernel_rfl) (by kernel_rfl) e23
noncomputable def d23 : Nat × Callee := (23, .sem i23 o23 fun x => g_encoder_Again x)
abbrev i10 : List (Bool × Ty) := []
abbrev o10 : List (Bool × Ty) := [(true, y11)]
noncomputable def s10 : List (Nat × Callee) := [d23]
theorem h10 : HOK P (handler tab s10 8) := handler_sound tabOK mixed (callsOK_get (l := s10) ⟨c23, trivial⟩) 8
def n10 : Ann := .no
noncomputable abbrev b10 : Code := Tryz.f10.body.getD .skip
theorem e10 (x : denL i10) : evalF tab s10 8 Tryz.f10 b10 n10 i10 o10 x = g_encoder_Start := by kernel_rfl
theorem c10 : Contract P 10 i10 o10 (fun x => g_encoder_Start) := evalF_contract tabOK mixed h10 Tryz.func10 (body := b10) (by kernel_rfl) (by kernel_rfl) e10
noncomputable def d10 : Nat × Callee := (10, .sem i10 o10 fun x => g_encoder_Start)
abbrev i109 : List (Bool × Ty) := [(false, yI), (false, yI), (false, yI)]
abbrev o109 : List (Bool × Ty) := [(false, yI)]
noncomputable def s109 : List (Nat × Callee) := []
theorem h109 : HOK P (handler tab s109 8) := handler_sound tabOK mixed (callsOK_get (l := s109) trivial) 8
def n109 : Ann := .no
noncomputable abbrev b109 : Code := Tryz.f109.body.getD .skip
theorem e109 (x : denL i109) : evalF tab s109 8 Tryz.f109 b109 n109 i109 o109 x = g_fixed_within x.1 x.2.1 x.2.2 := by kernel_rfl
theorem c109 : Contract P 109 i109 o109 (fun x => g_fixed_within x.1 x.2.1 x.2.2) := evalF_contract tabOK mixed h109 Tryz.func109 (body := b109) (by kernel_rfl) (by kernel_rfl) e109
noncomputable def d109 : Nat × Callee := (109, .sem i109 o109 fun x => g_fixed_within x.1 x.2.1 x.2.2)
abbrev i65 : List (Bool × Ty) := [(false, yI), (false, yI)]
abbrev o65 : List (Bool × Ty) := [(false, yI)]
noncomputable def s65 : List (Nat × Callee) := [d109]
theorem h65 : HOK P (handler tab s65 8) := handler_sound tabOK mixed (callsOK_get (l := s65) ⟨c109, trivial⟩) 8
def n65 : Ann := .no
noncomputable abbrev b65 : Code := Tryz.f65.body.getD .skip
theorem e65 (x : denL i65) : evalF tab s65 8 Tryz.f65 b65 n65 i65 o65 x = g_fixed_Sat x.1 x.2 := by kernel_rfl
theorem c65 : Contract P 65 i65 o65 (fun x => g_fixed_Sat x.1 x.2) := evalF_contract tabOK mixed h65 Tryz.func65 (body := b65) (by kernel_rfl) (by kernel_rfl) e65
noncomputable def d65 : Nat × Callee := (65, .sem i65 o65 fun x => g_fixed_Sat x.1 x.2)
abbrev i35 : List (Bool × Ty) := [(true, y1)]
abbrev o35 : List (Bool × Ty) := [(false, yI)]
noncomputable def s35 : List (Nat × Callee) := [d65]
theorem h35 : HOK P (handler tab s35 8) := handler_sound tabOK mixed (callsOK_get (l := s35) ⟨c65, trivial⟩) 8
def n35 : Ann := (.seq .no (.seq (.seq .no (.blk (.loop [.slot 5 true y1, .slot 6 false yI] [(.exit 0, []), (.ret, [.slot 2 false yI])] .no))) .no))
noncomputable abbrev b35 : Code := Tryz.f35.body.getD .skip
theorem e35 (x : denL i35) : evalF tab s35 8 Tryz.f35 b35 n35 i35 o35 x = g_lapped_Check x := by kernel_rfl
theorem c35 : Contract P 35 i35 o35 (fun x => g_lapped_Check x) := evalF_contract tabOK mixed h35 Tryz.func35 (body := b35) (by kernel_rfl) (by kernel_rfl) e35
noncomputable def d35 : Nat × Callee := (35, .sem i35 o35 fun x => g_lapped_Check x)
abbrev i158 : List (Bool × Ty) := [(false, yU)]
abbrev o158 : List (Bool × Ty) := [(false, yI)]
noncomputable def s158 : List (Nat × Callee) := []
theorem h158 : HOK P (handler tab s158 8) := handler_sound tabOK mixed (callsOK_get (l := s158) trivial) 8
def n158 : Ann := (.seq .no (.seq (.join [(.normal, [.slot 0 false yU, .slot 2 false yI])] .no) (.seq (.join [(.normal, [.slot 0 false yU, .slot 2 false yI])] .no) (.seq (.join [(.normal, [.slot 0 false yU, .slot 2 false yI])] .no) .no))))
noncomputable abbrev b158 : Code := Tryz.f158.body.getD .skip
theorem e158 (x : denL i158) : evalF tab s158 8 Tryz.f158 b158 n158 i158 o158 x = g_math_bits_Len64 x := by kernel_rfl
theorem c158 : Contract P 158 i158 o158 (fun x => g_math_bits_Len64 x) := evalF_contract tabOK mixed h158 Tryz.func158 (body := b158) (by kernel_rfl) (by kernel_rfl) e158
noncomputable def d158 : Nat × Callee := (158, .sem i158 o158 fun x => g_math_bits_Len64 x)
abbrev i213 : List (Bool × Ty) := [(false, yU)]
abbrev o213 : List (Bool × Ty) := [(false, yU)]
noncomputable def s213 : List (Nat × Callee) := [d158]
theorem h213 : HOK P (handler tab s213 8) := handler_sound tabOK mixed (callsOK_get (l := s213) ⟨c158, trivial⟩) 8
def n213 : Ann := (.seq .no (.seq .no (.seq .no (.blk (.loop [.slot 0 false yU, .slot 3 false yU] [(.ret, [.slot 2 false yU])] .no)))))
noncomputable abbrev b213 : Code := Tryz.f213.body.getD .skip
theorem e213 (x : denL i213) : evalF tab s213 8 Tryz.f213 b213 n213 i213 o213 x = g_fixed_Sqrt x := by kernel_rfl
theorem c213 : Contract P 213 i213 o213 (fun x => g_fixed_Sqrt x) := evalF_contract tabOK mixed h213 Tryz.func213 (body := b213) (by kernel_rfl) (by kernel_rfl) e213
noncomputable def d213 : Nat × Callee := (213, .sem i213 o213 fun x => g_fixed_Sqrt x)
abbrev i201 : List (Bool × Ty) := []
abbrev o201 : List (Bool × Ty) := [(true, y14)]
noncomputable def s201 : List (Nat × Callee) := [d213]
theorem h201 : HOK P (handler tab s201 8) := handler_sound tabOK mixed (callsOK_get (l := s201) ⟨c213, trivial⟩) 8
def n201 : Ann := (.seq .no (.seq .no (.seq (.seq .no (.blk (.loop [.keep 0 0, .slot 1 false yI, .obj 0 y14] [(.exit 0, [.keep 0 0, .obj 0 y14])] .no))) .no)))
noncomputable abbrev b201 : Code := Tryz.f201.body.getD .skip
theorem e201 (x : denL i201) : evalF tab s201 8 Tryz.f201 b201 n201 i201 o201 x = g_table_halves := by kernel_rfl
theorem c201 : Contract P 201 i201 o201 (fun x => g_table_halves) := evalF_contract tabOK mixed h201 Tryz.func201 (body := b201) (by kernel_rfl) (by kernel_rfl) e201
noncomputable def d201 : Nat × Callee := (201, .sem i201 o201 fun x => g_table_halves)
abbrev i104 : List (Bool × Ty) := [(false, yI), (false, yI)]
abbrev o104 : List (Bool × Ty) := [(false, yI)]
noncomputable def s104 : List (Nat × Callee) := []
theorem h104 : HOK P (handler tab s104 8) := handler_sound tabOK mixed (callsOK_get (l := s104) trivial) 8
def n104 : Ann := (.seq .no (.seq .no (.seq (.draw [0, 1, 2, 3, 4, 5, 6, 7, 8, 9]) .no)))
noncomputable abbrev b104 : Code := Tryz.f104.body.getD .skip
theorem e104 (x : denL i104) : evalF tab s104 8 Tryz.f104 b104 n104 i104 o104 x = g_fixed_Round x.1 x.2 := by kernel_rfl
theorem c104 : Contract P 104 i104 o104 (fun x => g_fixed_Round x.1 x.2) := evalF_contract tabOK mixed h104 Tryz.func104 (body := b104) (by kernel_rfl) (by kernel_rfl) e104
noncomputable def d104 : Nat × Callee := (104, .sem i104 o104 fun x => g_fixed_Round x.1 x.2)
abbrev i202 : List (Bool × Ty) := [(true, y13), (true, y13)]
abbrev o202 : List (Bool × Ty) := [(true, y13)]
noncomputable def s202 : List (Nat × Callee) := [d104]
theorem h202 : HOK P (handler tab s202 8) := handler_sound tabOK mixed (callsOK_get (l := s202) ⟨c104, trivial⟩) 8
def n202 : Ann := (.seq .no (.seq (.draw [0, 1, 2, 3, 4, 5, 6, 7, 8, 9, 10, 11, 12, 13, 14, 15, 16, 17, 18, 19, 20, 21, 22, 23, 24, 25]) .no))
noncomputable abbrev b202 : Code := Tryz.f202.body.getD .skip
theorem e202 (x : denL i202) : evalF tab s202 8 Tryz.f202 b202 n202 i202 o202 x = g_table_point_turned x.1 x.2 := by kernel_rfl
theorem c202 : Contract P 202 i202 o202 (fun x => g_table_point_turned x.1 x.2) := evalF_contract tabOK mixed h202 Tryz.func202 (body := b202) (by kernel_rfl) (by kernel_rfl) e202
noncomputable def d202 : Nat × Callee := (202, .sem i202 o202 fun x => g_table_point_turned x.1 x.2)
abbrev i200 : List (Bool × Ty) := [(false, yI)]
abbrev o200 : List (Bool × Ty) := [(true, y13)]
def n184_200 : Ann := (.seq .no (.seq .no (.seq .no (.seq (.seq .no (.blk (.loop [.keep 1 1, .keep 2 2, .slot 7 false yI, .obj 1 y15, .obj 2 y14] [(.exit 0, [.keep 1 1, .obj 1 y15])] (.seq .no (.seq .no (.seq (.blk (.seq .no (.seq .no (.seq (.seq .no (.blk (.loop [.keep 1 1, .keep 2 2, .slot 3 false yI, .keep 4 4, .slot 5 false yI, .slot 7 false yI, .obj 1 y15, .obj 2 y14, .obj 4 y13] [(.exit 2, [.keep 1 1, .keep 2 2, .slot 3 false yI, .keep 4 4, .slot 7 false yI, .obj 1 y15, .obj 2 y14, .obj 4 y13])] (.seq .no (.seq (.join [(.normal, [.keep 1 1, .keep 2 2, .slot 3 false yI, .keep 4 4, .slot 5 false yI, .slot 7 false yI, .obj 1 y15, .obj 2 y14, .obj 4 y13])] (.blk (.seq .no (.cond (.draw [0, 1, 2, 3, 4, 5]) .no)))) .no))))) .no)))) .no)))))) .no))))
def n211_200 : Ann := .no
def n212_200 : Ann := .no
noncomputable def s200 : List (Nat × Callee) := [(184, .inl Tryz.f184 b184 n184_200), d201, d202, (211, .inl Tryz.f211 b211 n211_200), (212, .inl Tryz.f212 b212 n212_200)]
theorem h200 : HOK P (handler tab s200 8) := handler_sound tabOK mixed (callsOK_get (l := s200) ⟨⟨Tryz.func184, by kernel_rfl, by kernel_rfl⟩, c201, c202, ⟨Tryz.func211, by kernel_rfl, by kernel_rfl⟩, ⟨Tryz.func212, by kernel_rfl, by kernel_rfl⟩, trivial⟩) 8
def n200 : Ann := .no
noncomputable abbrev b200 : Code := Tryz.f200.body.getD .skip
theorem e200 (x : denL i200) : evalF tab s200 8 Tryz.f200 b200 n200 i200 o200 x = g_table_at x := by kernel_rfl
theorem c200 : Contract P 200 i200 o200 (fun x => g_table_at x) := evalF_contract tabOK mixed h200 Tryz.func200 (body := b200) (by kernel_rfl) (by kernel_rfl) e200
noncomputable def d200 : Nat × Callee := (200, .sem i200 o200 fun x => g_table_at x)
abbrev i183 : List (Bool × Ty) := [(false, yI)]
abbrev o183 : List (Bool × Ty) := [(false, yI)]
noncomputable def s183 : List (Nat × Callee) := [d104, d200]
theorem h183 : HOK P (handler tab s183 8) := handler_sound tabOK mixed (callsOK_get (l := s183) ⟨c104, c200, trivial⟩) 8
def n183 : Ann := .no
noncomputable abbrev b183 : Code := Tryz.f183.body.getD .skip
theorem e183 (x : denL i183) : evalF tab s183 8 Tryz.f183 b183 n183 i183 o183 x = g_table_Sin x := by kernel_rfl
theorem c183 : Contract P 183 i183 o183 (fun x => g_table_Sin x) := evalF_contract tabOK mixed h183 Tryz.func183 (body := b183) (by kernel_rfl) (by kernel_rfl) e183
noncomputable def d183 : Nat × Callee := (183, .sem i183 o183 fun x => g_table_Sin x)
abbrev i155 : List (Bool × Ty) := [(false, yI)]
abbrev o155 : List (Bool × Ty) := [(false, yI), (false, yI)]
noncomputable def s155 : List (Nat × Callee) := [d183]
theorem h155 : HOK P (handler tab s155 8) := handler_sound tabOK mixed (callsOK_get (l := s155) ⟨c183, trivial⟩) 8
def n155 : Ann := (.seq .no (.seq (.seq (.join [(.normal, [.slot 0 false yI, .slot 9 false .bool])] .no) .no) .no))
noncomputable abbrev b155 : Code := Tryz.f155.body.getD .skip
theorem e155 (x : denL i155) : evalF tab s155 8 Tryz.f155 b155 n155 i155 o155 x = g_table_Window x := by kernel_rfl
theorem c155 : Contract P 155 i155 o155 (fun x => g_table_Window x) := evalF_contract tabOK mixed h155 Tryz.func155 (body := b155) (by kernel_rfl) (by kernel_rfl) e155
noncomputable def d155 : Nat × Callee := (155, .sem i155 o155 fun x => g_table_Window x)
abbrev i185 : List (Bool × Ty) := [(false, yI), (false, yI)]
abbrev o185 : List (Bool × Ty) := [(false, yI)]
noncomputable def s185 : List (Nat × Callee) := []
theorem h185 : HOK P (handler tab s185 8) := handler_sound tabOK mixed (callsOK_get (l := s185) trivial) 8
def n185 : Ann := .no
noncomputable abbrev b185 : Code := Tryz.f185.body.getD .skip
theorem e185 (x : denL i185) : evalF tab s185 8 Tryz.f185 b185 n185 i185 o185 x = g_table_kernel x.1 x.2 := by kernel_rfl
theorem c185 : Contract P 185 i185 o185 (fun x => g_table_kernel x.1 x.2) := evalF_contract tabOK mixed h185 Tryz.func185 (body := b185) (by kernel_rfl) (by kernel_rfl) e185
noncomputable def d185 : Nat × Callee := (185, .sem i185 o185 fun x => g_table_kernel x.1 x.2)
abbrev i156 : List (Bool × Ty) := [(false, yI)]
abbrev o156 : List (Bool × Ty) := [(false, y16), (false, yI)]
def n184_156 : Ann := (.seq .no (.seq .no (.seq .no (.seq (.seq .no (.blk (.loop [.keep 1 1, .keep 2 2, .slot 7 false yI, .obj 1 y15, .obj 2 y14] [(.exit 0, [.keep 1 1, .obj 1 y15])] (.seq .no (.seq .no (.seq (.blk (.seq .no (.seq .no (.seq (.seq .no (.blk (.loop [.keep 1 1, .keep 2 2, .slot 3 false yI, .keep 4 4, .slot 5 false yI, .slot 7 false yI, .obj 1 y15, .obj 2 y14, .obj 4 y13] [(.exit 2, [.keep 1 1, .keep 2 2, .slot 3 false yI, .keep 4 4, .slot 7 false yI, .obj 1 y15, .obj 2 y14, .obj 4 y13])] (.seq .no (.seq (.join [(.normal, [.keep 1 1, .keep 2 2, .slot 3 false yI, .keep 4 4, .slot 5 false yI, .slot 7 false yI, .obj 1 y15, .obj 2 y14, .obj 4 y13])] (.blk (.seq .no (.cond (.draw [0, 1, 2, 3, 4, 5]) .no)))) .no))))) .no)))) .no)))))) .no))))
noncomputable def s156 : List (Nat × Callee) := [d104, (184, .inl Tryz.f184 b184 n184_156), d185, d201, d202]
theorem h156 : HOK P (handler tab s156 8) := handler_sound tabOK mixed (callsOK_get (l := s156) ⟨c104, ⟨Tryz.func184, by kernel_rfl, by kernel_rfl⟩, c185, c201, c202, trivial⟩) 8
def n156 : Ann := (.seq .no (.seq (.seq (.join [(.normal, [.slot 0 false yI, .slot 12 false .bool])] .no) .no) (.seq .no (.seq .no (.seq (.seq .no (.blk (.loop [.slot 0 false yI, .keep 4 4, .slot 5 false y17, .keep 13 13, .slot 16 false yI, .slot 17 false yI, .obj 13 y15] [(.exit 0, [.slot 5 false y17])] (.seq .no (.seq .no (.seq (.blk (.seq .no (.draw [0, 1, 2, 3, 4, 5, 6, 7, 8, 9, 10, 11, 12, 13]))) .no)))))) .no)))))
noncomputable abbrev b156 : Code := Tryz.f156.body.getD .skip
theorem e156 (x : denL i156) : evalF tab s156 8 Tryz.f156 b156 n156 i156 o156 x = g_table_Row x := by kernel_rfl
theorem c156 : Contract P 156 i156 o156 (fun x => g_table_Row x) := evalF_contract tabOK mixed h156 Tryz.func156 (body := b156) (by kernel_rfl) (by kernel_rfl) e156
noncomputable def d156 : Nat × Callee := (156, .sem i156 o156 fun x => g_table_Row x)
abbrev i103 : List (Bool × Ty) := []
abbrev o103 : List (Bool × Ty) := [(true, y20), (false, yI)]
noncomputable def s103 : List (Nat × Callee) := [d155, d156]
theorem h103 : HOK P (handler tab s103 8) := handler_sound tabOK mixed (callsOK_get (l := s103) ⟨c155, c156, trivial⟩) 8
def n103 : Ann := (.seq .no (.seq (.seq .no (.blk (.loop [.keep 0 0, .slot 4 false yI, .obj 0 y20] [(.exit 0, [.keep 0 0, .obj 0 y20]), (.ret, [.keep 0 0, .slot 1 false yI, .obj 0 y20])] .no))) (.seq (.seq .no (.blk (.loop [.keep 0 0, .slot 20 false yI, .obj 0 y20] [(.exit 2, [.keep 0 0, .obj 0 y20]), (.ret, [.keep 0 0, .slot 1 false yI, .obj 0 y20])] .no))) .no)))
noncomputable abbrev b103 : Code := Tryz.f103.body.getD .skip
theorem e103 (x : denL i103) : evalF tab s103 8 Tryz.f103 b103 n103 i103 o103 x = g_lapped_shaped := by kernel_rfl
theorem c103 : Contract P 103 i103 o103 (fun x => g_lapped_shaped) := evalF_contract tabOK mixed h103 Tryz.func103 (body := b103) (by kernel_rfl) (by kernel_rfl) e103
noncomputable def d103 : Nat × Callee := (103, .sem i103 o103 fun x => g_lapped_shaped)
abbrev i61 : List (Bool × Ty) := [(true, y1), (true, y1)]
abbrev o61 : List (Bool × Ty) := [(true, y1), (false, yI)]
noncomputable def s61 : List (Nat × Callee) := [d35, d103, d104]
theorem h61 : HOK P (handler tab s61 8) := handler_sound tabOK mixed (callsOK_get (l := s61) ⟨c35, c103, c104, trivial⟩) 8
def n61 : Ann := (.seq .no (.seq (.seq (.join [(.normal, [.keep 2 2, .keep 3 3, .keep 4 4, .slot 21 false .bool, .obj 2 y1, .obj 3 y1, .obj 4 y1])] .no) .no) (.seq .no (.seq .no (.seq .no (.seq (.draw [0, 1, 2]) (.seq (.draw [0, 1, 2]) (.seq (.seq .no (.blk (.loop [.keep 4 4, .keep 6 6, .keep 7 7, .slot 37 false yI, .obj 4 y1, .obj 6 y20, .obj 7 y18] [(.exit 0, [.keep 4 4, .keep 6 6, .keep 7 7, .obj 4 y1, .obj 6 y20, .obj 7 y18])] (.seq .no (.seq .no (.seq (.blk (.seq .no (.draw [0, 1, 2, 3, 4, 5, 6, 7, 8, 9, 10, 11]))) .no)))))) (.seq (.seq .no (.blk (.loop [.keep 4 4, .keep 7 7, .slot 53 true y19, .slot 54 false yI, .obj 4 y1, .obj 7 y18] [(.exit 2, [.keep 4 4, .obj 4 y1])] (.seq .no (.seq .no (.seq (.blk (.seq .no (.seq .no (.seq (.seq .no (.blk (.loop [.keep 4 4, .keep 7 7, .slot 9 false yI, .slot 11 false yI, .slot 53 true y19, .slot 54 false yI, .slot 58 false y16, .slot 59 false yI, .slot 60 false yI, .obj 4 y1, .obj 7 y18] [(.exit 4, [.keep 4 4, .keep 7 7, .slot 9 false yI, .slot 11 false yI, .slot 53 true y19, .slot 54 false yI, .obj 4 y1, .obj 7 y18])] .no))) .no)))) .no)))))) .no)))))))))
noncomputable abbrev b61 : Code := Tryz.f61.body.getD .skip
theorem e61 (x : denL i61) : evalF tab s61 8 Tryz.f61 b61 n61 i61 o61 x = g_lapped_Forward x.1 x.2 := by kernel_rfl
theorem c61 : Contract P 61 i61 o61 (fun x => g_lapped_Forward x.1 x.2) := evalF_contract tabOK mixed h61 Tryz.func61 (body := b61) (by kernel_rfl) (by kernel_rfl) e61
noncomputable def d61 : Nat × Callee := (61, .sem i61 o61 fun x => g_lapped_Forward x.1 x.2)
abbrev i110 : List (Bool × Ty) := [(false, y16), (false, yI)]
abbrev o110 : List (Bool × Ty) := [(false, .bool)]
noncomputable def s110 : List (Nat × Callee) := []
theorem h110 : HOK P (handler tab s110 8) := handler_sound tabOK mixed (callsOK_get (l := s110) trivial) 8
def n110 : Ann := (.seq .no (.seq (.seq .no (.blk (.loop [.slot 1 false yI, .slot 7 false y16, .slot 8 false yI, .slot 9 false yI] [(.exit 0, []), (.ret, [.slot 4 false .bool])] (.seq .no (.seq .no (.seq (.blk (.seq .no (.seq (.join [(.normal, [.slot 1 false yI, .slot 7 false y16, .slot 8 false yI, .slot 9 false yI, .slot 21 false .bool])] .no) .no))) .no)))))) .no))
noncomputable abbrev b110 : Code := Tryz.f110.body.getD .skip
theorem e110 (x : denL i110) : evalF tab s110 8 Tryz.f110 b110 n110 i110 o110 x = g_lapped_bounded x.1 x.2 := by kernel_rfl
theorem c110 : Contract P 110 i110 o110 (fun x => g_lapped_bounded x.1 x.2) := evalF_contract tabOK mixed h110 Tryz.func110 (body := b110) (by kernel_rfl) (by kernel_rfl) e110
noncomputable def d110 : Nat × Callee := (110, .sem i110 o110 fun x => g_lapped_bounded x.1 x.2)
abbrev i105 : List (Bool × Ty) := [(true, y1)]
abbrev o105 : List (Bool × Ty) := [(false, yU)]
noncomputable def s105 : List (Nat × Callee) := [d110]
theorem h105 : HOK P (handler tab s105 8) := handler_sound tabOK mixed (callsOK_get (l := s105) ⟨c110, trivial⟩) 8
def n105 : Ann := (.seq .no (.seq .no (.seq .no (.seq (.seq .no (.blk (.loop [.slot 3 false yU, .slot 9 true y1, .slot 10 false yI] [(.exit 0, [.slot 3 false yU])] .no))) .no))))
noncomputable abbrev b105 : Code := Tryz.f105.body.getD .skip
theorem e105 (x : denL i105) : evalF tab s105 8 Tryz.f105 b105 n105 i105 o105 x = g_lapped_Energy x := by kernel_rfl
theorem c105 : Contract P 105 i105 o105 (fun x => g_lapped_Energy x) := evalF_contract tabOK mixed h105 Tryz.func105 (body := b105) (by kernel_rfl) (by kernel_rfl) e105
noncomputable def d105 : Nat × Callee := (105, .sem i105 o105 fun x => g_lapped_Energy x)
abbrev i106 : List (Bool × Ty) := []
abbrev o106 : List (Bool × Ty) := [(true, y21)]
noncomputable def s106 : List (Nat × Callee) := []
theorem h106 : HOK P (handler tab s106 8) := handler_sound tabOK mixed (callsOK_get (l := s106) trivial) 8
def n106 : Ann := .no
noncomputable abbrev b106 : Code := Tryz.f106.body.getD .skip
theorem e106 (x : denL i106) : evalF tab s106 8 Tryz.f106 b106 n106 i106 o106 x = g_bands_edges := by kernel_rfl
theorem c106 : Contract P 106 i106 o106 (fun x => g_bands_edges) := evalF_contract tabOK mixed h106 Tryz.func106 (body := b106) (by kernel_rfl) (by kernel_rfl) e106
noncomputable def d106 : Nat × Callee := (106, .sem i106 o106 fun x => g_bands_edges)
abbrev i186 : List (Bool × Ty) := [(false, yU), (false, yU)]
abbrev o186 : List (Bool × Ty) := [(false, yU), (false, yU)]
noncomputable def s186 : List (Nat × Callee) := []
theorem h186 : HOK P (handler tab s186 8) := handler_sound tabOK mixed (callsOK_get (l := s186) trivial) 8
def n186 : Ann := .no
noncomputable abbrev b186 : Code := Tryz.f186.body.getD .skip
theorem e186 (x : denL i186) : evalF tab s186 8 Tryz.f186 b186 n186 i186 o186 x = g_math_bits_Mul64 x.1 x.2 := by kernel_rfl
theorem c186 : Contract P 186 i186 o186 (fun x => g_math_bits_Mul64 x.1 x.2) := evalF_contract tabOK mixed h186 Tryz.func186 (body := b186) (by kernel_rfl) (by kernel_rfl) e186
noncomputable def d186 : Nat × Callee := (186, .sem i186 o186 fun x => g_math_bits_Mul64 x.1 x.2)
abbrev i157 : List (Bool × Ty) := [(false, y22)]
abbrev o157 : List (Bool × Ty) := [(false, y22)]
noncomputable def s157 : List (Nat × Callee) := [d186, (187, .ext add64F)]
theorem h157 : HOK P (handler tab s157 8) := handler_sound tabOK mixed (callsOK_get (l := s157) ⟨c186, add64_ok Tryz.func187 (by kernel_rfl) (by kernel_rfl) (by kernel_rfl) (by kernel_rfl), trivial⟩) 8
def n157 : Ann := (.seq .no (.seq .no (.seq (.seq .no (.blk (.loop [.slot 0 false y22, .slot 3 false y23, .slot 16 false y22, .slot 17 false yI, .slot 18 false yI] [(.exit 0, [.slot 3 false y23])] (.seq .no (.seq .no (.seq (.blk (.seq .no (.seq .no (.seq (.seq .no (.blk (.loop [.slot 0 false y22, .slot 3 false y23, .slot 4 false yI, .slot 5 false yU, .slot 6 false yU, .slot 16 false y22, .slot 17 false yI, .slot 18 false yI, .slot 23 false y22, .slot 24 false yI, .slot 25 false yI] [(.exit 2, [.slot 0 false y22, .slot 3 false y23, .slot 4 false yI, .slot 6 false yU, .slot 16 false y22, .slot 17 false yI, .slot 18 false yI])] .no))) .no)))) .no)))))) .no)))
noncomputable abbrev b157 : Code := Tryz.f157.body.getD .skip
theorem e157 (x : denL i157) : evalF tab s157 8 Tryz.f157 b157 n157 i157 o157 x = g_fixed_square x := by kernel_rfl
theorem c157 : Contract P 157 i157 o157 (fun x => g_fixed_square x) := evalF_contract tabOK mixed h157 Tryz.func157 (body := b157) (by kernel_rfl) (by kernel_rfl) e157
noncomputable def d157 : Nat × Callee := (157, .sem i157 o157 fun x => g_fixed_square x)
abbrev i107 : List (Bool × Ty) := [(false, yU)]
abbrev o107 : List (Bool × Ty) := [(false, yI)]
noncomputable def s107 : List (Nat × Callee) := [d157, d158]
theorem h107 : HOK P (handler tab s107 8) := handler_sound tabOK mixed (callsOK_get (l := s107) ⟨c157, c158, trivial⟩) 8
def n107 : Ann := (.seq .no (.seq .no (.seq .no (.seq (.seq .no (.blk (.loop [.slot 3 false y22, .slot 9 false yI] [(.exit 0, [.slot 3 false y22])] .no))) (.seq (.seq .no (.blk (.loop [.slot 3 false y22, .slot 4 false yI] [(.exit 2, [.slot 3 false y22]), (.ret, [.slot 2 false yI])] .no))) .no)))))
noncomputable abbrev b107 : Code := Tryz.f107.body.getD .skip
theorem e107 (x : denL i107) : evalF tab s107 8 Tryz.f107 b107 n107 i107 o107 x = g_fixed_Log x := by kernel_rfl
theorem c107 : Contract P 107 i107 o107 (fun x => g_fixed_Log x) := evalF_contract tabOK mixed h107 Tryz.func107 (body := b107) (by kernel_rfl) (by kernel_rfl) e107
noncomputable def d107 : Nat × Callee := (107, .sem i107 o107 fun x => g_fixed_Log x)
abbrev i62 : List (Bool × Ty) := [(true, y1)]
abbrev o62 : List (Bool × Ty) := [(true, y2), (false, yI)]
noncomputable def s62 : List (Nat × Callee) := [d105, d106, d107]
theorem h62 : HOK P (handler tab s62 8) := handler_sound tabOK mixed (callsOK_get (l := s62) ⟨c105, c106, c107, trivial⟩) 8
def n62 : Ann := (.seq .no (.seq .no (.seq (.seq (.join [(.normal, [.keep 1 1, .keep 2 2, .slot 16 false .bool, .obj 1 y1, .obj 2 y2])] .no) .no) (.seq .no (.seq (.seq .no (.blk (.loop [.keep 1 1, .keep 2 2, .keep 5 5, .slot 19 false yI, .obj 1 y1, .obj 2 y2, .obj 5 y21] [(.exit 0, [.keep 2 2, .obj 2 y2])] (.seq .no (.seq .no (.seq (.join [(.normal, [.keep 1 1, .keep 2 2, .keep 5 5, .slot 19 false yI, .obj 1 y1, .obj 2 y2, .obj 5 y21])] (.blk (.seq .no (.seq .no (.seq (.draw [0, 1, 2, 3, 4, 5, 6, 7, 8, 9]) .no))))) .no)))))) .no)))))
noncomputable abbrev b62 : Code := Tryz.f62.body.getD .skip
theorem e62 (x : denL i62) : evalF tab s62 8 Tryz.f62 b62 n62 i62 o62 x = g_bands_Measure x := by kernel_rfl
theorem c62 : Contract P 62 i62 o62 (fun x => g_bands_Measure x) := evalF_contract tabOK mixed h62 Tryz.func62 (body := b62) (by kernel_rfl) (by kernel_rfl) e62
noncomputable def d62 : Nat × Callee := (62, .sem i62 o62 fun x => g_bands_Measure x)
abbrev i29 : List (Bool × Ty) := [(true, y1), (true, y1)]
abbrev o29 : List (Bool × Ty) := [(true, y1), (true, y2), (false, yI)]
noncomputable def s29 : List (Nat × Callee) := [d61, d62]
theorem h29 : HOK P (handler tab s29 8) := handler_sound tabOK mixed (callsOK_get (l := s29) ⟨c61, c62, trivial⟩) 8
def n29 : Ann := (.seq .no (.seq (.join [(.normal, [.keep 4 4, .keep 5 5, .slot 6 false yI, .obj 4 y1, .obj 5 y2])] .no) (.seq (.draw [0, 1, 2, 3, 4, 5]) .no)))
noncomputable abbrev b29 : Code := Tryz.f29.body.getD .skip
theorem e29 (x : denL i29) : evalF tab s29 8 Tryz.f29 b29 n29 i29 o29 x = g_encoder_heard x.1 x.2 := by kernel_rfl
theorem c29 : Contract P 29 i29 o29 (fun x => g_encoder_heard x.1 x.2) := evalF_contract tabOK mixed h29 Tryz.func29 (body := b29) (by kernel_rfl) (by kernel_rfl) e29
noncomputable def d29 : Nat × Callee := (29, .sem i29 o29 fun x => g_encoder_heard x.1 x.2)
abbrev i34 : List (Bool × Ty) := [(false, yI)]
abbrev o34 : List (Bool × Ty) := [(false, .bool)]
noncomputable def s34 : List (Nat × Callee) := []
theorem h34 : HOK P (handler tab s34 8) := handler_sound tabOK mixed (callsOK_get (l := s34) trivial) 8
def n34 : Ann := .no
noncomputable abbrev b34 : Code := Tryz.f34.body.getD .skip
theorem e34 (x : denL i34) : evalF tab s34 8 Tryz.f34 b34 n34 i34 o34 x = g_encoder_counted x := by kernel_rfl
theorem c34 : Contract P 34 i34 o34 (fun x => g_encoder_counted x) := evalF_contract tabOK mixed h34 Tryz.func34 (body := b34) (by kernel_rfl) (by kernel_rfl) e34
noncomputable def d34 : Nat × Callee := (34, .sem i34 o34 fun x => g_encoder_counted x)
abbrev i66 : List (Bool × Ty) := [(true, y1), (true, y18)]
abbrev o66 : List (Bool × Ty) := [(true, y1), (true, y1), (false, yI)]
noncomputable def s66 : List (Nat × Callee) := [d65, d104, d110]
theorem h66 : HOK P (handler tab s66 8) := handler_sound tabOK mixed (callsOK_get (l := s66) ⟨c65, c104, c110, trivial⟩) 8
def n66 : Ann := (.seq .no (.seq (.seq (.join [(.normal, [.keep 2 2, .keep 3 3, .keep 4 4, .keep 5 5, .slot 15 false .bool, .obj 2 y1, .obj 3 y18, .obj 4 y1, .obj 5 y1])] .no) (.cond (.seq (.draw [0, 1, 2, 3, 4]) .no) .no)) (.seq (.seq .no (.blk (.loop [.keep 2 2, .keep 3 3, .keep 4 4, .keep 5 5, .slot 18 false yI, .obj 2 y1, .obj 3 y18, .obj 4 y1, .obj 5 y1] [(.exit 0, [.keep 3 3, .keep 4 4, .keep 5 5, .obj 3 y18, .obj 4 y1, .obj 5 y1])] (.seq .no (.seq .no (.seq (.blk (.seq .no (.draw [0, 1, 2, 3, 4, 5, 6, 7, 8, 9, 10, 11]))) .no)))))) (.seq (.draw [0, 1, 2]) (.seq (.draw [0, 1, 2, 3, 4]) .no)))))
noncomputable abbrev b66 : Code := Tryz.f66.body.getD .skip
theorem e66 (x : denL i66) : evalF tab s66 8 Tryz.f66 b66 n66 i66 o66 x = g_lapped_Lap x.1 x.2 := by kernel_rfl
theorem c66 : Contract P 66 i66 o66 (fun x => g_lapped_Lap x.1 x.2) := evalF_contract tabOK mixed h66 Tryz.func66 (body := b66) (by kernel_rfl) (by kernel_rfl) e66
noncomputable def d66 : Nat × Callee := (66, .sem i66 o66 fun x => g_lapped_Lap x.1 x.2)
abbrev i38 : List (Bool × Ty) := [(true, y2)]
abbrev o38 : List (Bool × Ty) := [(false, yI)]
noncomputable def s38 : List (Nat × Callee) := []
theorem h38 : HOK P (handler tab s38 8) := handler_sound tabOK mixed (callsOK_get (l := s38) trivial) 8
def n38 : Ann := (.seq .no (.seq .no (.seq (.seq .no (.blk (.loop [.keep 1 1, .keep 3 3, .slot 7 true y2, .slot 8 false yI, .obj 1 y2, .obj 3 y2] [(.exit 0, [.keep 1 1, .keep 3 3, .obj 1 y2, .obj 3 y2])] .no))) .no)))
noncomputable abbrev b38 : Code := Tryz.f38.body.getD .skip
theorem e38 (x : denL i38) : evalF tab s38 8 Tryz.f38 b38 n38 i38 o38 x = g_bands_Check x := by kernel_rfl
theorem c38 : Contract P 38 i38 o38 (fun x => g_bands_Check x) := evalF_contract tabOK mixed h38 Tryz.func38 (body := b38) (by kernel_rfl) (by kernel_rfl) e38
noncomputable def d38 : Nat × Callee := (38, .sem i38 o38 fun x => g_bands_Check x)
abbrev i36 : List (Bool × Ty) := [(true, y7)]
abbrev o36 : List (Bool × Ty) := [(false, yI)]
noncomputable def s36 : List (Nat × Callee) := [d38, d66]
theorem h36 : HOK P (handler tab s36 8) := handler_sound tabOK mixed (callsOK_get (l := s36) ⟨c38, c66, trivial⟩) 8
def n36 : Ann := (.seq .no (.seq (.seq .no (.seq (.join [(.normal, [.keep 1 1, .keep 7 7, .slot 23 false .bool, .obj 7 y7])] .no) .no)) .no))
noncomputable abbrev b36 : Code := Tryz.f36.body.getD .skip
theorem e36 (x : denL i36) : evalF tab s36 8 Tryz.f36 b36 n36 i36 o36 x = g_decoder_Check x := by kernel_rfl
theorem c36 : Contract P 36 i36 o36 (fun x => g_decoder_Check x) := evalF_contract tabOK mixed h36 Tryz.func36 (body := b36) (by kernel_rfl) (by kernel_rfl) e36
noncomputable def d36 : Nat × Callee := (36, .sem i36 o36 fun x => g_decoder_Check x)
abbrev i12 : List (Bool × Ty) := [(true, y11)]
abbrev o12 : List (Bool × Ty) := [(false, yI)]
noncomputable def s12 : List (Nat × Callee) := [d34, d35, d36]
theorem h12 : HOK P (handler tab s12 8) := handler_sound tabOK mixed (callsOK_get (l := s12) ⟨c34, c35, c36, trivial⟩) 8
def n12 : Ann := (.seq .no (.seq (.join [(.normal, [.keep 1 1, .slot 3 false .bool, .obj 1 y11])] .no) (.seq (.seq (.join [(.normal, [.keep 1 1, .slot 29 false .bool, .obj 1 y11])] .no) .no) .no)))
noncomputable abbrev b12 : Code := Tryz.f12.body.getD .skip
theorem e12 (x : denL i12) : evalF tab s12 8 Tryz.f12 b12 n12 i12 o12 x = g_encoder_Check x := by kernel_rfl
theorem c12 : Contract P 12 i12 o12 (fun x => g_encoder_Check x) := evalF_contract tabOK mixed h12 Tryz.func12 (body := b12) (by kernel_rfl) (by kernel_rfl) e12
noncomputable def d12 : Nat × Callee := (12, .sem i12 o12 fun x => g_encoder_Check x)
abbrev i30 : List (Bool × Ty) := [(true, y2)]
abbrev o30 : List (Bool × Ty) := [(false, yI)]
noncomputable def s30 : List (Nat × Callee) := [d38]
theorem h30 : HOK P (handler tab s30 8) := handler_sound tabOK mixed (callsOK_get (l := s30) ⟨c38, trivial⟩) 8
def n30 : Ann := .no
noncomputable abbrev b30 : Code := Tryz.f30.body.getD .skip
theorem e30 (x : denL i30) : evalF tab s30 8 Tryz.f30 b30 n30 i30 o30 x = g_bands_Loud x := by kernel_rfl
theorem c30 : Contract P 30 i30 o30 (fun x => g_bands_Loud x) := evalF_contract tabOK mixed h30 Tryz.func30 (body := b30) (by kernel_rfl) (by kernel_rfl) e30
noncomputable def d30 : Nat × Callee := (30, .sem i30 o30 fun x => g_bands_Loud x)
abbrev i63 : List (Bool × Ty) := [(true, y2), (true, y2)]
abbrev o63 : List (Bool × Ty) := [(false, .bool)]
noncomputable def s63 : List (Nat × Callee) := [d38]
theorem h63 : HOK P (handler tab s63 8) := handler_sound tabOK mixed (callsOK_get (l := s63) ⟨c38, trivial⟩) 8
def n63 : Ann := (.seq .no (.seq (.seq (.join [(.normal, [.keep 2 2, .keep 3 3, .slot 14 false .bool, .obj 2 y2, .obj 3 y2])] .no) .no) (.seq (.seq .no (.blk (.loop [.keep 2 2, .keep 3 3, .slot 15 false yI, .obj 2 y2, .obj 3 y2] [(.exit 0, []), (.ret, [.slot 4 false .bool])] (.seq .no (.seq .no (.seq (.blk (.seq .no (.seq (.draw [0, 1, 2, 3, 4, 5, 6, 7]) (.seq (.join [(.normal, [.keep 2 2, .keep 3 3, .slot 15 false yI, .slot 30 false .bool, .obj 2 y2, .obj 3 y2])] .no) .no)))) .no)))))) .no)))
noncomputable abbrev b63 : Code := Tryz.f63.body.getD .skip
theorem e63 (x : denL i63) : evalF tab s63 8 Tryz.f63 b63 n63 i63 o63 x = g_frame_Near x.1 x.2 := by kernel_rfl
theorem c63 : Contract P 63 i63 o63 (fun x => g_frame_Near x.1 x.2) := evalF_contract tabOK mixed h63 Tryz.func63 (body := b63) (by kernel_rfl) (by kernel_rfl) e63
noncomputable def d63 : Nat × Callee := (63, .sem i63 o63 fun x => g_frame_Near x.1 x.2)
abbrev i112 : List (Bool × Ty) := [(true, y2)]
abbrev o112 : List (Bool × Ty) := [(true, y2), (false, yI)]
def n113_112 : Ann := .no
noncomputable def s112 : List (Nat × Callee) := [d38, (113, .inl Tryz.f113 b113 n113_112), (160, .back 6)]
theorem h112 : HOK P (handler tab s112 8) := handler_sound tabOK mixed (callsOK_get (l := s112) ⟨c38, ⟨Tryz.func113, by kernel_rfl, by kernel_rfl⟩, ⟨by decide, by decide, bd160, tab, tabOK, bk160⟩, trivial⟩) 8
def n112 : Ann := (.seq .no (.seq .no (.seq .no (.seq (.seq .no (.blk (.loop [.keep 1 1, .keep 2 2, .slot 3 false yI, .keep 5 5, .slot 15 false yI, .obj 1 y2, .obj 2 y2, .obj 5 yI] [(.exit 0, [.keep 1 1, .keep 2 2, .slot 3 false yI, .keep 5 5, .obj 1 y2, .obj 2 y2, .obj 5 yI])] (.seq .no (.seq .no (.seq (.blk (.seq .no (.seq (.draw [0, 1, 2, 3, 4, 5, 6, 7, 8]) (.draw [0, 1, 2, 3, 4, 5, 6])))) .no)))))) (.seq .no (.seq (.seq .no (.blk (.loop [.obj 1 y2, .obj 2 y2, .obj 5 yI] [] (.blk (.seq (.draw [0, 1, 2, 3, 4, 5, 6, 7, 8]) .no))))) .no))))))
noncomputable abbrev b112 : Code := Tryz.f112.body.getD .skip
theorem e112 (x : denL i112) : evalF tab s112 8 Tryz.f112 b112 n112 i112 o112 x = g_bands_Mask x := by kernel_rfl
theorem c112 : Contract P 112 i112 o112 (fun x => g_bands_Mask x) := evalF_contract tabOK mixed h112 Tryz.func112 (body := b112) (by kernel_rfl) (by kernel_rfl) e112
noncomputable def d112 : Nat × Callee := (112, .sem i112 o112 fun x => g_bands_Mask x)
abbrev i114 : List (Bool × Ty) := [(true, y2)]
abbrev o114 : List (Bool × Ty) := [(false, yI)]
noncomputable def s114 : List (Nat × Callee) := [d106]
theorem h114 : HOK P (handler tab s114 8) := handler_sound tabOK mixed (callsOK_get (l := s114) ⟨c106, trivial⟩) 8
def n114 : Ann := (.seq .no (.seq .no (.seq .no (.seq (.seq .no (.blk (.loop [.keep 1 1, .keep 3 3, .slot 4 false yI, .slot 7 false yI, .obj 1 y2, .obj 3 y21] [(.exit 0, [.slot 4 false yI])] (.seq .no (.seq .no (.seq (.blk (.seq .no (.draw [0, 1, 2, 3, 4, 5, 6, 7, 8, 9, 10, 11, 12, 13, 14]))) .no)))))) .no))))
noncomputable abbrev b114 : Code := Tryz.f114.body.getD .skip
theorem e114 (x : denL i114) : evalF tab s114 8 Tryz.f114 b114 n114 i114 o114 x = g_bands_Cost x := by kernel_rfl
theorem c114 : Contract P 114 i114 o114 (fun x => g_bands_Cost x) := evalF_contract tabOK mixed h114 Tryz.func114 (body := b114) (by kernel_rfl) (by kernel_rfl) e114
noncomputable def d114 : Nat × Callee := (114, .sem i114 o114 fun x => g_bands_Cost x)
abbrev i69 : List (Bool × Ty) := [(true, y2), (false, yI)]
abbrev o69 : List (Bool × Ty) := [(true, y2), (false, yI)]
def n113_69 : Ann := .no
noncomputable def s69 : List (Nat × Callee) := [d112, (113, .inl Tryz.f113 b113 n113_69), d114, (160, .back 6)]
theorem h69 : HOK P (handler tab s69 8) := handler_sound tabOK mixed (callsOK_get (l := s69) ⟨c112, ⟨Tryz.func113, by kernel_rfl, by kernel_rfl⟩, c114, ⟨by decide, by decide, bd160, tab, tabOK, bk160⟩, trivial⟩) 8
def n69 : Ann := (.seq .no (.blk (.seq .no (.seq (.seq (.join [(.normal, [.keep 2 2, .keep 3 3, .keep 4 4, .slot 5 false yI, .keep 6 6, .slot 21 false .bool, .obj 2 y2, .obj 3 yI, .obj 4 y2, .obj 6 y2])] .no) .no) (.seq (.seq .no (.blk (.loop [.keep 2 2, .keep 3 3, .keep 4 4, .slot 5 false yI, .keep 6 6, .slot 23 false yI, .obj 2 y2, .obj 3 yI, .obj 4 y2, .obj 6 y2] [(.exit 0, [.keep 3 3, .keep 4 4, .slot 5 false yI, .obj 3 yI, .obj 4 y2])] (.seq .no (.seq .no (.seq (.join [(.normal, [.keep 2 2, .keep 3 3, .keep 4 4, .slot 5 false yI, .keep 6 6, .slot 23 false yI, .obj 2 y2, .obj 3 yI, .obj 4 y2, .obj 6 y2])] (.blk (.seq .no (.seq (.draw [0, 1, 2, 3, 4, 5, 6, 7, 8, 9, 10, 11, 12, 13, 14]) (.seq (.draw [0, 1, 2, 3, 4, 5, 6]) .no))))) .no)))))) (.seq .no (.seq (.seq .no (.blk (.loop [.keep 3 3, .keep 4 4, .slot 5 false yI, .obj 3 yI, .obj 4 y2, .nbox 8 yI] [(.exit 2, [.keep 4 4, .obj 4 y2])] (.seq .no (.seq (.blk (.seq .no (.blk (.loop [.obj 3 yI, .obj 4 y2, .obj 8 yI] [(.exit 2, [.obj 3 yI, .obj 4 y2, .obj 8 yI])] (.blk (.seq (.seq (.draw [0, 1, 2, 3]) .no) .no)))))) .no))))) .no)))))))
noncomputable abbrev b69 : Code := Tryz.f69.body.getD .skip
theorem e69 (x : denL i69) : evalF tab s69 8 Tryz.f69 b69 n69 i69 o69 x = g_bands_Share x.1 x.2 := by kernel_rfl
theorem c69 : Contract P 69 i69 o69 (fun x => g_bands_Share x.1 x.2) := evalF_contract tabOK mixed h69 Tryz.func69 (body := b69) (by kernel_rfl) (by kernel_rfl) e69
noncomputable def d69 : Nat × Callee := (69, .sem i69 o69 fun x => g_bands_Share x.1 x.2)
abbrev i131 : List (Bool × Ty) := [(false, yI)]
abbrev o131 : List (Bool × Ty) := [(false, yI), (false, yI), (false, yI)]
noncomputable def s131 : List (Nat × Callee) := [d106]
theorem h131 : HOK P (handler tab s131 8) := handler_sound tabOK mixed (callsOK_get (l := s131) ⟨c106, trivial⟩) 8
def n131 : Ann := (.seq .no (.seq (.seq (.join [(.normal, [.slot 0 false yI, .slot 11 false .bool])] .no) .no) (.seq .no (.seq (.draw [0, 1, 2, 3, 4, 5, 6, 7, 8, 9]) .no))))
noncomputable abbrev b131 : Code := Tryz.f131.body.getD .skip
theorem e131 (x : denL i131) : evalF tab s131 8 Tryz.f131 b131 n131 i131 o131 x = g_bands_Edge x := by kernel_rfl
theorem c131 : Contract P 131 i131 o131 (fun x => g_bands_Edge x) := evalF_contract tabOK mixed h131 Tryz.func131 (body := b131) (by kernel_rfl) (by kernel_rfl) e131
noncomputable def d131 : Nat × Callee := (131, .sem i131 o131 fun x => g_bands_Edge x)
abbrev i130 : List (Bool × Ty) := [(false, yI)]
abbrev o130 : List (Bool × Ty) := [(false, yI), (false, yI)]
noncomputable def s130 : List (Nat × Callee) := []
theorem h130 : HOK P (handler tab s130 8) := handler_sound tabOK mixed (callsOK_get (l := s130) trivial) 8
def n130 : Ann := (.seq .no (.seq (.seq (.join [(.normal, [.slot 0 false yI, .slot 9 false .bool])] .no) .no) .no))
noncomputable abbrev b130 : Code := Tryz.f130.body.getD .skip
theorem e130 (x : denL i130) : evalF tab s130 8 Tryz.f130 b130 n130 i130 o130 x = g_quant_Peak x := by kernel_rfl
theorem c130 : Contract P 130 i130 o130 (fun x => g_quant_Peak x) := evalF_contract tabOK mixed h130 Tryz.func130 (body := b130) (by kernel_rfl) (by kernel_rfl) e130
noncomputable def d130 : Nat × Callee := (130, .sem i130 o130 fun x => g_quant_Peak x)
abbrev i71 : List (Bool × Ty) := [(false, yI)]
abbrev o71 : List (Bool × Ty) := [(false, yI)]
noncomputable def s71 : List (Nat × Callee) := []
theorem h71 : HOK P (handler tab s71 8) := handler_sound tabOK mixed (callsOK_get (l := s71) trivial) 8
def n71 : Ann := .no
noncomputable abbrev b71 : Code := Tryz.f71.body.getD .skip
theorem e71 (x : denL i71) : evalF tab s71 8 Tryz.f71 b71 n71 i71 o71 x = g_quant_Most x := by kernel_rfl
theorem c71 : Contract P 71 i71 o71 (fun x => g_quant_Most x) := evalF_contract tabOK mixed h71 Tryz.func71 (body := b71) (by kernel_rfl) (by kernel_rfl) e71
noncomputable def d71 : Nat × Callee := (71, .sem i71 o71 fun x => g_quant_Most x)
abbrev i132 : List (Bool × Ty) := [(false, yI), (false, yI)]
abbrev o132 : List (Bool × Ty) := [(false, yI), (false, yI)]
noncomputable def s132 : List (Nat × Callee) := [d71, d130]
theorem h132 : HOK P (handler tab s132 8) := handler_sound tabOK mixed (callsOK_get (l := s132) ⟨c71, c130, trivial⟩) 8
def n132 : Ann := (.seq .no (.seq .no (.seq (.seq (.join [(.normal, [.slot 1 false yI, .slot 6 false yI, .slot 22 false .bool])] .no) .no) .no)))
noncomputable abbrev b132 : Code := Tryz.f132.body.getD .skip
theorem e132 (x : denL i132) : evalF tab s132 8 Tryz.f132 b132 n132 i132 o132 x = g_quant_Step x.1 x.2 := by kernel_rfl
theorem c132 : Contract P 132 i132 o132 (fun x => g_quant_Step x.1 x.2) := evalF_contract tabOK mixed h132 Tryz.func132 (body := b132) (by kernel_rfl) (by kernel_rfl) e132
noncomputable def d132 : Nat × Callee := (132, .sem i132 o132 fun x => g_quant_Step x.1 x.2)
abbrev i82 : List (Bool × Ty) := [(true, y2)]
abbrev o82 : List (Bool × Ty) := [(true, y24), (true, y2), (false, yI)]
noncomputable def s82 : List (Nat × Callee) := [d69, d71, d131, d132]
theorem h82 : HOK P (handler tab s82 8) := handler_sound tabOK mixed (callsOK_get (l := s82) ⟨c69, c71, c131, c132, trivial⟩) 8
def n82 : Ann := (.seq .no (.seq .no (.seq (.seq .no (.blk (.loop [.keep 1 1, .keep 2 2, .keep 3 3, .slot 4 false yI, .slot 18 true y2, .slot 19 false yI, .obj 1 y2, .obj 2 y24, .obj 3 y2] [(.exit 0, [.keep 2 2, .keep 3 3, .slot 4 false yI, .obj 2 y24, .obj 3 y2])] (.seq .no (.seq .no (.seq (.join [(.normal, [.keep 1 1, .keep 2 2, .keep 3 3, .slot 4 false yI, .slot 18 true y2, .slot 19 false yI, .obj 1 y2, .obj 2 y24, .obj 3 y2])] (.blk (.seq .no (.seq (.seq (.join [(.normal, [.keep 1 1, .keep 2 2, .keep 3 3, .slot 4 false yI, .slot 5 false yI, .slot 6 false yI, .slot 18 true y2, .slot 19 false yI, .slot 28 false .bool, .obj 1 y2, .obj 2 y24, .obj 3 y2])] .no) .no) (.seq .no (.seq .no (.seq .no (.blk (.loop [.keep 1 1, .keep 2 2, .keep 3 3, .slot 4 false yI, .slot 6 false yI, .slot 8 false yI, .slot 10 false yI, .slot 12 false yI, .slot 18 true y2, .slot 19 false yI, .obj 1 y2, .obj 2 y24, .obj 3 y2] [(.exit 2, [.keep 1 1, .keep 2 2, .keep 3 3, .slot 4 false yI, .slot 18 true y2, .slot 19 false yI, .obj 1 y2, .obj 2 y24, .obj 3 y2])] .no))))))))) .no)))))) (.seq (.draw [0, 1, 2, 3, 4, 5]) .no))))
noncomputable abbrev b82 : Code := Tryz.f82.body.getD .skip
theorem e82 (x : denL i82) : evalF tab s82 8 Tryz.f82 b82 n82 i82 o82 x = g_quant_scales x := by kernel_rfl
theorem c82 : Contract P 82 i82 o82 (fun x => g_quant_scales x) := evalF_contract tabOK mixed h82 Tryz.func82 (body := b82) (by kernel_rfl) (by kernel_rfl) e82
noncomputable def d82 : Nat × Callee := (82, .sem i82 o82 fun x => g_quant_scales x)
abbrev i108 : List (Bool × Ty) := [(false, yI), (false, yI)]
abbrev o108 : List (Bool × Ty) := [(false, yI), (false, yI)]
noncomputable def s108 : List (Nat × Callee) := []
theorem h108 : HOK P (handler tab s108 8) := handler_sound tabOK mixed (callsOK_get (l := s108) trivial) 8
def n108 : Ann := (.seq .no (.seq .no (.seq (.draw [0, 1, 2, 3, 4, 5, 6, 7]) (.seq (.join [(.normal, [.slot 6 false yI])] (.blk (.seq (.join [(.normal, [.slot 1 false yI, .slot 6 false yI, .slot 7 false yI, .slot 16 false .bool])] .no) (.cond .no (.seq (.join [(.normal, [.slot 6 false yI, .slot 28 false .bool])] .no) .no))))) .no))))
noncomputable abbrev b108 : Code := Tryz.f108.body.getD .skip
theorem e108 (x : denL i108) : evalF tab s108 8 Tryz.f108 b108 n108 i108 o108 x = g_fixed_Div x.1 x.2 := by kernel_rfl
theorem c108 : Contract P 108 i108 o108 (fun x => g_fixed_Div x.1 x.2) := evalF_contract tabOK mixed h108 Tryz.func108 (body := b108) (by kernel_rfl) (by kernel_rfl) e108
noncomputable def d108 : Nat × Callee := (108, .sem i108 o108 fun x => g_fixed_Div x.1 x.2)
abbrev i64 : List (Bool × Ty) := [(true, y1), (true, y2)]
abbrev o64 : List (Bool × Ty) := [(true, y1), (true, y2), (false, yI)]
noncomputable def s64 : List (Nat × Callee) := [d62, d82, d108]
theorem h64 : HOK P (handler tab s64 8) := handler_sound tabOK mixed (callsOK_get (l := s64) ⟨c62, c82, c108, trivial⟩) 8
def n64 : Ann := (.seq .no (.seq .no (.seq (.seq .no (.seq (.join [(.normal, [.keep 2 2, .keep 4 4, .keep 5 5, .keep 7 7, .slot 30 false .bool, .obj 2 y1, .obj 4 y1, .obj 5 y2, .obj 7 y24])] .no) .no)) (.seq (.seq .no (.blk (.loop [.keep 4 4, .keep 5 5, .keep 7 7, .slot 33 true y1, .slot 34 false yI, .obj 4 y1, .obj 5 y2, .obj 7 y24] [(.exit 0, [.keep 4 4, .keep 5 5, .obj 4 y1, .obj 5 y2]), (.ret, [.keep 4 4, .keep 5 5, .slot 6 false yI, .obj 4 y1, .obj 5 y2])] (.seq .no (.seq .no (.seq (.join [(.normal, [.keep 4 4, .keep 5 5, .keep 7 7, .slot 33 true y1, .slot 34 false yI, .obj 4 y1, .obj 5 y2, .obj 7 y24]), (.ret, [.keep 4 4, .keep 5 5, .slot 6 false yI, .obj 4 y1, .obj 5 y2])] (.blk (.seq .no (.seq .no (.seq .no (.seq (.seq .no (.cond (.seq (.draw [0, 1, 2, 3, 4, 5]) .no) .no)) (.draw [0, 1, 2, 3, 4, 5, 6, 7, 8, 9, 10, 11, 12, 13, 14]))))))) .no)))))) (.seq (.draw [0, 1, 2, 3, 4]) .no)))))
noncomputable abbrev b64 : Code := Tryz.f64.body.getD .skip
theorem e64 (x : denL i64) : evalF tab s64 8 Tryz.f64 b64 n64 i64 o64 x = g_quant_Small x.1 x.2 := by kernel_rfl
theorem c64 : Contract P 64 i64 o64 (fun x => g_quant_Small x.1 x.2) := evalF_contract tabOK mixed h64 Tryz.func64 (body := b64) (by kernel_rfl) (by kernel_rfl) e64
noncomputable def d64 : Nat × Callee := (64, .sem i64 o64 fun x => g_quant_Small x.1 x.2)
abbrev i81 : List (Bool × Ty) := [(true, y1), (true, y2)]
abbrev o81 : List (Bool × Ty) := [(false, .bool)]
noncomputable def s81 : List (Nat × Callee) := [d82]
theorem h81 : HOK P (handler tab s81 8) := handler_sound tabOK mixed (callsOK_get (l := s81) ⟨c82, trivial⟩) 8
def n81 : Ann := (.seq .no (.seq .no (.seq .no (.seq (.seq .no (.blk (.loop [.keep 2 2, .keep 5 5, .slot 7 false yI, .keep 8 8, .slot 18 true y1, .slot 19 false yI, .obj 2 y1, .obj 5 y24, .obj 8 y1] [(.exit 0, [.keep 2 2, .slot 7 false yI, .keep 8 8, .obj 2 y1, .obj 8 y1])] (.seq .no (.seq .no (.seq (.blk (.seq .no (.draw [0, 1, 2, 3, 4, 5, 6, 7, 8, 9, 10, 11, 12, 13, 14]))) .no)))))) .no))))
noncomputable abbrev b81 : Code := Tryz.f81.body.getD .skip
theorem e81 (x : denL i81) : evalF tab s81 8 Tryz.f81 b81 n81 i81 o81 x = g_quant_May x.1 x.2 := by kernel_rfl
theorem c81 : Contract P 81 i81 o81 (fun x => g_quant_May x.1 x.2) := evalF_contract tabOK mixed h81 Tryz.func81 (body := b81) (by kernel_rfl) (by kernel_rfl) e81
noncomputable def d81 : Nat × Callee := (81, .sem i81 o81 fun x => g_quant_May x.1 x.2)
abbrev i76 : List (Bool × Ty) := [(true, y26), (true, y2)]
abbrev o76 : List (Bool × Ty) := [(false, yI)]
noncomputable def s76 : List (Nat × Callee) := [d38, d63, d81]
theorem h76 : HOK P (handler tab s76 8) := handler_sound tabOK mixed (callsOK_get (l := s76) ⟨c38, c63, c81, trivial⟩) 8
def n76 : Ann := (.seq .no (.seq .no (.seq (.join [(.normal, [.keep 2 2, .keep 3 3, .keep 5 5, .slot 6 false .bool, .obj 2 y26, .obj 3 y2, .obj 5 y1])] .no) (.seq (.join [(.normal, [.slot 6 false .bool])] .no) .no))))
noncomputable abbrev b76 : Code := Tryz.f76.body.getD .skip
theorem e76 (x : denL i76) : evalF tab s76 8 Tryz.f76 b76 n76 i76 o76 x = g_frame_Check x.1 x.2 := by kernel_rfl
theorem c76 : Contract P 76 i76 o76 (fun x => g_frame_Check x.1 x.2) := evalF_contract tabOK mixed h76 Tryz.func76 (body := b76) (by kernel_rfl) (by kernel_rfl) e76
noncomputable def d76 : Nat × Callee := (76, .sem i76 o76 fun x => g_frame_Check x.1 x.2)
abbrev i154 : List (Bool × Ty) := [(true, y16)]
abbrev o154 : List (Bool × Ty) := [(false, yI)]
noncomputable def s154 : List (Nat × Callee) := []
theorem h154 : HOK P (handler tab s154 8) := handler_sound tabOK mixed (callsOK_get (l := s154) trivial) 8
def n154 : Ann := .no
noncomputable abbrev b154 : Code := Tryz.f154.body.getD .skip
theorem e154 (x : denL i154) : evalF tab s154 8 Tryz.f154 b154 n154 i154 o154 x = g_freq_last x := by kernel_rfl
theorem c154 : Contract P 154 i154 o154 (fun x => g_freq_last x) := evalF_contract tabOK mixed h154 Tryz.func154 (body := b154) (by kernel_rfl) (by kernel_rfl) e154
noncomputable def d154 : Nat × Callee := (154, .sem i154 o154 fun x => g_freq_last x)
abbrev i102 : List (Bool × Ty) := [(false, y16)]
abbrev o102 : List (Bool × Ty) := [(true, y16), (false, yI)]
noncomputable def s102 : List (Nat × Callee) := [d154]
theorem h102 : HOK P (handler tab s102 8) := handler_sound tabOK mixed (callsOK_get (l := s102) ⟨c154, trivial⟩) 8
def n102 : Ann := (.seq .no (.seq .no (.seq .no (.seq (.seq .no (.blk (.loop [.slot 0 false y16, .keep 2 2, .keep 4 4, .slot 16 false y16, .slot 17 false yI, .slot 18 false yI, .obj 2 y17, .obj 4 y17] [(.exit 0, [.slot 0 false y16, .keep 2 2, .keep 4 4, .obj 2 y17, .obj 4 y17]), (.ret, [.keep 2 2, .slot 3 false yI, .obj 2 y17])] (.seq .no (.seq .no (.seq (.blk (.seq .no (.seq (.seq (.join [(.normal, [.slot 0 false y16, .keep 2 2, .keep 4 4, .slot 6 false yI, .slot 16 false y16, .slot 17 false yI, .slot 18 false yI, .slot 30 false .bool, .obj 2 y17, .obj 4 y17])] .no) .no) (.draw [0, 1, 2, 3, 4, 5, 6, 7, 8, 9])))) .no)))))) .no))))
noncomputable abbrev b102 : Code := Tryz.f102.body.getD .skip
theorem e102 (x : denL i102) : evalF tab s102 8 Tryz.f102 b102 n102 i102 o102 x = g_freq_New x := by kernel_rfl
theorem c102 : Contract P 102 i102 o102 (fun x => g_freq_New x) := evalF_contract tabOK mixed h102 Tryz.func102 (body := b102) (by kernel_rfl) (by kernel_rfl) e102
noncomputable def d102 : Nat × Callee := (102, .sem i102 o102 fun x => g_freq_New x)
abbrev i60 : List (Bool × Ty) := []
abbrev o60 : List (Bool × Ty) := [(true, y16)]
noncomputable def s60 : List (Nat × Callee) := [d102]
theorem h60 : HOK P (handler tab s60 8) := handler_sound tabOK mixed (callsOK_get (l := s60) ⟨c102, trivial⟩) 8
def n60 : Ann := .no
noncomputable abbrev b60 : Code := Tryz.f60.body.getD .skip
theorem e60 (x : denL i60) : evalF tab s60 8 Tryz.f60 b60 n60 i60 o60 x = g_frame_kinds := by kernel_rfl
theorem c60 : Contract P 60 i60 o60 (fun x => g_frame_kinds) := evalF_contract tabOK mixed h60 Tryz.func60 (body := b60) (by kernel_rfl) (by kernel_rfl) e60
noncomputable def d60 : Nat × Callee := (60, .sem i60 o60 fun x => g_frame_kinds)
abbrev i203 : List (Bool × Ty) := [(false, yW), (false, yW)]
abbrev o203 : List (Bool × Ty) := [(false, yW), (false, yW)]
noncomputable def s203 : List (Nat × Callee) := []
theorem h203 : HOK P (handler tab s203 8) := handler_sound tabOK mixed (callsOK_get (l := s203) trivial) 8
def n203 : Ann := .no
noncomputable abbrev b203 : Code := Tryz.f203.body.getD .skip
theorem e203 (x : denL i203) : evalF tab s203 8 Tryz.f203 b203 n203 i203 o203 x = g_math_bits_Mul32 x.1 x.2 := by kernel_rfl
theorem c203 : Contract P 203 i203 o203 (fun x => g_math_bits_Mul32 x.1 x.2) := evalF_contract tabOK mixed h203 Tryz.func203 (body := b203) (by kernel_rfl) (by kernel_rfl) e203
noncomputable def d203 : Nat × Callee := (203, .sem i203 o203 fun x => g_math_bits_Mul32 x.1 x.2)
abbrev i188 : List (Bool × Ty) := [(false, yU), (false, yU)]
abbrev o188 : List (Bool × Ty) := [(false, yU), (false, yU)]
noncomputable def s188 : List (Nat × Callee) := [d186, d203]
theorem h188 : HOK P (handler tab s188 8) := handler_sound tabOK mixed (callsOK_get (l := s188) ⟨c186, c203, trivial⟩) 8
def n188 : Ann := .no
noncomputable abbrev b188 : Code := Tryz.f188.body.getD .skip
theorem e188 (x : denL i188) : evalF tab s188 8 Tryz.f188 b188 n188 i188 o188 x = g_math_bits_Mul x.1 x.2 := by kernel_rfl
theorem c188 : Contract P 188 i188 o188 (fun x => g_math_bits_Mul x.1 x.2) := evalF_contract tabOK mixed h188 Tryz.func188 (body := b188) (by kernel_rfl) (by kernel_rfl) e188
noncomputable def d188 : Nat × Callee := (188, .sem i188 o188 fun x => g_math_bits_Mul x.1 x.2)
abbrev i159 : List (Bool × Ty) := [(false, y16), (false, yI)]
abbrev o159 : List (Bool × Ty) := [(false, y16)]
noncomputable def s159 : List (Nat × Callee) := [d188]
theorem h159 : HOK P (handler tab s159 8) := handler_sound tabOK mixed (callsOK_get (l := s159) ⟨c188, trivial⟩) 8
def n159 : Ann := (.seq .no (.seq .no (.seq .no (.seq (.seq (.join [(.normal, [.slot 0 false y16, .slot 6 false yU, .slot 26 false .bool])] .no) .no) (.seq .no (.seq .no (.seq (.blk (.loop [.slot 7 false y17, .slot 8 false yI] [(.exit 0, [.slot 7 false y17])] (.seq .no (.blk (.draw [0, 1, 2, 3, 4, 5, 6, 7, 8, 9]))))) .no)))))))
noncomputable abbrev b159 : Code := Tryz.f159.body.getD .skip
theorem e159 (x : denL i159) : evalF tab s159 8 Tryz.f159 b159 n159 i159 o159 x = g_slices_Repeat_Sint_int x.1 x.2 := by kernel_rfl
theorem c159 : Contract P 159 i159 o159 (fun x => g_slices_Repeat_Sint_int x.1 x.2) := evalF_contract tabOK mixed h159 Tryz.func159 (body := b159) (by kernel_rfl) (by kernel_rfl) e159
noncomputable def d159 : Nat × Callee := (159, .sem i159 o159 fun x => g_slices_Repeat_Sint_int x.1 x.2)
abbrev i111 : List (Bool × Ty) := [(false, yI)]
abbrev o111 : List (Bool × Ty) := [(true, y16), (false, yI)]
noncomputable def s111 : List (Nat × Callee) := [d102, d159]
theorem h111 : HOK P (handler tab s111 8) := handler_sound tabOK mixed (callsOK_get (l := s111) ⟨c102, c159, trivial⟩) 8
def n111 : Ann := (.seq .no (.seq (.seq (.join [(.normal, [.slot 0 false yI, .keep 2 2, .slot 9 false .bool, .obj 2 y17])] .no) .no) .no))
noncomputable abbrev b111 : Code := Tryz.f111.body.getD .skip
theorem e111 (x : denL i111) : evalF tab s111 8 Tryz.f111 b111 n111 i111 o111 x = g_freq_Even x := by kernel_rfl
theorem c111 : Contract P 111 i111 o111 (fun x => g_freq_Even x) := evalF_contract tabOK mixed h111 Tryz.func111 (body := b111) (by kernel_rfl) (by kernel_rfl) e111
noncomputable def d111 : Nat × Callee := (111, .sem i111 o111 fun x => g_freq_Even x)
abbrev i67 : List (Bool × Ty) := []
abbrev o67 : List (Bool × Ty) := [(true, y16)]
noncomputable def s67 : List (Nat × Callee) := [d111]
theorem h67 : HOK P (handler tab s67 8) := handler_sound tabOK mixed (callsOK_get (l := s67) ⟨c111, trivial⟩) 8
def n67 : Ann := .no
noncomputable abbrev b67 : Code := Tryz.f67.body.getD .skip
theorem e67 (x : denL i67) : evalF tab s67 8 Tryz.f67 b67 n67 i67 o67 x = g_frame_levels := by kernel_rfl
theorem c67 : Contract P 67 i67 o67 (fun x => g_frame_levels) := evalF_contract tabOK mixed h67 Tryz.func67 (body := b67) (by kernel_rfl) (by kernel_rfl) e67
noncomputable def d67 : Nat × Callee := (67, .sem i67 o67 fun x => g_frame_levels)
abbrev i68 : List (Bool × Ty) := []
abbrev o68 : List (Bool × Ty) := [(true, y16)]
noncomputable def s68 : List (Nat × Callee) := [d102]
theorem h68 : HOK P (handler tab s68 8) := handler_sound tabOK mixed (callsOK_get (l := s68) ⟨c102, trivial⟩) 8
def n68 : Ann := .no
noncomputable abbrev b68 : Code := Tryz.f68.body.getD .skip
theorem e68 (x : denL i68) : evalF tab s68 8 Tryz.f68 b68 n68 i68 o68 x = g_frame_changes := by kernel_rfl
theorem c68 : Contract P 68 i68 o68 (fun x => g_frame_changes) := evalF_contract tabOK mixed h68 Tryz.func68 (body := b68) (by kernel_rfl) (by kernel_rfl) e68
noncomputable def d68 : Nat × Callee := (68, .sem i68 o68 fun x => g_frame_changes)
abbrev i70 : List (Bool × Ty) := [(false, yI)]
abbrev o70 : List (Bool × Ty) := [(false, yI), (false, yI)]
noncomputable def s70 : List (Nat × Callee) := [d106]
theorem h70 : HOK P (handler tab s70 8) := handler_sound tabOK mixed (callsOK_get (l := s70) ⟨c106, trivial⟩) 8
def n70 : Ann := (.seq .no (.seq (.seq (.join [(.normal, [.slot 0 false yI, .slot 11 false .bool])] .no) .no) (.seq .no (.seq .no (.seq (.blk (.loop [.slot 0 false yI, .keep 4 4, .slot 5 false yI, .obj 4 y21] [(.exit 0, [.slot 5 false yI])] .no)) .no)))))
noncomputable abbrev b70 : Code := Tryz.f70.body.getD .skip
theorem e70 (x : denL i70) : evalF tab s70 8 Tryz.f70 b70 n70 i70 o70 x = g_bands_Of x := by kernel_rfl
theorem c70 : Contract P 70 i70 o70 (fun x => g_bands_Of x) := evalF_contract tabOK mixed h70 Tryz.func70 (body := b70) (by kernel_rfl) (by kernel_rfl) e70
noncomputable def d70 : Nat × Callee := (70, .sem i70 o70 fun x => g_bands_Of x)
abbrev i72 : List (Bool × Ty) := [(false, yI)]
abbrev o72 : List (Bool × Ty) := [(true, y16)]
noncomputable def s72 : List (Nat × Callee) := [d102]
theorem h72 : HOK P (handler tab s72 8) := handler_sound tabOK mixed (callsOK_get (l := s72) ⟨c102, trivial⟩) 8
def n72 : Ann := (.seq .no (.seq .no (.seq (.seq .no (.blk (.loop [.slot 0 false yI, .keep 2 2, .slot 3 false y17, .slot 12 false yI, .slot 13 false yI, .obj 2 y17] [(.exit 0, [.keep 2 2, .slot 3 false y17, .obj 2 y17])] .no))) .no)))
noncomputable abbrev b72 : Code := Tryz.f72.body.getD .skip
theorem e72 (x : denL i72) : evalF tab s72 8 Tryz.f72 b72 n72 i72 o72 x = g_frame_smalls x := by kernel_rfl
theorem c72 : Contract P 72 i72 o72 (fun x => g_frame_smalls x) := evalF_contract tabOK mixed h72 Tryz.func72 (body := b72) (by kernel_rfl) (by kernel_rfl) e72
noncomputable def d72 : Nat × Callee := (72, .sem i72 o72 fun x => g_frame_smalls x)
abbrev i77 : List (Bool × Ty) := [(true, y26), (true, y2)]
abbrev o77 : List (Bool × Ty) := [(false, y16), (false, y27)]
def n39_77 : Ann := (.seq .no (.seq (.seq (.draw [0, 1, 2, 3, 4, 5, 6]) .no) (.seq .no (.seq .no (.seq (.join [(.normal, [.keep 0 0, .slot 1 true y2, .keep 2 2, .keep 7 7, .keep 8 8, .keep 20 20, .keep 21 21, .keep 22 22, .obj 22 y26, .obj 7 y16, .obj 8 y2, .obj 1002 y17, .obj 2002 y28])] (.seq .no (.cond (.seq (.draw [0, 1, 2, 3]) (.seq .no (.blk (.loop [.keep 0 0, .slot 1 true y2, .keep 2 2, .keep 7 7, .keep 8 8, .keep 20 20, .keep 21 21, .keep 22 22, .keep 27 27, .keep 28 28, .keep 29 29, .slot 34 false yI, .obj 29 y26, .obj 7 y16, .obj 8 y2, .obj 1002 y17, .obj 2002 y28] [(.exit 0, [.keep 0 0, .slot 1 true y2, .keep 2 2, .keep 7 7, .keep 8 8, .keep 20 20, .keep 21 21, .keep 22 22, .keep 27 27, .keep 28 28, .keep 29 29, .obj 29 y26, .obj 7 y16, .obj 8 y2, .obj 1002 y17, .obj 2002 y28])] .no)))) .no))) (.seq (.seq .no (.blk (.loop [.keep 0 0, .slot 1 true y2, .keep 2 2, .keep 7 7, .keep 8 8, .keep 20 20, .keep 21 21, .keep 22 22, .slot 43 false yI, .obj 22 y26, .obj 7 y16, .obj 8 y2, .obj 1002 y17, .obj 2002 y28] [(.exit 2, [.keep 0 0, .slot 1 true y2, .keep 2 2, .keep 20 20, .keep 21 21, .keep 22 22, .obj 22 y26, .obj 1002 y17, .obj 2002 y28])] (.seq .no (.seq .no (.seq (.blk (.seq .no (.seq (.draw [0, 1, 2, 3, 4, 5, 6, 7, 8, 9, 10, 11]) (.seq .no (.draw [0, 1, 2, 3, 4, 5, 6, 7, 8, 9, 10]))))) .no)))))) (.seq .no (.seq .no (.seq .no (.seq (.seq .no (.blk (.loop [.keep 0 0, .slot 1 true y2, .keep 2 2, .keep 12 12, .keep 20 20, .keep 21 21, .keep 22 22, .keep 71 71, .keep 72 72, .keep 73 73, .keep 77 77, .keep 78 78, .keep 79 79, .slot 86 false yI, .obj 78 y26, .obj 12 y2, .obj 1002 y17, .obj 2002 y28] [(.exit 4, [.keep 0 0, .slot 1 true y2, .keep 2 2, .keep 20 20, .keep 21 21, .keep 22 22, .keep 71 71, .keep 72 72, .keep 73 73, .keep 77 77, .keep 78 78, .keep 79 79, .obj 78 y26, .obj 1002 y17, .obj 2002 y28])] (.seq .no (.seq .no (.seq (.join [(.normal, [.keep 0 0, .slot 1 true y2, .keep 2 2, .keep 12 12, .keep 20 20, .keep 21 21, .keep 22 22, .keep 71 71, .keep 72 72, .keep 73 73, .keep 77 77, .keep 78 78, .keep 79 79, .slot 86 false yI, .obj 78 y26, .obj 12 y2, .obj 1002 y17, .obj 2002 y28])] (.blk (.seq .no (.seq .no (.seq .no (.seq .no (.seq .no (.seq .no (.draw [0, 1, 2, 3, 4, 5, 6, 7, 8]))))))))) .no)))))) .no))))))))))
def n126_77 : Ann := (.seq .no (.seq (.draw [0, 1, 2, 3, 4, 5, 6, 7, 8, 9, 10, 11]) .no))
noncomputable def s77 : List (Nat × Callee) := [(39, .inl Tryz.f39 b39 n39_77), d60, d67, d68, d69, d70, d71, d72, (126, .inl Tryz.f126 b126 n126_77)]
theorem h77 : HOK P (handler tab s77 8) := handler_sound tabOK mixed (callsOK_get (l := s77) ⟨⟨Tryz.func39, by kernel_rfl, by kernel_rfl⟩, c60, c67, c68, c69, c70, c71, c72, ⟨Tryz.func126, by kernel_rfl, by kernel_rfl⟩, trivial⟩) 8
def n77 : Ann := (.seq .no (.seq (.join [(.normal, [.keep 4 4, .keep 5 5, .obj 4 y17, .obj 5 y28])] .no) (.seq (.draw [0, 1, 2, 3]) .no)))
noncomputable abbrev b77 : Code := Tryz.f77.body.getD .skip
theorem e77 (x : denL i77) : evalF tab s77 8 Tryz.f77 b77 n77 i77 o77 x = g_frame_symbols x.1 x.2 := by kernel_rfl
theorem c77 : Contract P 77 i77 o77 (fun x => g_frame_symbols x.1 x.2) := evalF_contract tabOK mixed h77 Tryz.func77 (body := b77) (by kernel_rfl) (by kernel_rfl) e77
noncomputable def d77 : Nat × Callee := (77, .sem i77 o77 fun x => g_frame_symbols x.1 x.2)
abbrev i127 : List (Bool × Ty) := []
abbrev o127 : List (Bool × Ty) := [(true, y34)]
noncomputable def s127 : List (Nat × Callee) := []
theorem h127 : HOK P (handler tab s127 8) := handler_sound tabOK mixed (callsOK_get (l := s127) trivial) 8
def n127 : Ann := .no
noncomputable abbrev b127 : Code := Tryz.f127.body.getD .skip
theorem e127 (x : denL i127) : evalF tab s127 8 Tryz.f127 b127 n127 i127 o127 x = g_coder_Begin := by kernel_rfl
theorem c127 : Contract P 127 i127 o127 (fun x => g_coder_Begin) := evalF_contract tabOK mixed h127 Tryz.func127 (body := b127) (by kernel_rfl) (by kernel_rfl) e127
noncomputable def d127 : Nat × Callee := (127, .sem i127 o127 fun x => g_coder_Begin)
abbrev i124 : List (Bool × Ty) := [(true, y35)]
abbrev o124 : List (Bool × Ty) := [(false, yU), (false, yI)]
noncomputable def s124 : List (Nat × Callee) := []
theorem h124 : HOK P (handler tab s124 8) := handler_sound tabOK mixed (callsOK_get (l := s124) trivial) 8
def n124 : Ann := (.seq .no (.seq (.blk (.seq .no (.cond .no (.seq .no (.cond .no (.seq (.join [(.normal, [.slot 12 false .bool])] .no) .no)))))) .no))
noncomputable abbrev b124 : Code := Tryz.f124.body.getD .skip
theorem e124 (x : denL i124) : evalF tab s124 8 Tryz.f124 b124 n124 i124 o124 x = g_coder_interval_move x := by kernel_rfl
theorem c124 : Contract P 124 i124 o124 (fun x => g_coder_interval_move x) := evalF_contract tabOK mixed h124 Tryz.func124 (body := b124) (by kernel_rfl) (by kernel_rfl) e124
noncomputable def d124 : Nat × Callee := (124, .sem i124 o124 fun x => g_coder_interval_move x)
abbrev i119 : List (Bool × Ty) := [(true, y35)]
abbrev o119 : List (Bool × Ty) := [(false, .bool)]
noncomputable def s119 : List (Nat × Callee) := [d124]
theorem h119 : HOK P (handler tab s119 8) := handler_sound tabOK mixed (callsOK_get (l := s119) ⟨c124, trivial⟩) 8
def n119 : Ann := .no
noncomputable abbrev b119 : Code := Tryz.f119.body.getD .skip
theorem e119 (x : denL i119) : evalF tab s119 8 Tryz.f119 b119 n119 i119 o119 x = g_coder_interval_good x := by kernel_rfl
theorem c119 : Contract P 119 i119 o119 (fun x => g_coder_interval_good x) := evalF_contract tabOK mixed h119 Tryz.func119 (body := b119) (by kernel_rfl) (by kernel_rfl) e119
noncomputable def d119 : Nat × Callee := (119, .sem i119 o119 fun x => g_coder_interval_good x)
abbrev i115 : List (Bool × Ty) := [(true, y31)]
abbrev o115 : List (Bool × Ty) := [(false, yI)]
noncomputable def s115 : List (Nat × Callee) := []
theorem h115 : HOK P (handler tab s115 8) := handler_sound tabOK mixed (callsOK_get (l := s115) trivial) 8
def n115 : Ann := (.seq .no (.seq (.seq (.join [(.normal, [.keep 1 1, .slot 21 false .bool, .obj 1 y31])] .no) .no) (.seq (.seq .no (.seq (.join [(.normal, [.slot 39 false .bool])] .no) .no)) .no)))
noncomputable abbrev b115 : Code := Tryz.f115.body.getD .skip
theorem e115 (x : denL i115) : evalF tab s115 8 Tryz.f115 b115 n115 i115 o115 x = g_bits_Check x := by kernel_rfl
theorem c115 : Contract P 115 i115 o115 (fun x => g_bits_Check x) := evalF_contract tabOK mixed h115 Tryz.func115 (body := b115) (by kernel_rfl) (by kernel_rfl) e115
noncomputable def d115 : Nat × Callee := (115, .sem i115 o115 fun x => g_bits_Check x)
abbrev i120 : List (Bool × Ty) := [(true, y16)]
abbrev o120 : List (Bool × Ty) := [(false, yI)]
noncomputable def s120 : List (Nat × Callee) := [d154]
theorem h120 : HOK P (handler tab s120 8) := handler_sound tabOK mixed (callsOK_get (l := s120) ⟨c154, trivial⟩) 8
def n120 : Ann := (.seq .no (.seq (.seq (.join [(.normal, [.keep 1 1, .slot 26 false .bool, .obj 1 y16])] .no) .no) (.seq (.seq .no (.blk (.loop [.keep 1 1, .keep 27 27, .slot 29 false y16, .slot 30 false yI, .slot 31 false yI, .obj 27 y16] [(.exit 0, []), (.ret, [.slot 2 false yI])] .no))) .no)))
noncomputable abbrev b120 : Code := Tryz.f120.body.getD .skip
theorem e120 (x : denL i120) : evalF tab s120 8 Tryz.f120 b120 n120 i120 o120 x = g_freq_Check x := by kernel_rfl
theorem c120 : Contract P 120 i120 o120 (fun x => g_freq_Check x) := evalF_contract tabOK mixed h120 Tryz.func120 (body := b120) (by kernel_rfl) (by kernel_rfl) e120
noncomputable def d120 : Nat × Callee := (120, .sem i120 o120 fun x => g_freq_Check x)
abbrev i163 : List (Bool × Ty) := [(true, y16), (false, yI)]
abbrev o163 : List (Bool × Ty) := [(false, yI), (false, yI), (false, yI)]
noncomputable def s163 : List (Nat × Callee) := [d120]
theorem h163 : HOK P (handler tab s163 8) := handler_sound tabOK mixed (callsOK_get (l := s163) ⟨c120, trivial⟩) 8
def n163 : Ann := (.seq .no (.seq (.seq (.join [(.normal, [.slot 1 false yI, .keep 2 2, .slot 21 false .bool, .obj 2 y16])] .no) .no) (.seq (.draw [0, 1, 2, 3, 4, 5, 6, 7, 8, 9, 10, 11, 12, 13]) .no)))
noncomputable abbrev b163 : Code := Tryz.f163.body.getD .skip
theorem e163 (x : denL i163) : evalF tab s163 8 Tryz.f163 b163 n163 i163 o163 x = g_freq_Span x.1 x.2 := by kernel_rfl
theorem c163 : Contract P 163 i163 o163 (fun x => g_freq_Span x.1 x.2) := evalF_contract tabOK mixed h163 Tryz.func163 (body := b163) (by kernel_rfl) (by kernel_rfl) e163
noncomputable def d163 : Nat × Callee := (163, .sem i163 o163 fun x => g_freq_Span x.1 x.2)
abbrev i121 : List (Bool × Ty) := [(true, y16)]
abbrev o121 : List (Bool × Ty) := [(false, yI)]
noncomputable def s121 : List (Nat × Callee) := [d120, d154]
theorem h121 : HOK P (handler tab s121 8) := handler_sound tabOK mixed (callsOK_get (l := s121) ⟨c120, c154, trivial⟩) 8
def n121 : Ann := .no
noncomputable abbrev b121 : Code := Tryz.f121.body.getD .skip
theorem e121 (x : denL i121) : evalF tab s121 8 Tryz.f121 b121 n121 i121 o121 x = g_freq_Total x := by kernel_rfl
theorem c121 : Contract P 121 i121 o121 (fun x => g_freq_Total x) := evalF_contract tabOK mixed h121 Tryz.func121 (body := b121) (by kernel_rfl) (by kernel_rfl) e121
noncomputable def d121 : Nat × Callee := (121, .sem i121 o121 fun x => g_freq_Total x)
abbrev i205 : List (Bool × Ty) := [(false, yU), (false, yI)]
abbrev o205 : List (Bool × Ty) := [(false, .bool)]
noncomputable def s205 : List (Nat × Callee) := [d158]
theorem h205 : HOK P (handler tab s205 8) := handler_sound tabOK mixed (callsOK_get (l := s205) ⟨c158, trivial⟩) 8
def n205 : Ann := .no
noncomputable abbrev b205 : Code := Tryz.f205.body.getD .skip
theorem e205 (x : denL i205) : evalF tab s205 8 Tryz.f205 b205 n205 i205 o205 x = g_bits_fits x.1 x.2 := by kernel_rfl
theorem c205 : Contract P 205 i205 o205 (fun x => g_bits_fits x.1 x.2) := evalF_contract tabOK mixed h205 Tryz.func205 (body := b205) (by kernel_rfl) (by kernel_rfl) e205
noncomputable def d205 : Nat × Callee := (205, .sem i205 o205 fun x => g_bits_fits x.1 x.2)
abbrev i118 : List (Bool × Ty) := [(false, y30)]
abbrev o118 : List (Bool × Ty) := [(false, y36)]
noncomputable def s118 : List (Nat × Callee) := []
theorem h118 : HOK P (handler tab s118 8) := handler_sound tabOK mixed (callsOK_get (l := s118) trivial) 8
def n118 : Ann := .no
noncomputable abbrev b118 : Code := Tryz.f118.body.getD .skip
theorem e118n : evalA tab s118 8 Tryz.f118 b118 n118 [.nilsl] o118 = g_slices_Clone_Sbyte_byte [] := by kernel_rfl
theorem e118v (l : List Int) : evalA tab s118 8 Tryz.f118 b118 n118 [.slv yB l] o118 = g_slices_Clone_Sbyte_byte l := by kernel_rfl
theorem c118 : Contract P 118 i118 o118 g_slices_Clone_Sbyte_byte := evalA_contract tabOK mixed h118 Tryz.func118 (body := b118) (by kernel_rfl) (by kernel_rfl) rfl e118n e118v
noncomputable def d118 : Nat × Callee := (118, .sem i118 o118 fun x => g_slices_Clone_Sbyte_byte x)
abbrev i206 : List (Bool × Ty) := [(true, y37), (false, yU), (false, yI)]
abbrev o206 : List (Bool × Ty) := [(true, y37)]
noncomputable def s206 : List (Nat × Callee) := []
theorem h206 : HOK P (handler tab s206 8) := handler_sound tabOK mixed (callsOK_get (l := s206) trivial) 8
def n206 : Ann := (.seq .no (.seq (.blk (.loop [.slot 1 false yU, .slot 2 false yI, .keep 3 3, .keep 6 6, .obj 3 y37, .obj 6 y37] [(.exit 0, [.keep 3 3, .keep 6 6, .obj 3 y37, .obj 6 y37])] (.seq .no (.blk (.seq .no (.seq (.join [(.normal, [.slot 1 false yU, .slot 2 false yI, .keep 3 3, .keep 6 6, .slot 7 false yI, .keep 12 12, .obj 3 y37, .obj 6 y37])] .no) (.seq .no (.seq (.draw [0, 1, 2, 3, 4, 5, 6, 7, 8, 9, 10]) (.seq (.draw [0, 1, 2, 3, 4, 5, 6, 7, 8, 9, 10, 11, 12, 13, 14, 15]) .no))))))))) .no))
noncomputable abbrev b206 : Code := Tryz.f206.body.getD .skip
theorem e206 (x : denL i206) : evalF tab s206 8 Tryz.f206 b206 n206 i206 o206 x = g_bits_add x.1 x.2.1 x.2.2 := by kernel_rfl
theorem c206 : Contract P 206 i206 o206 (fun x => g_bits_add x.1 x.2.1 x.2.2) := evalF_contract tabOK mixed h206 Tryz.func206 (body := b206) (by kernel_rfl) (by kernel_rfl) e206
noncomputable def d206 : Nat × Callee := (206, .sem i206 o206 fun x => g_bits_add x.1 x.2.1 x.2.2)
abbrev i191 : List (Bool × Ty) := [(true, y31), (false, yU), (false, yI)]
abbrev o191 : List (Bool × Ty) := [(true, y37), (false, yI)]
noncomputable def s191 : List (Nat × Callee) := [d115, d118, d205, d206]
theorem h191 : HOK P (handler tab s191 8) := handler_sound tabOK mixed (callsOK_get (l := s191) ⟨c115, c118, c205, c206, trivial⟩) 8
def n191 : Ann := (.seq .no (.seq (.blk (.seq (.join [(.normal, [.slot 1 false yU, .slot 2 false yI, .keep 3 3, .keep 6 6, .slot 8 false .bool, .obj 3 y31, .obj 6 y37])] .no) .no)) .no))
noncomputable abbrev b191 : Code := Tryz.f191.body.getD .skip
theorem e191 (x : denL i191) : evalF tab s191 8 Tryz.f191 b191 n191 i191 o191 x = g_bits_Put x.1 x.2.1 x.2.2 := by kernel_rfl
theorem c191 : Contract P 191 i191 o191 (fun x => g_bits_Put x.1 x.2.1 x.2.2) := evalF_contract tabOK mixed h191 Tryz.func191 (body := b191) (by kernel_rfl) (by kernel_rfl) e191
noncomputable def d191 : Nat × Callee := (191, .sem i191 o191 fun x => g_bits_Put x.1 x.2.1 x.2.2)
abbrev i117 : List (Bool × Ty) := [(true, y31)]
abbrev o117 : List (Bool × Ty) := [(true, y37)]
noncomputable def s117 : List (Nat × Callee) := [d118]
theorem h117 : HOK P (handler tab s117 8) := handler_sound tabOK mixed (callsOK_get (l := s117) ⟨c118, trivial⟩) 8
def n117 : Ann := (.seq .no (.seq (.draw [0, 1, 2, 3, 4, 5, 6]) .no))
noncomputable abbrev b117 : Code := Tryz.f117.body.getD .skip
theorem e117 (x : denL i117) : evalF tab s117 8 Tryz.f117 b117 n117 i117 o117 x = g_coder_owned x := by kernel_rfl
theorem c117 : Contract P 117 i117 o117 (fun x => g_coder_owned x) := evalF_contract tabOK mixed h117 Tryz.func117 (body := b117) (by kernel_rfl) (by kernel_rfl) e117
noncomputable def d117 : Nat × Callee := (117, .sem i117 o117 fun x => g_coder_owned x)
abbrev i128 : List (Bool × Ty) := [(true, y34), (true, y16), (false, yI)]
abbrev o128 : List (Bool × Ty) := [(true, y40), (false, yI)]
def n123_128 : Ann := (.seq (.draw [0, 1, 2, 3, 4, 5, 6, 7, 8, 9, 10]) (.seq (.draw [0, 1, 2, 3, 4, 5, 6, 7, 8, 9, 10, 11, 12, 13, 14, 15, 16]) (.draw [0, 1, 2, 3, 4, 5, 6, 7, 8, 9, 10, 11, 12, 13, 14])))
def n125_128 : Ann := (.draw [0, 1, 2, 3, 4, 5, 6, 7, 8, 9, 10, 11, 12, 13, 14, 15, 16, 17, 18, 19, 20, 21, 22])
def n162_128 : Ann := (.seq .no (.seq .no (.seq (.join [(.normal, [.slot 0 true y34, .keep 2 4, .slot 3 false .bool, .keep 4 4, .keep 17 17, .obj 17 y43])] .no) .no)))
def n164_128 : Ann := (.blk (.loop [.keep 0 0, .obj 0 y43] [(.exit 0, [.keep 0 0, .obj 0 y43]), (.ret, [.keep 0 0, .obj 0 y43])] (.seq .no (.blk (.seq .no (.seq (.join [(.normal, [.keep 0 0, .slot 2 false yU, .keep 4 4, .keep 5 5, .keep 6 6, .keep 10 10, .keep 11 11, .keep 12 12, .obj 12 y43]), (.ret, [.keep 0 0, .keep 4 4, .keep 5 5, .keep 6 6, .keep 10 10, .keep 11 11, .keep 12 12, .obj 12 y43])] .no) .no))))))
def n165_128 : Ann := (.seq (.seq (.draw [0, 1, 2, 3, 4, 5, 6, 7, 8, 9, 10, 11]) .no) (.seq .no (.seq (.seq .no (.blk (.loop [.keep 0 0, .slot 1 false yU, .slot 4 false yI, .keep 6 6, .keep 7 7, .keep 8 8, .keep 11 11, .keep 12 12, .keep 13 13, .keep 14 14, .keep 22 22, .keep 23 23, .keep 24 24, .keep 25 25, .keep 26 26, .keep 32 32, .keep 33 33, .keep 34 34, .keep 35 35, .keep 36 36, .keep 37 37, .keep 38 38, .obj 37 y46] [(.exit 0, [.keep 0 0, .slot 1 false yU, .keep 6 6, .keep 7 7, .keep 8 8, .keep 11 11, .keep 12 12, .keep 13 13, .keep 14 14, .keep 22 22, .keep 23 23, .keep 24 24, .keep 25 25, .keep 26 26, .keep 32 32, .keep 33 33, .keep 34 34, .keep 35 35, .keep 36 36, .keep 37 37, .keep 38 38, .obj 37 y46])] (.seq (.seq (.join [(.normal, [.keep 0 0, .slot 1 false yU, .slot 4 false yI, .keep 6 6, .keep 7 7, .keep 8 8, .keep 11 11, .keep 12 12, .keep 13 13, .keep 14 14, .keep 22 22, .keep 23 23, .keep 24 24, .keep 25 25, .keep 26 26, .keep 32 32, .keep 33 33, .keep 34 34, .keep 35 35, .keep 36 36, .keep 37 37, .keep 38 38, .slot 48 false .bool, .obj 37 y46])] .no) .no) (.seq (.blk (.seq .no (.draw [0, 1, 2, 3, 4, 5, 6, 7, 8, 9, 10, 11, 12, 13, 14, 15, 16, 17, 18, 19, 20, 21, 22]))) .no))))) .no)))
noncomputable def s128 : List (Nat × Callee) := [d115, d117, d119, d121, (123, .inl Tryz.f123 b123 n123_128), d124, (125, .inl Tryz.f125 b125 n125_128), (162, .inl Tryz.f162 b162 n162_128), d163, (164, .inl Tryz.f164 b164 n164_128), (165, .inl Tryz.f165 b165 n165_128), d191]
theorem h128 : HOK P (handler tab s128 8) := handler_sound tabOK mixed (callsOK_get (l := s128) ⟨c115, c117, c119, c121, ⟨Tryz.func123, by kernel_rfl, by kernel_rfl⟩, c124, ⟨Tryz.func125, by kernel_rfl, by kernel_rfl⟩, ⟨Tryz.func162, by kernel_rfl, by kernel_rfl⟩, c163, ⟨Tryz.func164, by kernel_rfl, by kernel_rfl⟩, ⟨Tryz.func165, by kernel_rfl, by kernel_rfl⟩, c191, trivial⟩) 8
def n128 : Ann := (.seq .no (.seq .no (.seq .no (.seq (.seq (.join [(.normal, [.keep 4 4, .keep 6 6, .keep 8 8, .slot 10 false yI, .slot 11 false yI, .keep 16 16, .slot 30 false .bool, .obj 4 y16, .obj 6 y40, .obj 16 y43])] .no) .no) (.seq (.draw [0, 1, 2, 3, 4, 5, 6, 7]) (.seq (.join [(.normal, [.keep 6 6, .keep 8 8, .keep 16 16, .keep 32 32, .keep 33 33, .keep 34 34, .obj 6 y40, .obj 34 y43])] .no) (.seq (.join [(.normal, [.keep 6 6, .keep 8 8, .keep 16 16, .keep 32 32, .keep 33 33, .keep 34 34, .obj 6 y40, .obj 34 y43])] (.seq (.join [(.normal, [.keep 6 6, .keep 8 8, .keep 16 16, .keep 32 32, .keep 33 33, .keep 34 34, .slot 53 false .bool, .obj 6 y40, .obj 34 y43])] .no) .no)) (.seq (.seq .no (.cond (.seq (.draw [0, 1, 2, 3, 4, 5, 6]) .no) .no)) (.seq (.draw [0, 1, 2, 3, 4, 5, 6, 7, 8, 9, 10, 11, 12, 13, 14, 15, 16, 17, 18, 19, 20, 21, 22, 23]) .no)))))))))
noncomputable abbrev b128 : Code := Tryz.f128.body.getD .skip
theorem e128 (x : denL i128) : evalF tab s128 8 Tryz.f128 b128 n128 i128 o128 x = g_coder_Put x.1 x.2.1 x.2.2 := by kernel_rfl
theorem c128 : Contract P 128 i128 o128 (fun x => g_coder_Put x.1 x.2.1 x.2.2) := evalF_contract tabOK mixed h128 Tryz.func128 (body := b128) (by kernel_rfl) (by kernel_rfl) e128
noncomputable def d128 : Nat × Callee := (128, .sem i128 o128 fun x => g_coder_Put x.1 x.2.1 x.2.2)
abbrev i129 : List (Bool × Ty) := [(true, y34)]
abbrev o129 : List (Bool × Ty) := [(true, y37), (false, yI)]
def n162_129 : Ann := (.seq .no (.seq .no (.seq (.join [(.normal, [.slot 0 true y34, .keep 2 4, .slot 3 false .bool, .keep 4 4, .keep 17 17, .obj 17 y43])] .no) .no)))
def n165_129 : Ann := (.seq (.seq (.draw [0, 1, 2, 3, 4, 5, 6, 7, 8, 9, 10, 11]) .no) (.seq .no (.seq (.seq .no (.blk (.loop [.keep 0 0, .slot 1 false yU, .slot 4 false yI, .keep 6 6, .keep 7 7, .keep 8 8, .keep 11 11, .keep 12 12, .keep 13 13, .keep 14 14, .keep 22 22, .keep 23 23, .keep 24 24, .keep 25 25, .keep 26 26, .keep 32 32, .keep 33 33, .keep 34 34, .keep 35 35, .keep 36 36, .keep 37 37, .keep 38 38, .obj 37 y46] [(.exit 0, [.keep 0 0, .slot 1 false yU, .keep 6 6, .keep 7 7, .keep 8 8, .keep 11 11, .keep 12 12, .keep 13 13, .keep 14 14, .keep 22 22, .keep 23 23, .keep 24 24, .keep 25 25, .keep 26 26, .keep 32 32, .keep 33 33, .keep 34 34, .keep 35 35, .keep 36 36, .keep 37 37, .keep 38 38, .obj 37 y46])] (.seq (.seq (.join [(.normal, [.keep 0 0, .slot 1 false yU, .slot 4 false yI, .keep 6 6, .keep 7 7, .keep 8 8, .keep 11 11, .keep 12 12, .keep 13 13, .keep 14 14, .keep 22 22, .keep 23 23, .keep 24 24, .keep 25 25, .keep 26 26, .keep 32 32, .keep 33 33, .keep 34 34, .keep 35 35, .keep 36 36, .keep 37 37, .keep 38 38, .slot 48 false .bool, .obj 37 y46])] .no) .no) (.seq (.blk (.seq .no (.draw [0, 1, 2, 3, 4, 5, 6, 7, 8, 9, 10, 11, 12, 13, 14, 15, 16, 17, 18, 19, 20, 21, 22]))) .no))))) .no)))
noncomputable def s129 : List (Nat × Callee) := [d115, d119, (162, .inl Tryz.f162 b162 n162_129), (165, .inl Tryz.f165 b165 n165_129), d191]
theorem h129 : HOK P (handler tab s129 8) := handler_sound tabOK mixed (callsOK_get (l := s129) ⟨c115, c119, ⟨Tryz.func162, by kernel_rfl, by kernel_rfl⟩, ⟨Tryz.func165, by kernel_rfl, by kernel_rfl⟩, c191, trivial⟩) 8
def n129 : Ann := (.seq .no (.seq .no (.seq .no (.seq .no (.seq .no (.seq .no (.seq .no (.seq (.seq .no (.cond (.seq (.draw [0, 1, 2, 3, 4, 5, 6]) .no) .no)) .no))))))))
noncomputable abbrev b129 : Code := Tryz.f129.body.getD .skip
theorem e129 (x : denL i129) : evalF tab s129 8 Tryz.f129 b129 n129 i129 o129 x = g_coder_End x := by kernel_rfl
theorem c129 : Contract P 129 i129 o129 (fun x => g_coder_End x) := evalF_contract tabOK mixed h129 Tryz.func129 (body := b129) (by kernel_rfl) (by kernel_rfl) e129
noncomputable def d129 : Nat × Callee := (129, .sem i129 o129 fun x => g_coder_End x)
abbrev i78 : List (Bool × Ty) := [(false, y16), (false, y27)]
abbrev o78 : List (Bool × Ty) := [(true, y31), (false, yI)]
noncomputable def s78 : List (Nat × Callee) := [d127, d128, d129]
theorem h78 : HOK P (handler tab s78 8) := handler_sound tabOK mixed (callsOK_get (l := s78) ⟨c127, c128, c129, trivial⟩) 8
def n78 : Ann := (.seq .no (.seq .no (.seq .no (.seq (.seq .no (.blk (.loop [.slot 1 false y27, .keep 4 4, .keep 6 6, .slot 17 false y16, .slot 18 false yI, .slot 19 false yI, .obj 4 y37, .obj 6 y34] [(.exit 0, [.keep 4 4, .keep 6 6, .obj 4 y37, .obj 6 y34]), (.ret, [.keep 4 4, .slot 5 false yI, .obj 4 y37])] (.seq .no (.seq .no (.seq (.blk (.seq .no (.seq .no (.seq (.draw [0, 1, 2, 3, 4, 5, 6, 7, 8, 9, 10, 11]) .no)))) .no)))))) .no))))
noncomputable abbrev b78 : Code := Tryz.f78.body.getD .skip
theorem e78 (x : denL i78) : evalF tab s78 8 Tryz.f78 b78 n78 i78 o78 x = g_coder_All x.1 x.2 := by kernel_rfl
theorem c78 : Contract P 78 i78 o78 (fun x => g_coder_All x.1 x.2) := evalF_contract tabOK mixed h78 Tryz.func78 (body := b78) (by kernel_rfl) (by kernel_rfl) e78
noncomputable def d78 : Nat × Callee := (78, .sem i78 o78 fun x => g_coder_All x.1 x.2)
abbrev i42 : List (Bool × Ty) := [(true, y26), (true, y2)]
abbrev o42 : List (Bool × Ty) := [(false, y30), (false, yI)]
noncomputable def s42 : List (Nat × Callee) := [d76, d77, d78]
theorem h42 : HOK P (handler tab s42 8) := handler_sound tabOK mixed (callsOK_get (l := s42) ⟨c76, c77, c78, trivial⟩) 8
def n42 : Ann := .no
noncomputable abbrev b42 : Code := Tryz.f42.body.getD .skip
theorem e42 (x : denL i42) : evalF tab s42 8 Tryz.f42 b42 n42 i42 o42 x = g_frame_Write x.1 x.2 := by kernel_rfl
theorem c42 : Contract P 42 i42 o42 (fun x => g_frame_Write x.1 x.2) := evalF_contract tabOK mixed h42 Tryz.func42 (body := b42) (by kernel_rfl) (by kernel_rfl) e42
noncomputable def d42 : Nat × Callee := (42, .sem i42 o42 fun x => g_frame_Write x.1 x.2)
abbrev i74 : List (Bool × Ty) := [(false, y30)]
abbrev o74 : List (Bool × Ty) := [(true, y31)]
noncomputable def s74 : List (Nat × Callee) := [d118]
theorem h74 : HOK P (handler tab s74 8) := handler_sound tabOK mixed (callsOK_get (l := s74) ⟨c118, trivial⟩) 8
def n74 : Ann := .no
noncomputable abbrev b74 : Code := Tryz.f74.body.getD .skip
theorem e74 (x : denL i74) : evalF tab s74 8 Tryz.f74 b74 n74 i74 o74 x = g_bits_Of x := by kernel_rfl
theorem c74 : Contract P 74 i74 o74 (fun x => g_bits_Of x) := evalF_contract tabOK mixed h74 Tryz.func74 (body := b74) (by kernel_rfl) (by kernel_rfl) e74
noncomputable def d74 : Nat × Callee := (74, .sem i74 o74 fun x => g_bits_Of x)
abbrev i116 : List (Bool × Ty) := [(true, y31), (false, yI)]
abbrev o116 : List (Bool × Ty) := [(false, yU)]
noncomputable def s116 : List (Nat × Callee) := []
theorem h116 : HOK P (handler tab s116 8) := handler_sound tabOK mixed (callsOK_get (l := s116) trivial) 8
def n116 : Ann := .no
noncomputable abbrev b116 : Code := Tryz.f116.body.getD .skip
theorem e116 (x : denL i116) : evalF tab s116 8 Tryz.f116 b116 n116 i116 o116 x = g_coder_bit x.1 x.2 := by kernel_rfl
theorem c116 : Contract P 116 i116 o116 (fun x => g_coder_bit x.1 x.2) := evalF_contract tabOK mixed h116 Tryz.func116 (body := b116) (by kernel_rfl) (by kernel_rfl) e116
noncomputable def d116 : Nat × Callee := (116, .sem i116 o116 fun x => g_coder_bit x.1 x.2)
abbrev i73 : List (Bool × Ty) := [(true, y31)]
abbrev o73 : List (Bool × Ty) := [(true, y49), (false, yI)]
noncomputable def s73 : List (Nat × Callee) := [d115, d116, d117]
theorem h73 : HOK P (handler tab s73 8) := handler_sound tabOK mixed (callsOK_get (l := s73) ⟨c115, c116, c117, trivial⟩) 8
def n73 : Ann := (.seq .no (.seq .no (.seq .no (.seq (.seq .no (.blk (.loop [.keep 1 1, .keep 2 2, .slot 5 false yU, .slot 13 false yI, .obj 1 y31, .obj 2 y52] [(.exit 0, [.keep 1 1, .keep 2 2, .slot 5 false yU, .obj 1 y31, .obj 2 y52])] .no))) .no))))
noncomputable abbrev b73 : Code := Tryz.f73.body.getD .skip
theorem e73 (x : denL i73) : evalF tab s73 8 Tryz.f73 b73 n73 i73 o73 x = g_coder_Start x := by kernel_rfl
theorem c73 : Contract P 73 i73 o73 (fun x => g_coder_Start x) := evalF_contract tabOK mixed h73 Tryz.func73 (body := b73) (by kernel_rfl) (by kernel_rfl) e73
noncomputable def d73 : Nat × Callee := (73, .sem i73 o73 fun x => g_coder_Start x)
abbrev i204 : List (Bool × Ty) := [(false, yI)]
abbrev o204 : List (Bool × Ty) := [(false, .bool)]
noncomputable def s204 : List (Nat × Callee) := []
theorem h204 : HOK P (handler tab s204 8) := handler_sound tabOK mixed (callsOK_get (l := s204) trivial) 8
def n204 : Ann := .no
noncomputable abbrev b204 : Code := Tryz.f204.body.getD .skip
theorem e204 (x : denL i204) : evalF tab s204 8 Tryz.f204 b204 n204 i204 o204 x = g_cmp_isNaN_int x := by kernel_rfl
theorem c204 : Contract P 204 i204 o204 (fun x => g_cmp_isNaN_int x) := evalF_contract tabOK mixed h204 Tryz.func204 (body := b204) (by kernel_rfl) (by kernel_rfl) e204
noncomputable def d204 : Nat × Callee := (204, .sem i204 o204 fun x => g_cmp_isNaN_int x)
abbrev i189 : List (Bool × Ty) := [(false, yI), (false, yI)]
abbrev o189 : List (Bool × Ty) := [(false, .bool)]
noncomputable def s189 : List (Nat × Callee) := [d204]
theorem h189 : HOK P (handler tab s189 8) := handler_sound tabOK mixed (callsOK_get (l := s189) ⟨c204, trivial⟩) 8
def n189 : Ann := .no
noncomputable abbrev b189 : Code := Tryz.f189.body.getD .skip
theorem e189 (x : denL i189) : evalF tab s189 8 Tryz.f189 b189 n189 i189 o189 x = g_cmp_Less_int x.1 x.2 := by kernel_rfl
theorem c189 : Contract P 189 i189 o189 (fun x => g_cmp_Less_int x.1 x.2) := evalF_contract tabOK mixed h189 Tryz.func189 (body := b189) (by kernel_rfl) (by kernel_rfl) e189
noncomputable def d189 : Nat × Callee := (189, .sem i189 o189 fun x => g_cmp_Less_int x.1 x.2)
abbrev i190 : List (Bool × Ty) := [(false, yI)]
abbrev o190 : List (Bool × Ty) := [(false, .bool)]
noncomputable def s190 : List (Nat × Callee) := []
theorem h190 : HOK P (handler tab s190 8) := handler_sound tabOK mixed (callsOK_get (l := s190) trivial) 8
def n190 : Ann := .no
noncomputable abbrev b190 : Code := Tryz.f190.body.getD .skip
theorem e190 (x : denL i190) : evalF tab s190 8 Tryz.f190 b190 n190 i190 o190 x = g_slices_isNaN_int x := by kernel_rfl
theorem c190 : Contract P 190 i190 o190 (fun x => g_slices_isNaN_int x) := evalF_contract tabOK mixed h190 Tryz.func190 (body := b190) (by kernel_rfl) (by kernel_rfl) e190
noncomputable def d190 : Nat × Callee := (190, .sem i190 o190 fun x => g_slices_isNaN_int x)
abbrev i161 : List (Bool × Ty) := [(false, y16), (false, yI)]
abbrev o161 : List (Bool × Ty) := [(false, yI), (false, .bool)]
noncomputable def s161 : List (Nat × Callee) := [d189, d190]
theorem h161 : HOK P (handler tab s161 8) := handler_sound tabOK mixed (callsOK_get (l := s161) ⟨c189, c190, trivial⟩) 8
def n161 : Ann := (.seq .no (.seq .no (.seq .no (.seq (.blk (.loop [.slot 0 false y16, .slot 1 false yI, .slot 6 false yI, .slot 7 false yI, .slot 8 false yI] [(.exit 0, [.slot 0 false y16, .slot 1 false yI, .slot 6 false yI, .slot 7 false yI])] .no)) .no))))
noncomputable abbrev b161 : Code := Tryz.f161.body.getD .skip
theorem e161 (x : denL i161) : evalF tab s161 8 Tryz.f161 b161 n161 i161 o161 x = g_slices_BinarySearch_Sint_int x.1 x.2 := by kernel_rfl
theorem c161 : Contract P 161 i161 o161 (fun x => g_slices_BinarySearch_Sint_int x.1 x.2) := evalF_contract tabOK mixed h161 Tryz.func161 (body := b161) (by kernel_rfl) (by kernel_rfl) e161
noncomputable def d161 : Nat × Callee := (161, .sem i161 o161 fun x => g_slices_BinarySearch_Sint_int x.1 x.2)
abbrev i122 : List (Bool × Ty) := [(true, y16), (false, yI)]
abbrev o122 : List (Bool × Ty) := [(false, yI), (false, yI)]
noncomputable def s122 : List (Nat × Callee) := [d120, d154, d161]
theorem h122 : HOK P (handler tab s122 8) := handler_sound tabOK mixed (callsOK_get (l := s122) ⟨c120, c154, c161, trivial⟩) 8
def n122 : Ann := (.seq .no (.seq (.seq (.join [(.normal, [.slot 1 false yI, .keep 2 2, .slot 20 false .bool, .obj 2 y16])] .no) .no) (.seq .no (.seq (.join [(.normal, [.slot 6 false yI])] .no) .no))))
noncomputable abbrev b122 : Code := Tryz.f122.body.getD .skip
theorem e122 (x : denL i122) : evalF tab s122 8 Tryz.f122 b122 n122 i122 o122 x = g_freq_Find x.1 x.2 := by kernel_rfl
theorem c122 : Contract P 122 i122 o122 (fun x => g_freq_Find x.1 x.2) := evalF_contract tabOK mixed h122 Tryz.func122 (body := b122) (by kernel_rfl) (by kernel_rfl) e122
noncomputable def d122 : Nat × Callee := (122, .sem i122 o122 fun x => g_freq_Find x.1 x.2)
abbrev i75 : List (Bool × Ty) := [(true, y49), (true, y16)]
abbrev o75 : List (Bool × Ty) := [(true, y49), (false, yI), (false, yI)]
def n123_75 : Ann := (.seq (.draw [0, 1, 2, 3, 4, 5, 6, 7, 8, 9, 10]) (.seq (.draw [0, 1, 2, 3, 4, 5, 6, 7, 8, 9, 10, 11, 12, 13, 14, 15, 16]) (.draw [0, 1, 2, 3, 4, 5, 6, 7, 8, 9, 10, 11, 12, 13, 14])))
def n125_75 : Ann := (.draw [0, 1, 2, 3, 4, 5, 6, 7, 8, 9, 10, 11, 12, 13, 14, 15, 16, 17, 18, 19, 20, 21, 22])
noncomputable def s75 : List (Nat × Callee) := [d115, d116, d117, d119, d120, d121, d122, (123, .inl Tryz.f123 b123 n123_75), d124, (125, .inl Tryz.f125 b125 n125_75)]
theorem h75 : HOK P (handler tab s75 8) := handler_sound tabOK mixed (callsOK_get (l := s75) ⟨c115, c116, c117, c119, c120, c121, c122, ⟨Tryz.func123, by kernel_rfl, by kernel_rfl⟩, c124, ⟨Tryz.func125, by kernel_rfl, by kernel_rfl⟩, trivial⟩) 8
def n75 : Ann := (.seq .no (.seq .no (.seq (.draw [0, 1, 2, 3, 4, 5, 6]) (.seq (.blk (.seq (.join [(.normal, [.keep 2 2, .keep 3 3, .keep 4 4, .keep 7 7, .slot 8 false yU, .slot 9 false yI, .keep 16 16, .keep 19 19, .keep 23 23, .keep 26 26, .slot 28 false .bool, .obj 16 y49, .obj 3 y16, .obj 4 y52, .obj 7 y35])] .no) .no)) (.seq .no (.seq .no (.seq .no (.seq .no (.seq (.draw [0, 1, 2, 3, 4, 5, 6, 7, 8, 9, 10, 11, 12]) (.seq (.blk (.loop [.keep 2 2, .keep 4 4, .keep 7 7, .slot 8 false yU, .slot 9 false yI, .slot 12 false yI, .keep 16 16, .keep 19 19, .keep 23 23, .keep 26 26, .keep 54 54, .keep 55 55, .keep 63 63, .keep 71 71, .keep 73 73, .obj 16 y49, .obj 4 y52, .obj 73 y35] [(.exit 1, [.keep 2 2, .keep 4 4, .keep 7 7, .slot 8 false yU, .slot 9 false yI, .slot 12 false yI, .keep 16 16, .keep 19 19, .keep 23 23, .keep 26 26, .keep 54 54, .keep 55 55, .keep 63 63, .keep 71 71, .keep 73 73, .obj 16 y49, .obj 4 y52, .obj 73 y35])] .no)) (.seq (.draw [0, 1, 2, 3, 4, 5, 6, 7, 8, 9, 10, 11, 12, 13, 14, 15, 16]) .no)))))))))))
noncomputable abbrev b75 : Code := Tryz.f75.body.getD .skip
theorem e75 (x : denL i75) : evalF tab s75 8 Tryz.f75 b75 n75 i75 o75 x = g_coder_Next x.1 x.2 := by kernel_rfl
theorem c75 : Contract P 75 i75 o75 (fun x => g_coder_Next x.1 x.2) := evalF_contract tabOK mixed h75 Tryz.func75 (body := b75) (by kernel_rfl) (by kernel_rfl) e75
noncomputable def d75 : Nat × Callee := (75, .sem i75 o75 fun x => g_coder_Next x.1 x.2)
abbrev i43 : List (Bool × Ty) := [(false, y30), (false, y30)]
abbrev o43 : List (Bool × Ty) := [(false, .bool)]
noncomputable def s43 : List (Nat × Callee) := []
theorem h43 : HOK P (handler tab s43 8) := handler_sound tabOK mixed (callsOK_get (l := s43) trivial) 8
def n43 : Ann := (.seq .no (.seq .no (.seq (.seq .no (.blk (.loop [.slot 0 false y30, .slot 1 false y30, .slot 12 false yI, .slot 13 false yI] [(.exit 0, []), (.ret, [.slot 4 false .bool])] (.seq .no (.seq .no (.seq (.blk (.seq .no (.seq (.draw [0, 1, 2, 3, 4, 5, 6, 7, 8]) .no))) .no)))))) .no)))
noncomputable abbrev b43 : Code := Tryz.f43.body.getD .skip
theorem e43 (x : denL i43) : evalF tab s43 8 Tryz.f43 b43 n43 i43 o43 x = g_slices_Equal_Sbyte_byte x.1 x.2 := by kernel_rfl
theorem c43 : Contract P 43 i43 o43 (fun x => g_slices_Equal_Sbyte_byte x.1 x.2) := evalF_contract tabOK mixed h43 Tryz.func43 (body := b43) (by kernel_rfl) (by kernel_rfl) e43
noncomputable def d43 : Nat × Callee := (43, .sem i43 o43 fun x => g_slices_Equal_Sbyte_byte x.1 x.2)
abbrev i15 : List (Bool × Ty) := [(false, y30), (true, y2)]
abbrev o15 : List (Bool × Ty) := [(true, y26), (false, yI)]
def n39_15 : Ann := (.seq .no (.seq (.seq (.join [(.normal, [.keep 0 0, .slot 1 true y2, .keep 2 2, .keep 4 4, .slot 25 false .bool, .obj 0 y26, .obj 4 y2, .obj 1002 y53])] (.draw [0, 1, 2, 3, 4, 5, 6])) .no) (.seq .no (.seq .no (.seq (.join [(.normal, [.keep 0 0, .slot 1 true y2, .keep 2 2, .keep 7 7, .keep 8 8, .obj 0 y26, .obj 7 y16, .obj 8 y2, .obj 1002 y53])] (.seq .no (.cond (.seq (.draw [0, 1, 2, 3]) (.seq .no (.blk (.loop [.keep 0 0, .slot 1 true y2, .keep 2 2, .keep 7 7, .keep 8 8, .keep 27 27, .keep 28 28, .keep 29 29, .slot 34 false yI, .obj 29 y26, .obj 7 y16, .obj 8 y2, .obj 1002 y53] [(.exit 0, [.keep 0 0, .slot 1 true y2, .keep 2 2, .keep 7 7, .keep 8 8, .keep 27 27, .keep 28 28, .keep 29 29, .obj 29 y26, .obj 7 y16, .obj 8 y2, .obj 1002 y53])] .no)))) .no))) (.seq (.seq .no (.blk (.loop [.keep 0 0, .slot 1 true y2, .keep 2 2, .keep 7 7, .keep 8 8, .slot 43 false yI, .obj 0 y26, .obj 7 y16, .obj 8 y2, .obj 1002 y53] [(.exit 2, [.keep 0 0, .slot 1 true y2, .keep 2 2, .obj 0 y26, .obj 1002 y53]), (.ret, [.keep 0 0, .slot 1 true y2, .keep 2 2, .slot 6 false .bool, .obj 0 y26, .obj 1002 y53])] (.seq .no (.seq .no (.seq (.blk (.seq .no (.seq (.draw [0, 1, 2, 3, 4, 5, 6, 7, 8, 9, 10, 11]) (.seq (.seq (.join [(.normal, [.keep 0 0, .slot 1 true y2, .keep 2 2, .keep 7 7, .keep 8 8, .slot 10 false yI, .keep 11 11, .slot 43 false yI, .keep 46 46, .keep 48 48, .keep 49 49, .slot 59 false .bool, .obj 48 y26, .obj 7 y16, .obj 8 y2, .obj 11 yI, .obj 1002 y53])] .no) .no) (.draw [0, 1, 2, 3, 4, 5, 6, 7, 8, 9, 10]))))) .no)))))) (.seq .no (.seq .no (.seq .no (.seq (.seq .no (.blk (.loop [.keep 0 0, .slot 1 true y2, .keep 2 2, .keep 12 12, .keep 71 71, .keep 72 72, .keep 73 73, .keep 77 77, .keep 78 78, .keep 79 79, .slot 86 false yI, .obj 78 y26, .obj 12 y2, .obj 1002 y53] [(.exit 4, [.keep 0 0, .slot 1 true y2, .keep 2 2, .keep 71 71, .keep 72 72, .keep 73 73, .keep 77 77, .keep 78 78, .keep 79 79, .obj 78 y26, .obj 1002 y53]), (.ret, [.keep 0 0, .slot 1 true y2, .keep 2 2, .slot 6 false .bool, .keep 71 71, .keep 72 72, .keep 73 73, .keep 77 77, .keep 78 78, .keep 79 79, .obj 78 y26, .obj 1002 y53])] (.seq .no (.seq .no (.seq (.join [(.normal, [.keep 0 0, .slot 1 true y2, .keep 2 2, .keep 12 12, .keep 71 71, .keep 72 72, .keep 73 73, .keep 77 77, .keep 78 78, .keep 79 79, .slot 86 false yI, .obj 78 y26, .obj 12 y2, .obj 1002 y53]), (.ret, [.keep 0 0, .slot 1 true y2, .keep 2 2, .slot 6 false .bool, .keep 71 71, .keep 72 72, .keep 73 73, .keep 77 77, .keep 78 78, .keep 79 79, .obj 78 y26, .obj 1002 y53])] (.blk (.seq .no (.seq .no (.seq .no (.seq .no (.seq .no (.seq (.seq (.join [(.normal, [.keep 0 0, .slot 1 true y2, .keep 2 2, .keep 12 12, .slot 14 false yI, .slot 17 false yI, .keep 18 18, .keep 71 71, .keep 72 72, .keep 73 73, .keep 77 77, .keep 78 78, .keep 79 79, .slot 86 false yI, .keep 102 102, .keep 104 104, .keep 105 105, .slot 114 false .bool, .obj 104 y26, .obj 12 y2, .obj 18 yI, .obj 1002 y53])] .no) .no) (.draw [0, 1, 2, 3, 4, 5, 6, 7, 8]))))))))) .no)))))) .no))))))))))
def n40_15 : Ann := (.join [(.ret, [.slot 0 false y30, .nbox 2 y53])] .no)
def n41_15 : Ann := (.seq .no (.seq (.seq .no (.cond (.draw [0, 1, 2, 3, 4, 5, 6, 7, 8, 9, 10, 11, 12, 13, 14, 15, 16, 17, 18, 19, 20]) .no)) .no))
noncomputable def s15 : List (Nat × Callee) := [d38, (39, .inl Tryz.f39 b39 n39_15), (40, .inl Tryz.f40 b40 n40_15), (41, .inl Tryz.f41 b41 n41_15), d42, d43, d60, d67, d68, d69, d70, d71, d72, d73, d74, d75]
theorem h15 : HOK P (handler tab s15 8) := handler_sound tabOK mixed (callsOK_get (l := s15) ⟨c38, ⟨Tryz.func39, by kernel_rfl, by kernel_rfl⟩, ⟨Tryz.func40, by kernel_rfl, by kernel_rfl⟩, ⟨Tryz.func41, by kernel_rfl, by kernel_rfl⟩, c42, c43, c60, c67, c68, c69, c70, c71, c72, c73, c74, c75, trivial⟩) 8
def n15 : Ann := (.seq .no (.seq .no (.seq (.seq (.join [(.normal, [.slot 0 false y30, .keep 3 3, .keep 4 4, .slot 20 false .bool, .obj 3 y2, .obj 4 y26])] (.draw [0, 1, 2, 3, 4, 5])) .no) (.seq (.seq .no (.seq (.join [(.normal, [.keep 4 4, .slot 35 false .bool, .obj 4 y26])] .no) .no)) .no))))
noncomputable abbrev b15 : Code := Tryz.f15.body.getD .skip
theorem e15 (x : denL i15) : evalF tab s15 8 Tryz.f15 b15 n15 i15 o15 x = g_frame_Read x.1 x.2 := by kernel_rfl
theorem c15 : Contract P 15 i15 o15 (fun x => g_frame_Read x.1 x.2) := evalF_contract tabOK mixed h15 Tryz.func15 (body := b15) (by kernel_rfl) (by kernel_rfl) e15
noncomputable def d15 : Nat × Callee := (15, .sem i15 o15 fun x => g_frame_Read x.1 x.2)
abbrev i83 : List (Bool × Ty) := [(false, yI)]
abbrev o83 : List (Bool × Ty) := [(false, yI)]
noncomputable def s83 : List (Nat × Callee) := []
theorem h83 : HOK P (handler tab s83 8) := handler_sound tabOK mixed (callsOK_get (l := s83) trivial) 8
def n83 : Ann := .no
noncomputable abbrev b83 : Code := Tryz.f83.body.getD .skip
theorem e83 (x : denL i83) : evalF tab s83 8 Tryz.f83 b83 n83 i83 o83 x = g_quant_held x := by kernel_rfl
theorem c83 : Contract P 83 i83 o83 (fun x => g_quant_held x) := evalF_contract tabOK mixed h83 Tryz.func83 (body := b83) (by kernel_rfl) (by kernel_rfl) e83
noncomputable def d83 : Nat × Callee := (83, .sem i83 o83 fun x => g_quant_held x)
abbrev i79 : List (Bool × Ty) := [(false, yW), (true, y2)]
abbrev o79 : List (Bool × Ty) := [(true, y1), (false, yW), (false, yI)]
noncomputable def s79 : List (Nat × Callee) := [d38, d70, d83, d104, d130]
theorem h79 : HOK P (handler tab s79 8) := handler_sound tabOK mixed (callsOK_get (l := s79) ⟨c38, c70, c83, c104, c130, trivial⟩) 8
def n79 : Ann := (.seq .no (.seq .no (.seq (.seq .no (.blk (.loop [.slot 0 false yW, .keep 3 3, .keep 4 4, .slot 19 false yI, .obj 3 y2, .obj 4 y1] [(.exit 0, [.slot 0 false yW, .keep 4 4, .obj 4 y1])] (.seq .no (.seq .no (.seq (.join [(.normal, [.slot 0 false yW, .keep 3 3, .keep 4 4, .slot 19 false yI, .obj 3 y2, .obj 4 y1])] .no) .no)))))) .no)))
noncomputable abbrev b79 : Code := Tryz.f79.body.getD .skip
theorem e79 (x : denL i79) : evalF tab s79 8 Tryz.f79 b79 n79 i79 o79 x = g_quant_Noise x.1 x.2 := by kernel_rfl
theorem c79 : Contract P 79 i79 o79 (fun x => g_quant_Noise x.1 x.2) := evalF_contract tabOK mixed h79 Tryz.func79 (body := b79) (by kernel_rfl) (by kernel_rfl) e79
noncomputable def d79 : Nat × Callee := (79, .sem i79 o79 fun x => g_quant_Noise x.1 x.2)
abbrev i80 : List (Bool × Ty) := [(true, y1)]
abbrev o80 : List (Bool × Ty) := [(true, y18), (false, yI)]
noncomputable def s80 : List (Nat × Callee) := [d103, d104, d110]
theorem h80 : HOK P (handler tab s80 8) := handler_sound tabOK mixed (callsOK_get (l := s80) ⟨c103, c104, c110, trivial⟩) 8
def n80 : Ann := (.seq .no (.seq .no (.seq .no (.seq .no (.seq (.seq .no (.blk (.loop [.keep 1 1, .keep 2 2, .keep 4 4, .keep 22 22, .slot 23 true y19, .slot 24 false yI, .obj 1 y1, .obj 2 y18, .obj 4 y20] [(.exit 0, [.keep 2 2, .keep 4 4, .keep 22 22, .obj 2 y18, .obj 4 y20])] (.seq .no (.seq .no (.seq (.blk (.seq .no (.seq .no (.blk (.loop [.keep 1 1, .keep 2 2, .keep 4 4, .slot 5 false yI, .keep 22 22, .slot 23 true y19, .slot 24 false yI, .slot 28 false y16, .slot 29 false yI, .slot 30 false yI, .obj 1 y1, .obj 2 y18, .obj 4 y20] [(.exit 2, [.keep 1 1, .keep 2 2, .keep 4 4, .keep 22 22, .slot 23 true y19, .slot 24 false yI, .obj 1 y1, .obj 2 y18, .obj 4 y20])] (.seq .no (.seq .no (.seq (.blk (.seq .no (.draw [0, 1, 2, 3, 4, 5, 6, 7, 8, 9, 10]))) .no)))))))) .no)))))) (.seq (.seq .no (.blk (.loop [.keep 2 2, .keep 4 4, .keep 22 22, .slot 47 false yI, .obj 2 y18, .obj 4 y20] [(.exit 4, [.keep 2 2, .obj 2 y18])] (.seq .no (.seq .no (.seq (.blk (.seq .no (.draw [0, 1, 2, 3, 4, 5, 6, 7, 8, 9, 10, 11, 12]))) .no)))))) .no))))))
noncomputable abbrev b80 : Code := Tryz.f80.body.getD .skip
theorem e80 (x : denL i80) : evalF tab s80 8 Tryz.f80 b80 n80 i80 o80 x = g_lapped_Inverse x := by kernel_rfl
theorem c80 : Contract P 80 i80 o80 (fun x => g_lapped_Inverse x) := evalF_contract tabOK mixed h80 Tryz.func80 (body := b80) (by kernel_rfl) (by kernel_rfl) e80
noncomputable def d80 : Nat × Callee := (80, .sem i80 o80 fun x => g_lapped_Inverse x)
abbrev i49 : List (Bool × Ty) := [(true, y1), (true, y2)]
abbrev o49 : List (Bool × Ty) := [(true, y1), (false, yI)]
noncomputable def s49 : List (Nat × Callee) := [d81, d82, d83]
theorem h49 : HOK P (handler tab s49 8) := handler_sound tabOK mixed (callsOK_get (l := s49) ⟨c81, c82, c83, trivial⟩) 8
def n49 : Ann := (.seq .no (.seq .no (.seq .no (.seq (.seq .no (.blk (.loop [.keep 2 2, .keep 4 4, .slot 5 false yI, .keep 6 6, .slot 20 false yI, .obj 2 y1, .obj 4 y1, .obj 6 y24] [(.exit 0, [.keep 4 4, .slot 5 false yI, .obj 4 y1])] (.seq .no (.seq .no (.seq (.blk (.seq .no (.draw [0, 1, 2, 3, 4, 5, 6, 7, 8, 9, 10, 11]))) .no)))))) .no))))
noncomputable abbrev b49 : Code := Tryz.f49.body.getD .skip
theorem e49 (x : denL i49) : evalF tab s49 8 Tryz.f49 b49 n49 i49 o49 x = g_quant_Great x.1 x.2 := by kernel_rfl
theorem c49 : Contract P 49 i49 o49 (fun x => g_quant_Great x.1 x.2) := evalF_contract tabOK mixed h49 Tryz.func49 (body := b49) (by kernel_rfl) (by kernel_rfl) e49
noncomputable def d49 : Nat × Callee := (49, .sem i49 o49 fun x => g_quant_Great x.1 x.2)
abbrev i16 : List (Bool × Ty) := [(true, y7), (false, y30)]
abbrev o16 : List (Bool × Ty) := [(true, y7), (true, y1), (false, yI)]
def n44_16 : Ann := (.seq .no (.seq (.draw [0, 1, 2, 3, 4, 5]) .no))
def n45_16 : Ann := (.seq .no (.seq (.seq .no (.cond (.seq (.draw [0, 1, 2, 3, 4, 5, 6, 7, 8]) .no) .no)) (.seq (.draw [0, 1, 2, 3, 4, 5, 6, 7, 8, 9, 10]) .no)))
def n46_16 : Ann := (.seq .no (.seq (.join [(.normal, [.keep 0 0, .slot 1 false yI, .obj 0 y55])] .no) .no))
def n47_16 : Ann := (.seq (.draw [0, 1, 2, 3, 4, 5, 6, 7, 8, 9, 10, 11, 12, 13, 14, 15, 16, 17, 18]) .no)
def n48_16 : Ann := (.seq .no (.seq .no (.seq .no (.seq .no (.seq (.draw [0, 1, 2, 3, 4, 5, 6, 7, 8, 9, 10, 11, 12, 13, 14, 15, 16, 17, 18, 19, 20]) .no)))))
noncomputable def s16 : List (Nat × Callee) := [d15, d36, (44, .inl Tryz.f44 b44 n44_16), (45, .inl Tryz.f45 b45 n45_16), (46, .inl Tryz.f46 b46 n46_16), (47, .inl Tryz.f47 b47 n47_16), (48, .inl Tryz.f48 b48 n48_16), d49, d66, d79, d80]
theorem h16 : HOK P (handler tab s16 8) := handler_sound tabOK mixed (callsOK_get (l := s16) ⟨c15, c36, ⟨Tryz.func44, by kernel_rfl, by kernel_rfl⟩, ⟨Tryz.func45, by kernel_rfl, by kernel_rfl⟩, ⟨Tryz.func46, by kernel_rfl, by kernel_rfl⟩, ⟨Tryz.func47, by kernel_rfl, by kernel_rfl⟩, ⟨Tryz.func48, by kernel_rfl, by kernel_rfl⟩, c49, c66, c79, c80, trivial⟩) 8
def n16 : Ann := (.seq .no (.seq .no (.seq .no (.seq .no (.seq (.join [(.normal, [.keep 4 4, .keep 5 5, .keep 7 7, .keep 8 8, .slot 9 false yI, .keep 11 11, .keep 12 12, .keep 13 13, .keep 14 14, .obj 4 y7, .obj 5 y1, .obj 13 y55, .obj 8 y26])] (.seq (.join [(.normal, [.keep 4 4, .keep 5 5, .keep 7 7, .keep 8 8, .slot 9 false yI, .keep 11 11, .keep 12 12, .keep 13 13, .keep 14 14, .slot 40 false .bool, .obj 4 y7, .obj 5 y1, .obj 13 y55, .obj 8 y26])] .no) .no)) (.seq .no (.seq (.draw [0, 1, 2, 3, 4, 5, 6, 7, 8, 9, 10, 11, 12, 13, 14, 15, 16, 17, 18, 19, 20, 21, 22]) (.seq (.join [(.normal, [.keep 4 4, .keep 5 5, .keep 7 7, .keep 11 11, .keep 12 12, .keep 13 13, .keep 14 14, .keep 41 41, .keep 49 49, .keep 50 50, .keep 51 51, .keep 60 60, .keep 61 61, .keep 62 62, .keep 63 63, .keep 64 64, .keep 65 65, .keep 66 66, .keep 67 67, .keep 68 68, .obj 4 y7, .obj 5 y1, .obj 67 y55])] .no) .no))))))))
noncomputable abbrev b16 : Code := Tryz.f16.body.getD .skip
theorem e16 (x : denL i16) : evalF tab s16 8 Tryz.f16 b16 n16 i16 o16 x = g_decoder_Step x.1 x.2 := by kernel_rfl
theorem c16 : Contract P 16 i16 o16 (fun x => g_decoder_Step x.1 x.2) := evalF_contract tabOK mixed h16 Tryz.func16 (body := b16) (by kernel_rfl) (by kernel_rfl) e16
noncomputable def d16 : Nat × Callee := (16, .sem i16 o16 fun x => g_decoder_Step x.1 x.2)
abbrev i17 : List (Bool × Ty) := [(true, y7)]
abbrev o17 : List (Bool × Ty) := [(true, y7), (true, y1), (false, yI)]
def n44_17 : Ann := (.seq .no (.seq (.draw [0, 1, 2, 3, 4, 5]) .no))
def n45_17 : Ann := (.seq .no (.seq (.seq .no (.cond (.seq (.draw [0, 1, 2, 3, 4, 5, 6, 7, 8]) .no) .no)) (.seq (.draw [0, 1, 2, 3, 4, 5, 6, 7, 8, 9, 10]) .no)))
def n46_17 : Ann := (.seq .no (.seq (.join [(.normal, [.keep 0 0, .slot 1 false yI, .obj 0 y55])] .no) .no))
def n47_17 : Ann := (.seq (.draw [0, 1, 2, 3, 4, 5, 6, 7, 8, 9, 10, 11, 12, 13, 14, 15, 16, 17, 18]) .no)
def n48_17 : Ann := (.seq .no (.seq .no (.seq .no (.seq .no (.seq (.draw [0, 1, 2, 3, 4, 5, 6, 7, 8, 9, 10, 11, 12, 13, 14, 15, 16, 17, 18, 19, 20]) .no)))))
noncomputable def s17 : List (Nat × Callee) := [d36, (44, .inl Tryz.f44 b44 n44_17), (45, .inl Tryz.f45 b45 n45_17), (46, .inl Tryz.f46 b46 n46_17), (47, .inl Tryz.f47 b47 n47_17), (48, .inl Tryz.f48 b48 n48_17), d66, d79, d80]
theorem h17 : HOK P (handler tab s17 8) := handler_sound tabOK mixed (callsOK_get (l := s17) ⟨c36, ⟨Tryz.func44, by kernel_rfl, by kernel_rfl⟩, ⟨Tryz.func45, by kernel_rfl, by kernel_rfl⟩, ⟨Tryz.func46, by kernel_rfl, by kernel_rfl⟩, ⟨Tryz.func47, by kernel_rfl, by kernel_rfl⟩, ⟨Tryz.func48, by kernel_rfl, by kernel_rfl⟩, c66, c79, c80, trivial⟩) 8
def n17 : Ann := (.seq .no (.seq .no (.seq (.join [(.normal, [.keep 2 2, .keep 3 3, .keep 5 5, .keep 7 7, .obj 2 y7, .obj 3 y1, .obj 7 y55])] .no) .no)))
noncomputable abbrev b17 : Code := Tryz.f17.body.getD .skip
theorem e17 (x : denL i17) : evalF tab s17 8 Tryz.f17 b17 n17 i17 o17 x = g_decoder_Rest x := by kernel_rfl
theorem c17 : Contract P 17 i17 o17 (fun x => g_decoder_Rest x) := evalF_contract tabOK mixed h17 Tryz.func17 (body := b17) (by kernel_rfl) (by kernel_rfl) e17
noncomputable def d17 : Nat × Callee := (17, .sem i17 o17 fun x => g_decoder_Rest x)
abbrev i11 : List (Bool × Ty) := [(true, y11), (true, y1)]
abbrev o11 : List (Bool × Ty) := [(true, y11), (false, y30), (false, yI)]
def n31_11 : Ann := (.seq .no (.seq .no (.seq (.join [(.normal, [.keep 0 0, .keep 2 2, .keep 4 4, .keep 5 5, .keep 6 6, .keep 8 8, .keep 9 9, .obj 5 y57, .obj 9 y26])] (.blk (.seq (.join [(.normal, [.keep 0 0, .keep 2 2, .keep 4 4, .keep 5 5, .keep 6 6, .keep 8 8, .keep 9 9, .slot 10 false .bool, .obj 5 y57, .obj 9 y26])] (.seq .no (.cond .no (.seq .no (.cond .no (.draw [0, 1, 2, 3, 4, 5, 6, 7, 8, 9, 10, 11, 12])))))) .no))) (.seq (.draw [0, 1, 2, 3, 4, 5, 6, 7, 8, 9, 10, 11, 12, 13, 14, 15]) .no))))
def n32_11 : Ann := (.seq .no (.seq (.join [(.normal, [.keep 0 0, .slot 1 true y26, .slot 4 false y30, .slot 5 false yI, .obj 0 y57])] (.seq (.draw [0, 1, 2, 3, 4, 5, 6, 7, 8, 9, 10, 11, 12]) .no)) .no))
def n33_11 : Ann := .no
noncomputable def s11 : List (Nat × Callee) := [d12, d16, d17, d29, d30, (31, .inl Tryz.f31 b31 n31_11), (32, .inl Tryz.f32 b32 n32_11), (33, .inl Tryz.f33 b33 n33_11), d42, d63, d64]
theorem h11 : HOK P (handler tab s11 8) := handler_sound tabOK mixed (callsOK_get (l := s11) ⟨c12, c16, c17, c29, c30, ⟨Tryz.func31, by kernel_rfl, by kernel_rfl⟩, ⟨Tryz.func32, by kernel_rfl, by kernel_rfl⟩, ⟨Tryz.func33, by kernel_rfl, by kernel_rfl⟩, c42, c63, c64, trivial⟩) 8
def n11 : Ann := (.seq .no (.seq .no (.seq (.seq (.join [(.normal, [.keep 2 2, .keep 3 3, .keep 4 4, .keep 7 7, .keep 8 8, .keep 17 17, .slot 30 false .bool, .obj 17 y11, .obj 3 y1, .obj 4 y11, .obj 7 y1, .obj 8 y2])] .no) .no) (.seq .no (.seq .no (.seq .no (.seq .no (.seq (.join [(.normal, [.keep 2 2, .keep 4 4, .slot 9 false yI, .keep 10 10, .slot 11 false .bool, .slot 12 false y30, .keep 17 17, .keep 36 36, .keep 37 37, .keep 39 39, .keep 40 40, .keep 41 41, .obj 17 y11, .obj 4 y11, .obj 41 y57])] (.seq (.join [(.normal, [.keep 2 2, .keep 4 4, .keep 10 10, .slot 11 false .bool, .slot 12 false y36, .keep 17 17, .keep 36 36, .keep 37 37, .keep 39 39, .keep 40 40, .keep 41 41, .slot 50 false .bool, .obj 17 y11, .obj 4 y11, .obj 41 y57])] .no) .no)) (.seq .no (.seq (.join [(.normal, [.keep 4 4, .slot 9 false yI, .keep 10 10, .slot 12 false y30, .keep 36 36, .keep 37 37, .keep 39 39, .keep 40 40, .keep 41 41, .keep 90 90, .keep 95 95, .keep 96 96, .keep 97 97, .obj 4 y11, .obj 96 y57])] .no) .no))))))))))
noncomputable abbrev b11 : Code := Tryz.f11.body.getD .skip
theorem e11 (x : denL i11) : evalF tab s11 8 Tryz.f11 b11 n11 i11 o11 x = g_encoder_Step x.1 x.2 := by kernel_rfl
theorem c11 : Contract P 11 i11 o11 (fun x => g_encoder_Step x.1 x.2) := evalF_contract tabOK mixed h11 Tryz.func11 (body := b11) (by kernel_rfl) (by kernel_rfl) e11
noncomputable def d11 : Nat × Callee := (11, .sem i11 o11 fun x => g_encoder_Step x.1 x.2)
abbrev i26 : List (Bool × Ty) := [(false, y30)]
abbrev o26 : List (Bool × Ty) := [(false, yI), (false, yI)]
def n40_26 : Ann := (.join [(.ret, [.slot 0 false y30, .nbox 2 y53])] .no)
def n41_26 : Ann := (.seq .no (.seq (.seq .no (.cond (.draw [0, 1, 2, 3, 4, 5, 6, 7, 8, 9, 10, 11, 12, 13, 14, 15, 16, 17, 18, 19, 20]) .no)) .no))
noncomputable def s26 : List (Nat × Callee) := [(40, .inl Tryz.f40 b40 n40_26), (41, .inl Tryz.f41 b41 n41_26), d60, d73, d74, d75]
theorem h26 : HOK P (handler tab s26 8) := handler_sound tabOK mixed (callsOK_get (l := s26) ⟨⟨Tryz.func40, by kernel_rfl, by kernel_rfl⟩, ⟨Tryz.func41, by kernel_rfl, by kernel_rfl⟩, c60, c73, c74, c75, trivial⟩) 8
def n26 : Ann := (.seq .no (.seq .no (.seq (.seq (.join [(.normal, [.keep 4 4, .slot 14 false .bool, .obj 4 yI])] .no) .no) .no)))
noncomputable abbrev b26 : Code := Tryz.f26.body.getD .skip
theorem e26 (x : denL i26) : evalF tab s26 8 Tryz.f26 b26 n26 i26 o26 x = g_frame_Kind x := by kernel_rfl
theorem c26 : Contract P 26 i26 o26 (fun x => g_frame_Kind x) := evalF_contract tabOK mixed h26 Tryz.func26 (body := b26) (by kernel_rfl) (by kernel_rfl) e26
noncomputable def d26 : Nat × Callee := (26, .sem i26 o26 fun x => g_frame_Kind x)
abbrev i9 : List (Bool × Ty) := []
abbrev o9 : List (Bool × Ty) := [(false, .bool)]
noncomputable def s9 : List (Nat × Callee) := [d10, d11, d26]
theorem h9 : HOK P (handler tab s9 8) := handler_sound tabOK mixed (callsOK_get (l := s9) ⟨c10, c11, c26, trivial⟩) 8
def n9 : Ann := .no
noncomputable abbrev b9 : Code := Tryz.f9.body.getD .skip
theorem e9 (x : denL i9) : evalF tab s9 8 Tryz.f9 b9 n9 i9 o9 x = g_law12_live := by kernel_rfl
theorem c9 : Contract P 9 i9 o9 (fun x => g_law12_live) := evalF_contract tabOK mixed h9 Tryz.func9 (body := b9) (by kernel_rfl) (by kernel_rfl) e9
noncomputable def d9 : Nat × Callee := (9, .sem i9 o9 fun x => g_law12_live)
abbrev i37 : List (Bool × Ty) := [(true, y1)]
abbrev o37 : List (Bool × Ty) := [(false, yI)]
noncomputable def s37 : List (Nat × Callee) := []
theorem h37 : HOK P (handler tab s37 8) := handler_sound tabOK mixed (callsOK_get (l := s37) trivial) 8
def n37 : Ann := (.seq .no (.seq (.seq .no (.blk (.loop [.slot 5 true y1, .slot 6 false yI] [(.exit 0, []), (.ret, [.slot 2 false yI])] (.seq .no (.seq .no (.seq (.blk (.seq .no (.seq (.join [(.normal, [.slot 5 true y1, .slot 6 false yI, .slot 14 false .bool])] .no) .no))) .no)))))) .no))
noncomputable abbrev b37 : Code := Tryz.f37.body.getD .skip
theorem e37 (x : denL i37) : evalF tab s37 8 Tryz.f37 b37 n37 i37 o37 x = g_r07_Check x := by kernel_rfl
theorem c37 : Contract P 37 i37 o37 (fun x => g_r07_Check x) := evalF_contract tabOK mixed h37 Tryz.func37 (body := b37) (by kernel_rfl) (by kernel_rfl) e37
noncomputable def d37 : Nat × Callee := (37, .sem i37 o37 fun x => g_r07_Check x)
abbrev i13 : List (Bool × Ty) := [(false, y58)]
abbrev o13 : List (Bool × Ty) := [(false, .bool)]
noncomputable def s13 : List (Nat × Callee) := [d37]
theorem h13 : HOK P (handler tab s13 8) := handler_sound tabOK mixed (callsOK_get (l := s13) ⟨c37, trivial⟩) 8
def n13 : Ann := (.seq .no (.seq (.seq .no (.blk (.loop [.slot 0 false y58, .slot 5 false y58, .slot 6 false yI, .slot 7 false yI] [(.exit 0, [.slot 0 false y58]), (.ret, [.slot 2 false .bool])] .no))) .no))
noncomputable abbrev b13 : Code := Tryz.f13.body.getD .skip
theorem e13 (x : denL i13) : evalF tab s13 8 Tryz.f13 b13 n13 i13 o13 x = g_law12_good x := by kernel_rfl
theorem c13 : Contract P 13 i13 o13 (fun x => g_law12_good x) := evalF_contract tabOK mixed h13 Tryz.func13 (body := b13) (by kernel_rfl) (by kernel_rfl) e13
noncomputable def d13 : Nat × Callee := (13, .sem i13 o13 fun x => g_law12_good x)
abbrev i4 : List (Bool × Ty) := [(false, y58)]
abbrev o4 : List (Bool × Ty) := [(false, .bool)]
noncomputable def s4 : List (Nat × Callee) := [d9, d10, d11, d12, d13]
theorem h4 : HOK P (handler tab s4 8) := handler_sound tabOK mixed (callsOK_get (l := s4) ⟨c9, c10, c11, c12, c13, trivial⟩) 8
def n4 : Ann := (.seq .no (.seq .no (.seq .no (.seq .no (.seq (.seq .no (.blk (.loop [.slot 3 false .bool, .keep 4 4, .slot 16 false y58, .slot 17 false yI, .slot 18 false yI, .obj 4 y11] [(.exit 0, [.slot 3 false .bool, .keep 4 4, .obj 4 y11]), (.ret, [.slot 2 false .bool])] (.seq .no (.seq .no (.seq (.blk (.seq .no (.seq .no (.seq (.seq (.join [(.normal, [.slot 3 false .bool, .keep 4 4, .keep 6 6, .keep 7 7, .slot 8 false y30, .slot 16 false y58, .slot 17 false yI, .slot 18 false yI, .slot 65 false .bool, .obj 4 y11, .obj 6 y1, .obj 7 y11])] .no) .no) (.seq (.seq (.join [(.normal, [.slot 3 false .bool, .keep 4 4, .keep 7 7, .slot 16 false y58, .slot 17 false yI, .slot 18 false yI, .slot 97 false .bool, .obj 4 y11, .obj 7 y11])] .no) .no) .no))))) .no)))))) .no)))))
noncomputable abbrev b4 : Code := Tryz.f4.body.getD .skip
theorem e4 (x : denL i4) : evalF tab s4 8 Tryz.f4 b4 n4 i4 o4 x = g_law12_EncoderCounts x := by kernel_rfl
theorem c4 : Contract P 4 i4 o4 (fun x => g_law12_EncoderCounts x) := evalF_contract tabOK mixed h4 Tryz.func4 (body := b4) (by kernel_rfl) (by kernel_rfl) e4
end Go.Rx
