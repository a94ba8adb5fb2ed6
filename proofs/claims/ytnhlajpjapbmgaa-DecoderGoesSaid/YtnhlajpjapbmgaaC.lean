/- Parts of a proof: evaluation of Go code over typed values, and what it computes. -/
import Derived.Test.YtnhlajpjapbmgaaX4
import Derived.Test.YtnhlajpjapbmgaaF
import Derived.KernelRfl
import Derived.Test.YtnhlajpjapbmgaaChecked
set_option linter.unusedSimpArgs false
set_option linter.unusedVariables false
set_option linter.unusedSectionVars false
set_option linter.unusedVariables false
set_option maxRecDepth 100000
namespace Go.Rx
open Go.Proofs Go.Sq

def tab : Tab := [
  (3, { td := .int .i64, size := 1, bytes := 8, ty := some (.int .i64), zc := [.int .i64 0] }),
  (4, { td := .bool, size := 1, bytes := 1, ty := some .bool, zc := [.bool false] }),
  (5, { td := .int .u8, size := 1, bytes := 1, ty := some (.int .u8), zc := [.int .u8 0] }),
  (9, { td := .str, size := 1, bytes := 16, ty := some .str, zc := [.str ByteArray.empty] }),
  (20, { td := .other, size := 1, bytes := 16, ty := none, zc := [.nili] }),
  (22, { td := .arr 16 3, size := 16, bytes := 128, ty := some (.arr 16 (.int .i64)), zc := [.arr 16 (.int .i64) (List.replicate 16 (dflt (.int .i64)))], eq := true }),
  (23, { td := .arr 16 3, size := 16, bytes := 128, ty := some (.arr 16 (.int .i64)), zc := [.arr 16 (.int .i64) (List.replicate 16 (dflt (.int .i64)))], eq := true }),
  (25, { td := .arr 6 3, size := 6, bytes := 48, ty := some (.arr 6 (.int .i64)), zc := [.arr 6 (.int .i64) (List.replicate 6 (dflt (.int .i64)))], eq := true }),
  (26, { td := .int .u32, size := 1, bytes := 4, ty := some (.int .u32), zc := [.int .u32 0] }),
  (28, { td := .st [(0, 23), (16, 25), (22, 4), (23, 4), (24, 26)], size := 25, bytes := 184, ty := some (.pair (.arr 16 (.int .i64)) (.pair (.arr 6 (.int .i64)) (.pair .bool (.pair .bool (.int .u32))))), zc := [.arr 16 (.int .i64) (List.replicate 16 (dflt (.int .i64))), .arr 6 (.int .i64) (List.replicate 6 (dflt (.int .i64))), .bool false, .bool false, .int .u32 0], eq := true }),
  (30, { td := .st [(0, 3), (1, 25), (7, 22)], size := 23, bytes := 184, ty := some (.pair (.int .i64) (.pair (.arr 6 (.int .i64)) (.arr 16 (.int .i64)))), zc := [.int .i64 0, .arr 6 (.int .i64) (List.replicate 6 (dflt (.int .i64))), .arr 16 (.int .i64) (List.replicate 16 (dflt (.int .i64)))] }),
  (31, { td := .sl 30, size := 1, bytes := 24, ty := some (.sl (.pair (.int .i64) (.pair (.arr 6 (.int .i64)) (.arr 16 (.int .i64))))), zc := [.nilsl] }),
  (33, { td := .int .i64, size := 1, bytes := 8, ty := some (.int .i64), zc := [.int .i64 0] }),
  (35, { td := .sl 5, size := 1, bytes := 24, ty := some (.sl (.int .u8)), zc := [.nilsl] }),
  (38, { td := .arr 16 3, size := 16, bytes := 128, ty := some (.arr 16 (.int .i64)), zc := [.arr 16 (.int .i64) (List.replicate 16 (dflt (.int .i64)))], eq := true }),
  (44, { td := .sl 35, size := 1, bytes := 24, ty := some (.sl (.sl (.int .u8))), zc := [.nilsl] }),
  (46, { td := .sl 38, size := 1, bytes := 24, ty := some (.sl (.arr 16 (.int .i64))), zc := [.nilsl] }),
  (55, { td := .sl 3, size := 1, bytes := 24, ty := some (.sl (.int .i64)), zc := [.nilsl] }),
  (56, { td := .sl 82, size := 1, bytes := 24, ty := some (.sl (.sl (.int .i64))), zc := [.nilsl] }),
  (60, { td := .st [(0, 35), (1, 3)], size := 2, bytes := 32, ty := some (.pair (.sl (.int .u8)) (.int .i64)), zc := [.nilsl, .int .i64 0] }),
  (63, { td := .ptr 66, size := 1, bytes := 8, ty := none, zc := [.nilp] }),
  (66, { td := .st [(0, 28), (25, 38), (41, 33)], size := 42, bytes := 320, ty := some (.pair (.pair (.arr 16 (.int .i64)) (.pair (.arr 6 (.int .i64)) (.pair .bool (.pair .bool (.int .u32))))) (.pair (.arr 16 (.int .i64)) (.int .i64))), zc := [.arr 16 (.int .i64) (List.replicate 16 (dflt (.int .i64))), .arr 6 (.int .i64) (List.replicate 6 (dflt (.int .i64))), .bool false, .bool false, .int .u32 0, .arr 16 (.int .i64) (List.replicate 16 (dflt (.int .i64))), .int .i64 0] }),
  (72, { td := .arr 16 3, size := 16, bytes := 128, ty := some (.arr 16 (.int .i64)), zc := [.arr 16 (.int .i64) (List.replicate 16 (dflt (.int .i64)))] }),
  (75, { td := .other, size := 1, bytes := 8, ty := none, zc := [.nilf] }),
  (79, { td := .ptr 30, size := 1, bytes := 8, ty := none, zc := [.nilp] }),
  (80, { td := .ptr 3, size := 1, bytes := 8, ty := none, zc := [.nilp] }),
  (82, { td := .st [(0, 55)], size := 1, bytes := 24, ty := some (.sl (.int .i64)), zc := [.nilsl] }),
  (83, { td := .other, size := 1, bytes := 8, ty := none, zc := [.nilf] }),
  (85, { td := .st [(0, 26), (1, 26), (2, 3), (3, 60)], size := 5, bytes := 48, ty := some (.pair (.int .u32) (.pair (.int .u32) (.pair (.int .i64) (.pair (.sl (.int .u8)) (.int .i64))))), zc := [.int .u32 0, .int .u32 0, .int .i64 0, .nilsl, .int .i64 0] }),
  (90, { td := .ptr 131, size := 1, bytes := 8, ty := none, zc := [.nilp] }),
  (95, { td := .arr 32 3, size := 32, bytes := 256, ty := some (.arr 32 (.int .i64)), zc := [.arr 32 (.int .i64) (List.replicate 32 (dflt (.int .i64)))] }),
  (96, { td := .arr 32 3, size := 32, bytes := 256, ty := some (.arr 32 (.int .i64)), zc := [.arr 32 (.int .i64) (List.replicate 32 (dflt (.int .i64)))] }),
  (102, { td := .st [(0, 3), (1, 3)], size := 2, bytes := 16, ty := some (.pair (.int .i64) (.int .i64)), zc := [.int .i64 0, .int .i64 0] }),
  (103, { td := .arr 16 102, size := 32, bytes := 256, ty := some (.arr 16 (.pair (.int .i64) (.int .i64))), zc := [.arr 16 (.pair (.int .i64) (.int .i64)) (List.replicate 16 (dflt (.pair (.int .i64) (.int .i64))))] }),
  (104, { td := .arr 6 3, size := 6, bytes := 48, ty := some (.arr 6 (.int .i64)), zc := [.arr 6 (.int .i64) (List.replicate 6 (dflt (.int .i64)))] }),
  (114, { td := .ptr 124, size := 1, bytes := 8, ty := none, zc := [.nilp] }),
  (120, { td := .int .u64, size := 1, bytes := 8, ty := some (.int .u64), zc := [.int .u64 0] }),
  (122, { td := .st [(0, 120), (1, 120)], size := 2, bytes := 16, ty := some (.pair (.int .u64) (.int .u64)), zc := [.int .u64 0, .int .u64 0] }),
  (124, { td := .st [(0, 122), (2, 3), (3, 60), (5, 33)], size := 6, bytes := 64, ty := some (.pair (.pair (.int .u64) (.int .u64)) (.pair (.int .i64) (.pair (.pair (.sl (.int .u8)) (.int .i64)) (.int .i64)))), zc := [.int .u64 0, .int .u64 0, .int .i64 0, .nilsl, .int .i64 0, .int .i64 0] }),
  (129, { td := .st [(0, 26), (1, 26), (2, 26), (3, 60), (5, 3)], size := 6, bytes := 56, ty := some (.pair (.int .u32) (.pair (.int .u32) (.pair (.int .u32) (.pair (.pair (.sl (.int .u8)) (.int .i64)) (.int .i64))))), zc := [.int .u32 0, .int .u32 0, .int .u32 0, .nilsl, .int .i64 0, .int .i64 0] }),
  (131, { td := .st [(0, 129), (6, 33)], size := 7, bytes := 64, ty := some (.pair (.pair (.int .u32) (.pair (.int .u32) (.pair (.int .u32) (.pair (.pair (.sl (.int .u8)) (.int .i64)) (.int .i64))))) (.int .i64)), zc := [.int .u32 0, .int .u32 0, .int .u32 0, .nilsl, .int .i64 0, .int .i64 0, .int .i64 0] }),
  (138, { td := .int .u64, size := 1, bytes := 8, ty := some (.int .u64), zc := [.int .u64 0] }),
  (140, { td := .arr 16 55, size := 16, bytes := 384, ty := some (.arr 16 (.sl (.int .i64))), zc := [.arr 16 (.sl (.int .i64)) (List.replicate 16 (dflt (.sl (.int .i64))))] }),
  (142, { td := .st [(0, 95), (32, 140)], size := 48, bytes := 640, ty := some (.pair (.arr 32 (.int .i64)) (.arr 16 (.sl (.int .i64)))), zc := [.arr 32 (.int .i64) (List.replicate 32 (dflt (.int .i64))), .arr 16 (.sl (.int .i64)) (List.replicate 16 (dflt (.sl (.int .i64))))] }),
  (153, { td := .other, size := 1, bytes := 8, ty := none, zc := [.nilf] }),
  (156, { td := .arr 7 3, size := 7, bytes := 56, ty := some (.arr 7 (.int .i64)), zc := [.arr 7 (.int .i64) (List.replicate 7 (dflt (.int .i64)))] }),
  (160, { td := .ptr 122, size := 1, bytes := 8, ty := none, zc := [.nilp] }),
  (175, { td := .ptr 184, size := 1, bytes := 8, ty := none, zc := [.nilp] }),
  (178, { td := .st [(0, 3), (1, 3)], size := 2, bytes := 16, ty := some (.pair (.int .i64) (.int .i64)), zc := [.int .i64 0, .int .i64 0] }),
  (184, { td := .arr 128 178, size := 256, bytes := 2048, ty := some (.arr 128 (.pair (.int .i64) (.int .i64))), zc := [.arr 128 (.pair (.int .i64) (.int .i64)) (List.replicate 128 (dflt (.pair (.int .i64) (.int .i64))))] }),
  (185, { td := .arr 8 178, size := 16, bytes := 128, ty := some (.arr 8 (.pair (.int .i64) (.int .i64))), zc := [.arr 8 (.pair (.int .i64) (.int .i64)) (List.replicate 8 (dflt (.pair (.int .i64) (.int .i64))))] }),
  (192, { td := .ptr 195, size := 1, bytes := 8, ty := none, zc := [.nilp] }),
  (193, { td := .other, size := 1, bytes := 8, ty := none, zc := [.nilf] }),
  (195, { td := .st [(0, 20), (1, 193)], size := 2, bytes := 24, ty := none, zc := [.nili, .nilf] })]

noncomputable abbrev P : Program := Try.prog
theorem tabOK : TabOK P tab := chkTab_sound (by kernel_rfl)
theorem mixed : P.follows .mixedOrders = true := by kernel_rfl

noncomputable def bd89 : BackD := ⟨15, 0, 1, 2, 3, 0, 1, 8, 18, 11, 12, 16, 17, rO (cF (Try.f89.body.getD .skip)), rO (cF (cF (bkL (Try.f89.body.getD .skip)))), rO (cS (cS (bkL (Try.f89.body.getD .skip)))), (bkO (Try.f89.body.getD .skip)).take 6, (bkO (Try.f89.body.getD .skip)).drop 7, hdO ((bkO (Try.f89.body.getD .skip)).drop 6), atO (hdO ((bkO (Try.f89.body.getD .skip)).drop 6))⟩
theorem bk89 : BackOK P tab 89 6 bd89 := ⟨⟨Try.f89, Try.func89, by kernel_rfl, by kernel_rfl, by kernel_rfl, by kernel_rfl⟩, fun y l => by kernel_rfl, fun y i => by kernel_rfl, fun y l i => tk_bif (c := within i 6) (S := bkS 6 15 y l i) (by kernel_rfl) (by kernel_rfl), ⟨by kernel_rfl, by kernel_rfl, by kernel_rfl⟩, by decide, fun y i b => by kernel_rfl, fun y i => by kernel_rfl⟩

noncomputable abbrev b20 : Code := Try.f20.body.getD .skip
noncomputable abbrev b21 : Code := Try.f21.body.getD .skip
noncomputable abbrev b23 : Code := Try.f23.body.getD .skip
noncomputable abbrev b24 : Code := Try.f24.body.getD .skip
noncomputable abbrev b25 : Code := Try.f25.body.getD .skip
noncomputable abbrev b32 : Code := Try.f32.body.getD .skip
noncomputable abbrev b33 : Code := Try.f33.body.getD .skip
noncomputable abbrev b37 : Code := Try.f37.body.getD .skip
noncomputable abbrev b38 : Code := Try.f38.body.getD .skip
noncomputable abbrev b52 : Code := Try.f52.body.getD .skip
noncomputable abbrev b54 : Code := Try.f54.body.getD .skip
noncomputable abbrev b56 : Code := Try.f56.body.getD .skip
noncomputable abbrev b58 : Code := Try.f58.body.getD .skip
noncomputable abbrev b72 : Code := Try.f72.body.getD .skip
noncomputable abbrev b80 : Code := Try.f80.body.getD .skip
noncomputable abbrev b94 : Code := Try.f94.body.getD .skip
noncomputable abbrev b106 : Code := Try.f106.body.getD .skip
noncomputable abbrev b107 : Code := Try.f107.body.getD .skip
abbrev yI : Ty := .int .i64
abbrev y1 : Ty := .arr 16 yI
abbrev y2 : Ty := .arr 6 yI
abbrev yW : Ty := .int .u32
abbrev y4 : Ty := .pair .bool yW
abbrev y5 : Ty := .pair .bool y4
abbrev y6 : Ty := .pair y2 y5
abbrev y7 : Ty := .pair y1 y6
abbrev y8 : Ty := .sl yI
abbrev y9 : Ty := .arr 32 yI
abbrev y10 : Ty := .arr 7 yI
abbrev yU : Ty := .int .u64
abbrev y12 : Ty := .pair yI yI
abbrev y13 : Ty := .arr 8 y12
abbrev y14 : Ty := .arr 128 y12
abbrev y15 : Ty := .own yI
abbrev y16 : Ty := .arr 16 y8
abbrev y17 : Ty := .pair y9 y16
abbrev y18 : Ty := .pair y1 yI
abbrev y19 : Ty := .pair y7 y18
abbrev y20 : Ty := .arr 16 y12
abbrev y21 : Ty := .pair y2 y1
abbrev y22 : Ty := .pair yI y21
abbrev y23 : Ty := .sl y8
abbrev y24 : Ty := .own y8
abbrev yB : Ty := .int .u8
abbrev y26 : Ty := .sl yB
abbrev y27 : Ty := .pair y26 yI
abbrev y28 : Ty := .pair yI y27
abbrev y29 : Ty := .pair yW y28
abbrev y30 : Ty := .pair yW y29
abbrev y31 : Ty := .pair yU yU
abbrev y32 : Ty := .own yB
abbrev y33 : Ty := .pair y32 yI
abbrev y34 : Ty := .pair yI y33
abbrev y35 : Ty := .pair yW y34
abbrev y36 : Ty := .pair yW y35
abbrev y37 : Ty := .pair y27 yI
abbrev y38 : Ty := .pair yI y37
abbrev y39 : Ty := .pair y31 y38
abbrev y40 : Ty := .pair y33 yI
abbrev y41 : Ty := .pair yI y40
abbrev y42 : Ty := .pair y31 y41
abbrev y43 : Ty := .pair yW y37
abbrev y44 : Ty := .pair yW y43
abbrev y45 : Ty := .pair yW y44
abbrev y46 : Ty := .pair yW y40
abbrev y47 : Ty := .pair yW y46
abbrev y48 : Ty := .pair yW y47
abbrev y49 : Ty := .pair y45 yI
abbrev y50 : Ty := .sl y22
abbrev y51 : Ty := .sl y26
abbrev y52 : Ty := .own y1
abbrev y53 : Ty := .sl y1
abbrev i13 : List (Bool × Ty) := []
abbrev o13 : List (Bool × Ty) := [(true, y7)]
noncomputable def s13 : List (Nat × Callee) := []
theorem h13 : HOK P (handler tab s13 8) := handler_sound tabOK mixed (callsOK_get (l := s13) trivial) 8
def n13 : Ann := .no
noncomputable abbrev b13 : Code := Try.f13.body.getD .skip
theorem e13 (x : denL i13) : evalF tab s13 8 Try.f13 b13 n13 i13 o13 x = g_decoder_Start := by kernel_rfl
theorem c13 : Contract P 13 i13 o13 (fun x => g_decoder_Start) := evalF_contract tabOK mixed h13 Try.func13 (body := b13) (by kernel_rfl) (by kernel_rfl) e13
noncomputable def d13 : Nat × Callee := (13, .sem i13 o13 fun x => g_decoder_Start)

abbrev i64 : List (Bool × Ty) := [(false, y8), (false, yI)]
abbrev o64 : List (Bool × Ty) := [(false, .bool)]
noncomputable def s64 : List (Nat × Callee) := []
theorem h64 : HOK P (handler tab s64 8) := handler_sound tabOK mixed (callsOK_get (l := s64) trivial) 8
def n64 : Ann := (.seq .no (.seq (.seq .no (.blk (.loop [.slot 1 false yI, .slot 7 false y8, .slot 8 false yI, .slot 9 false yI] [(.exit 0, []), (.ret, [.slot 4 false .bool])] (.seq .no (.seq .no (.seq (.blk (.seq .no (.seq (.join [(.normal, [.slot 1 false yI, .slot 7 false y8, .slot 8 false yI, .slot 9 false yI, .slot 21 false .bool])] .no) .no))) .no)))))) .no))
noncomputable abbrev b64 : Code := Try.f64.body.getD .skip
theorem e64 (x : denL i64) : evalF tab s64 8 Try.f64 b64 n64 i64 o64 x = g_lapped_bounded x.1 x.2 := by kernel_rfl
theorem c64 : Contract P 64 i64 o64 (fun x => g_lapped_bounded x.1 x.2) := evalF_contract tabOK mixed h64 Try.func64 (body := b64) (by kernel_rfl) (by kernel_rfl) e64
noncomputable def d64 : Nat × Callee := (64, .sem i64 o64 fun x => g_lapped_bounded x.1 x.2)

abbrev i63 : List (Bool × Ty) := [(false, yI), (false, yI)]
abbrev o63 : List (Bool × Ty) := [(false, yI)]
noncomputable def s63 : List (Nat × Callee) := []
theorem h63 : HOK P (handler tab s63 8) := handler_sound tabOK mixed (callsOK_get (l := s63) trivial) 8
def n63 : Ann := (.seq .no (.seq .no (.seq (.draw [0, 1, 2, 3, 4, 5, 6, 7, 8, 9]) .no)))
noncomputable abbrev b63 : Code := Try.f63.body.getD .skip
theorem e63 (x : denL i63) : evalF tab s63 8 Try.f63 b63 n63 i63 o63 x = g_fixed_Round x.1 x.2 := by kernel_rfl
theorem c63 : Contract P 63 i63 o63 (fun x => g_fixed_Round x.1 x.2) := evalF_contract tabOK mixed h63 Try.func63 (body := b63) (by kernel_rfl) (by kernel_rfl) e63
noncomputable def d63 : Nat × Callee := (63, .sem i63 o63 fun x => g_fixed_Round x.1 x.2)

abbrev i87 : List (Bool × Ty) := [(false, yI), (false, yI), (false, yI)]
abbrev o87 : List (Bool × Ty) := [(false, yI)]
noncomputable def s87 : List (Nat × Callee) := []
theorem h87 : HOK P (handler tab s87 8) := handler_sound tabOK mixed (callsOK_get (l := s87) trivial) 8
def n87 : Ann := .no
noncomputable abbrev b87 : Code := Try.f87.body.getD .skip
theorem e87 (x : denL i87) : evalF tab s87 8 Try.f87 b87 n87 i87 o87 x = g_fixed_within x.1 x.2.1 x.2.2 := by kernel_rfl
theorem c87 : Contract P 87 i87 o87 (fun x => g_fixed_within x.1 x.2.1 x.2.2) := evalF_contract tabOK mixed h87 Try.func87 (body := b87) (by kernel_rfl) (by kernel_rfl) e87
noncomputable def d87 : Nat × Callee := (87, .sem i87 o87 fun x => g_fixed_within x.1 x.2.1 x.2.2)

abbrev i66 : List (Bool × Ty) := [(false, yI), (false, yI)]
abbrev o66 : List (Bool × Ty) := [(false, yI)]
noncomputable def s66 : List (Nat × Callee) := [d87]
theorem h66 : HOK P (handler tab s66 8) := handler_sound tabOK mixed (callsOK_get (l := s66) ⟨c87, trivial⟩) 8
def n66 : Ann := .no
noncomputable abbrev b66 : Code := Try.f66.body.getD .skip
theorem e66 (x : denL i66) : evalF tab s66 8 Try.f66 b66 n66 i66 o66 x = g_fixed_Sat x.1 x.2 := by kernel_rfl
theorem c66 : Contract P 66 i66 o66 (fun x => g_fixed_Sat x.1 x.2) := evalF_contract tabOK mixed h66 Try.func66 (body := b66) (by kernel_rfl) (by kernel_rfl) e66
noncomputable def d66 : Nat × Callee := (66, .sem i66 o66 fun x => g_fixed_Sat x.1 x.2)

abbrev i42 : List (Bool × Ty) := [(true, y1), (true, y9)]
abbrev o42 : List (Bool × Ty) := [(true, y1), (true, y1), (false, yI)]
noncomputable def s42 : List (Nat × Callee) := [d63, d64, d66]
theorem h42 : HOK P (handler tab s42 8) := handler_sound tabOK mixed (callsOK_get (l := s42) ⟨c63, c64, c66, trivial⟩) 8
def n42 : Ann := (.seq .no (.seq (.seq (.join [(.normal, [.keep 2 2, .keep 3 3, .keep 4 4, .keep 5 5, .slot 15 false .bool, .obj 2 y1, .obj 3 y9, .obj 4 y1, .obj 5 y1])] .no) (.cond (.seq (.draw [0, 1, 2, 3, 4]) .no) .no)) (.seq (.seq .no (.blk (.loop [.keep 2 2, .keep 3 3, .keep 4 4, .keep 5 5, .slot 18 false yI, .obj 2 y1, .obj 3 y9, .obj 4 y1, .obj 5 y1] [(.exit 0, [.keep 3 3, .keep 4 4, .keep 5 5, .obj 3 y9, .obj 4 y1, .obj 5 y1])] (.seq .no (.seq .no (.seq (.blk (.seq .no (.draw [0, 1, 2, 3, 4, 5, 6, 7, 8, 9, 10, 11]))) .no)))))) (.seq (.draw [0, 1, 2]) (.seq (.draw [0, 1, 2, 3, 4]) .no)))))
noncomputable abbrev b42 : Code := Try.f42.body.getD .skip
theorem e42 (x : denL i42) : evalF tab s42 8 Try.f42 b42 n42 i42 o42 x = g_lapped_Lap x.1 x.2 := by kernel_rfl
theorem c42 : Contract P 42 i42 o42 (fun x => g_lapped_Lap x.1 x.2) := evalF_contract tabOK mixed h42 Try.func42 (body := b42) (by kernel_rfl) (by kernel_rfl) e42
noncomputable def d42 : Nat × Callee := (42, .sem i42 o42 fun x => g_lapped_Lap x.1 x.2)

abbrev i29 : List (Bool × Ty) := [(true, y2)]
abbrev o29 : List (Bool × Ty) := [(false, yI)]
noncomputable def s29 : List (Nat × Callee) := []
theorem h29 : HOK P (handler tab s29 8) := handler_sound tabOK mixed (callsOK_get (l := s29) trivial) 8
def n29 : Ann := (.seq .no (.seq .no (.seq (.seq .no (.blk (.loop [.keep 1 1, .keep 3 3, .slot 7 true y2, .slot 8 false yI, .obj 1 y2, .obj 3 y2] [(.exit 0, [.keep 1 1, .keep 3 3, .obj 1 y2, .obj 3 y2])] .no))) .no)))
noncomputable abbrev b29 : Code := Try.f29.body.getD .skip
theorem e29 (x : denL i29) : evalF tab s29 8 Try.f29 b29 n29 i29 o29 x = g_bands_Check x := by kernel_rfl
theorem c29 : Contract P 29 i29 o29 (fun x => g_bands_Check x) := evalF_contract tabOK mixed h29 Try.func29 (body := b29) (by kernel_rfl) (by kernel_rfl) e29
noncomputable def d29 : Nat × Callee := (29, .sem i29 o29 fun x => g_bands_Check x)

abbrev i27 : List (Bool × Ty) := [(true, y7)]
abbrev o27 : List (Bool × Ty) := [(false, yI)]
noncomputable def s27 : List (Nat × Callee) := [d29, d42]
theorem h27 : HOK P (handler tab s27 8) := handler_sound tabOK mixed (callsOK_get (l := s27) ⟨c29, c42, trivial⟩) 8
def n27 : Ann := (.seq .no (.seq (.seq .no (.seq (.join [(.normal, [.keep 1 1, .keep 7 7, .slot 23 false .bool, .obj 7 y7])] .no) .no)) .no))
noncomputable abbrev b27 : Code := Try.f27.body.getD .skip
theorem e27 (x : denL i27) : evalF tab s27 8 Try.f27 b27 n27 i27 o27 x = g_decoder_Check x := by kernel_rfl
theorem c27 : Contract P 27 i27 o27 (fun x => g_decoder_Check x) := evalF_contract tabOK mixed h27 Try.func27 (body := b27) (by kernel_rfl) (by kernel_rfl) e27
noncomputable def d27 : Nat × Callee := (27, .sem i27 o27 fun x => g_decoder_Check x)

abbrev i74 : List (Bool × Ty) := []
abbrev o74 : List (Bool × Ty) := [(true, y10)]
noncomputable def s74 : List (Nat × Callee) := []
theorem h74 : HOK P (handler tab s74 8) := handler_sound tabOK mixed (callsOK_get (l := s74) trivial) 8
def n74 : Ann := .no
noncomputable abbrev b74 : Code := Try.f74.body.getD .skip
theorem e74 (x : denL i74) : evalF tab s74 8 Try.f74 b74 n74 i74 o74 x = g_bands_edges := by kernel_rfl
theorem c74 : Contract P 74 i74 o74 (fun x => g_bands_edges) := evalF_contract tabOK mixed h74 Try.func74 (body := b74) (by kernel_rfl) (by kernel_rfl) e74
noncomputable def d74 : Nat × Callee := (74, .sem i74 o74 fun x => g_bands_edges)

abbrev i49 : List (Bool × Ty) := [(false, yI)]
abbrev o49 : List (Bool × Ty) := [(false, yI), (false, yI)]
noncomputable def s49 : List (Nat × Callee) := [d74]
theorem h49 : HOK P (handler tab s49 8) := handler_sound tabOK mixed (callsOK_get (l := s49) ⟨c74, trivial⟩) 8
def n49 : Ann := (.seq .no (.seq (.seq (.join [(.normal, [.slot 0 false yI, .slot 11 false .bool])] .no) .no) (.seq .no (.seq .no (.seq (.blk (.loop [.slot 0 false yI, .keep 4 4, .slot 5 false yI, .obj 4 y10] [(.exit 0, [.slot 5 false yI])] .no)) .no)))))
noncomputable abbrev b49 : Code := Try.f49.body.getD .skip
theorem e49 (x : denL i49) : evalF tab s49 8 Try.f49 b49 n49 i49 o49 x = g_bands_Of x := by kernel_rfl
theorem c49 : Contract P 49 i49 o49 (fun x => g_bands_Of x) := evalF_contract tabOK mixed h49 Try.func49 (body := b49) (by kernel_rfl) (by kernel_rfl) e49
noncomputable def d49 : Nat × Callee := (49, .sem i49 o49 fun x => g_bands_Of x)

abbrev i62 : List (Bool × Ty) := [(false, yI)]
abbrev o62 : List (Bool × Ty) := [(false, yI), (false, yI)]
noncomputable def s62 : List (Nat × Callee) := []
theorem h62 : HOK P (handler tab s62 8) := handler_sound tabOK mixed (callsOK_get (l := s62) trivial) 8
def n62 : Ann := (.seq .no (.seq (.seq (.join [(.normal, [.slot 0 false yI, .slot 9 false .bool])] .no) .no) .no))
noncomputable abbrev b62 : Code := Try.f62.body.getD .skip
theorem e62 (x : denL i62) : evalF tab s62 8 Try.f62 b62 n62 i62 o62 x = g_quant_Peak x := by kernel_rfl
theorem c62 : Contract P 62 i62 o62 (fun x => g_quant_Peak x) := evalF_contract tabOK mixed h62 Try.func62 (body := b62) (by kernel_rfl) (by kernel_rfl) e62
noncomputable def d62 : Nat × Callee := (62, .sem i62 o62 fun x => g_quant_Peak x)

abbrev i44 : List (Bool × Ty) := [(false, yI)]
abbrev o44 : List (Bool × Ty) := [(false, yI)]
noncomputable def s44 : List (Nat × Callee) := []
theorem h44 : HOK P (handler tab s44 8) := handler_sound tabOK mixed (callsOK_get (l := s44) trivial) 8
def n44 : Ann := .no
noncomputable abbrev b44 : Code := Try.f44.body.getD .skip
theorem e44 (x : denL i44) : evalF tab s44 8 Try.f44 b44 n44 i44 o44 x = g_quant_held x := by kernel_rfl
theorem c44 : Contract P 44 i44 o44 (fun x => g_quant_held x) := evalF_contract tabOK mixed h44 Try.func44 (body := b44) (by kernel_rfl) (by kernel_rfl) e44
noncomputable def d44 : Nat × Callee := (44, .sem i44 o44 fun x => g_quant_held x)

abbrev i40 : List (Bool × Ty) := [(false, yW), (true, y2)]
abbrev o40 : List (Bool × Ty) := [(true, y1), (false, yW), (false, yI)]
noncomputable def s40 : List (Nat × Callee) := [d29, d44, d49, d62, d63]
theorem h40 : HOK P (handler tab s40 8) := handler_sound tabOK mixed (callsOK_get (l := s40) ⟨c29, c44, c49, c62, c63, trivial⟩) 8
def n40 : Ann := (.seq .no (.seq .no (.seq (.seq .no (.blk (.loop [.slot 0 false yW, .keep 3 3, .keep 4 4, .slot 19 false yI, .obj 3 y2, .obj 4 y1] [(.exit 0, [.slot 0 false yW, .keep 4 4, .obj 4 y1])] (.seq .no (.seq .no (.seq (.join [(.normal, [.slot 0 false yW, .keep 3 3, .keep 4 4, .slot 19 false yI, .obj 3 y2, .obj 4 y1])] .no) .no)))))) .no)))
noncomputable abbrev b40 : Code := Try.f40.body.getD .skip
theorem e40 (x : denL i40) : evalF tab s40 8 Try.f40 b40 n40 i40 o40 x = g_quant_Noise x.1 x.2 := by kernel_rfl
theorem c40 : Contract P 40 i40 o40 (fun x => g_quant_Noise x.1 x.2) := evalF_contract tabOK mixed h40 Try.func40 (body := b40) (by kernel_rfl) (by kernel_rfl) e40
noncomputable def d40 : Nat × Callee := (40, .sem i40 o40 fun x => g_quant_Noise x.1 x.2)

abbrev i97 : List (Bool × Ty) := [(false, yU)]
abbrev o97 : List (Bool × Ty) := [(false, yI)]
noncomputable def s97 : List (Nat × Callee) := []
theorem h97 : HOK P (handler tab s97 8) := handler_sound tabOK mixed (callsOK_get (l := s97) trivial) 8
def n97 : Ann := (.seq .no (.seq (.join [(.normal, [.slot 0 false yU, .slot 2 false yI])] .no) (.seq (.join [(.normal, [.slot 0 false yU, .slot 2 false yI])] .no) (.seq (.join [(.normal, [.slot 0 false yU, .slot 2 false yI])] .no) .no))))
noncomputable abbrev b97 : Code := Try.f97.body.getD .skip
theorem e97 (x : denL i97) : evalF tab s97 8 Try.f97 b97 n97 i97 o97 x = g_math_bits_Len64 x := by kernel_rfl
theorem c97 : Contract P 97 i97 o97 (fun x => g_math_bits_Len64 x) := evalF_contract tabOK mixed h97 Try.func97 (body := b97) (by kernel_rfl) (by kernel_rfl) e97
noncomputable def d97 : Nat × Callee := (97, .sem i97 o97 fun x => g_math_bits_Len64 x)

abbrev i108 : List (Bool × Ty) := [(false, yU)]
abbrev o108 : List (Bool × Ty) := [(false, yU)]
noncomputable def s108 : List (Nat × Callee) := [d97]
theorem h108 : HOK P (handler tab s108 8) := handler_sound tabOK mixed (callsOK_get (l := s108) ⟨c97, trivial⟩) 8
def n108 : Ann := (.seq .no (.seq .no (.seq .no (.blk (.loop [.slot 0 false yU, .slot 3 false yU] [(.ret, [.slot 2 false yU])] .no)))))
noncomputable abbrev b108 : Code := Try.f108.body.getD .skip
theorem e108 (x : denL i108) : evalF tab s108 8 Try.f108 b108 n108 i108 o108 x = g_fixed_Sqrt x := by kernel_rfl
theorem c108 : Contract P 108 i108 o108 (fun x => g_fixed_Sqrt x) := evalF_contract tabOK mixed h108 Try.func108 (body := b108) (by kernel_rfl) (by kernel_rfl) e108
noncomputable def d108 : Nat × Callee := (108, .sem i108 o108 fun x => g_fixed_Sqrt x)

abbrev i101 : List (Bool × Ty) := []
abbrev o101 : List (Bool × Ty) := [(true, y13)]
noncomputable def s101 : List (Nat × Callee) := [d108]
theorem h101 : HOK P (handler tab s101 8) := handler_sound tabOK mixed (callsOK_get (l := s101) ⟨c108, trivial⟩) 8
def n101 : Ann := (.seq .no (.seq .no (.seq (.seq .no (.blk (.loop [.keep 0 0, .slot 1 false yI, .obj 0 y13] [(.exit 0, [.keep 0 0, .obj 0 y13])] .no))) .no)))
noncomputable abbrev b101 : Code := Try.f101.body.getD .skip
theorem e101 (x : denL i101) : evalF tab s101 8 Try.f101 b101 n101 i101 o101 x = g_table_halves := by kernel_rfl
theorem c101 : Contract P 101 i101 o101 (fun x => g_table_halves) := evalF_contract tabOK mixed h101 Try.func101 (body := b101) (by kernel_rfl) (by kernel_rfl) e101
noncomputable def d101 : Nat × Callee := (101, .sem i101 o101 fun x => g_table_halves)

abbrev i102 : List (Bool × Ty) := [(true, y12), (true, y12)]
abbrev o102 : List (Bool × Ty) := [(true, y12)]
noncomputable def s102 : List (Nat × Callee) := [d63]
theorem h102 : HOK P (handler tab s102 8) := handler_sound tabOK mixed (callsOK_get (l := s102) ⟨c63, trivial⟩) 8
def n102 : Ann := (.seq .no (.seq (.draw [0, 1, 2, 3, 4, 5, 6, 7, 8, 9, 10, 11, 12, 13, 14, 15, 16, 17, 18, 19, 20, 21, 22, 23, 24, 25]) .no))
noncomputable abbrev b102 : Code := Try.f102.body.getD .skip
theorem e102 (x : denL i102) : evalF tab s102 8 Try.f102 b102 n102 i102 o102 x = g_table_point_turned x.1 x.2 := by kernel_rfl
theorem c102 : Contract P 102 i102 o102 (fun x => g_table_point_turned x.1 x.2) := evalF_contract tabOK mixed h102 Try.func102 (body := b102) (by kernel_rfl) (by kernel_rfl) e102
noncomputable def d102 : Nat × Callee := (102, .sem i102 o102 fun x => g_table_point_turned x.1 x.2)

abbrev i100 : List (Bool × Ty) := [(false, yI)]
abbrev o100 : List (Bool × Ty) := [(true, y12)]
def n94_100 : Ann := (.seq .no (.seq .no (.seq .no (.seq (.seq .no (.blk (.loop [.keep 1 1, .keep 2 2, .slot 7 false yI, .obj 1 y14, .obj 2 y13] [(.exit 0, [.keep 1 1, .obj 1 y14])] (.seq .no (.seq .no (.seq (.blk (.seq .no (.seq .no (.seq (.seq .no (.blk (.loop [.keep 1 1, .keep 2 2, .slot 3 false yI, .keep 4 4, .slot 5 false yI, .slot 7 false yI, .obj 1 y14, .obj 2 y13, .obj 4 y12] [(.exit 2, [.keep 1 1, .keep 2 2, .slot 3 false yI, .keep 4 4, .slot 7 false yI, .obj 1 y14, .obj 2 y13, .obj 4 y12])] (.seq .no (.seq (.join [(.normal, [.keep 1 1, .keep 2 2, .slot 3 false yI, .keep 4 4, .slot 5 false yI, .slot 7 false yI, .obj 1 y14, .obj 2 y13, .obj 4 y12])] (.blk (.seq .no (.cond (.draw [0, 1, 2, 3, 4, 5]) .no)))) .no))))) .no)))) .no)))))) .no))))
def n106_100 : Ann := .no
def n107_100 : Ann := .no
noncomputable def s100 : List (Nat × Callee) := [(94, .inl Try.f94 b94 n94_100), d101, d102, (106, .inl Try.f106 b106 n106_100), (107, .inl Try.f107 b107 n107_100)]
theorem h100 : HOK P (handler tab s100 8) := handler_sound tabOK mixed (callsOK_get (l := s100) ⟨⟨Try.func94, by kernel_rfl, by kernel_rfl⟩, c101, c102, ⟨Try.func106, by kernel_rfl, by kernel_rfl⟩, ⟨Try.func107, by kernel_rfl, by kernel_rfl⟩, trivial⟩) 8
def n100 : Ann := .no
noncomputable abbrev b100 : Code := Try.f100.body.getD .skip
theorem e100 (x : denL i100) : evalF tab s100 8 Try.f100 b100 n100 i100 o100 x = g_table_at x := by kernel_rfl
theorem c100 : Contract P 100 i100 o100 (fun x => g_table_at x) := evalF_contract tabOK mixed h100 Try.func100 (body := b100) (by kernel_rfl) (by kernel_rfl) e100
noncomputable def d100 : Nat × Callee := (100, .sem i100 o100 fun x => g_table_at x)

abbrev i93 : List (Bool × Ty) := [(false, yI)]
abbrev o93 : List (Bool × Ty) := [(false, yI)]
noncomputable def s93 : List (Nat × Callee) := [d63, d100]
theorem h93 : HOK P (handler tab s93 8) := handler_sound tabOK mixed (callsOK_get (l := s93) ⟨c63, c100, trivial⟩) 8
def n93 : Ann := .no
noncomputable abbrev b93 : Code := Try.f93.body.getD .skip
theorem e93 (x : denL i93) : evalF tab s93 8 Try.f93 b93 n93 i93 o93 x = g_table_Sin x := by kernel_rfl
theorem c93 : Contract P 93 i93 o93 (fun x => g_table_Sin x) := evalF_contract tabOK mixed h93 Try.func93 (body := b93) (by kernel_rfl) (by kernel_rfl) e93
noncomputable def d93 : Nat × Callee := (93, .sem i93 o93 fun x => g_table_Sin x)

abbrev i85 : List (Bool × Ty) := [(false, yI)]
abbrev o85 : List (Bool × Ty) := [(false, yI), (false, yI)]
noncomputable def s85 : List (Nat × Callee) := [d93]
theorem h85 : HOK P (handler tab s85 8) := handler_sound tabOK mixed (callsOK_get (l := s85) ⟨c93, trivial⟩) 8
def n85 : Ann := (.seq .no (.seq (.seq (.join [(.normal, [.slot 0 false yI, .slot 9 false .bool])] .no) .no) .no))
noncomputable abbrev b85 : Code := Try.f85.body.getD .skip
theorem e85 (x : denL i85) : evalF tab s85 8 Try.f85 b85 n85 i85 o85 x = g_table_Window x := by kernel_rfl
theorem c85 : Contract P 85 i85 o85 (fun x => g_table_Window x) := evalF_contract tabOK mixed h85 Try.func85 (body := b85) (by kernel_rfl) (by kernel_rfl) e85
noncomputable def d85 : Nat × Callee := (85, .sem i85 o85 fun x => g_table_Window x)

abbrev i95 : List (Bool × Ty) := [(false, yI), (false, yI)]
abbrev o95 : List (Bool × Ty) := [(false, yI)]
noncomputable def s95 : List (Nat × Callee) := []
theorem h95 : HOK P (handler tab s95 8) := handler_sound tabOK mixed (callsOK_get (l := s95) trivial) 8
def n95 : Ann := .no
noncomputable abbrev b95 : Code := Try.f95.body.getD .skip
theorem e95 (x : denL i95) : evalF tab s95 8 Try.f95 b95 n95 i95 o95 x = g_table_kernel x.1 x.2 := by kernel_rfl
theorem c95 : Contract P 95 i95 o95 (fun x => g_table_kernel x.1 x.2) := evalF_contract tabOK mixed h95 Try.func95 (body := b95) (by kernel_rfl) (by kernel_rfl) e95
noncomputable def d95 : Nat × Callee := (95, .sem i95 o95 fun x => g_table_kernel x.1 x.2)

abbrev i86 : List (Bool × Ty) := [(false, yI)]
abbrev o86 : List (Bool × Ty) := [(false, y8), (false, yI)]
def n94_86 : Ann := (.seq .no (.seq .no (.seq .no (.seq (.seq .no (.blk (.loop [.keep 1 1, .keep 2 2, .slot 7 false yI, .obj 1 y14, .obj 2 y13] [(.exit 0, [.keep 1 1, .obj 1 y14])] (.seq .no (.seq .no (.seq (.blk (.seq .no (.seq .no (.seq (.seq .no (.blk (.loop [.keep 1 1, .keep 2 2, .slot 3 false yI, .keep 4 4, .slot 5 false yI, .slot 7 false yI, .obj 1 y14, .obj 2 y13, .obj 4 y12] [(.exit 2, [.keep 1 1, .keep 2 2, .slot 3 false yI, .keep 4 4, .slot 7 false yI, .obj 1 y14, .obj 2 y13, .obj 4 y12])] (.seq .no (.seq (.join [(.normal, [.keep 1 1, .keep 2 2, .slot 3 false yI, .keep 4 4, .slot 5 false yI, .slot 7 false yI, .obj 1 y14, .obj 2 y13, .obj 4 y12])] (.blk (.seq .no (.cond (.draw [0, 1, 2, 3, 4, 5]) .no)))) .no))))) .no)))) .no)))))) .no))))
noncomputable def s86 : List (Nat × Callee) := [d63, (94, .inl Try.f94 b94 n94_86), d95, d101, d102]
theorem h86 : HOK P (handler tab s86 8) := handler_sound tabOK mixed (callsOK_get (l := s86) ⟨c63, ⟨Try.func94, by kernel_rfl, by kernel_rfl⟩, c95, c101, c102, trivial⟩) 8
def n86 : Ann := (.seq .no (.seq (.seq (.join [(.normal, [.slot 0 false yI, .slot 12 false .bool])] .no) .no) (.seq .no (.seq .no (.seq (.seq .no (.blk (.loop [.slot 0 false yI, .keep 4 4, .slot 5 false y15, .keep 13 13, .slot 16 false yI, .slot 17 false yI, .obj 13 y14] [(.exit 0, [.slot 5 false y15])] (.seq .no (.seq .no (.seq (.blk (.seq .no (.draw [0, 1, 2, 3, 4, 5, 6, 7, 8, 9, 10, 11, 12, 13]))) .no)))))) .no)))))
noncomputable abbrev b86 : Code := Try.f86.body.getD .skip
theorem e86 (x : denL i86) : evalF tab s86 8 Try.f86 b86 n86 i86 o86 x = g_table_Row x := by kernel_rfl
theorem c86 : Contract P 86 i86 o86 (fun x => g_table_Row x) := evalF_contract tabOK mixed h86 Try.func86 (body := b86) (by kernel_rfl) (by kernel_rfl) e86
noncomputable def d86 : Nat × Callee := (86, .sem i86 o86 fun x => g_table_Row x)

abbrev i65 : List (Bool × Ty) := []
abbrev o65 : List (Bool × Ty) := [(true, y17), (false, yI)]
noncomputable def s65 : List (Nat × Callee) := [d85, d86]
theorem h65 : HOK P (handler tab s65 8) := handler_sound tabOK mixed (callsOK_get (l := s65) ⟨c85, c86, trivial⟩) 8
def n65 : Ann := (.seq .no (.seq (.seq .no (.blk (.loop [.keep 0 0, .slot 4 false yI, .obj 0 y17] [(.exit 0, [.keep 0 0, .obj 0 y17]), (.ret, [.keep 0 0, .slot 1 false yI, .obj 0 y17])] .no))) (.seq (.seq .no (.blk (.loop [.keep 0 0, .slot 20 false yI, .obj 0 y17] [(.exit 2, [.keep 0 0, .obj 0 y17]), (.ret, [.keep 0 0, .slot 1 false yI, .obj 0 y17])] .no))) .no)))
noncomputable abbrev b65 : Code := Try.f65.body.getD .skip
theorem e65 (x : denL i65) : evalF tab s65 8 Try.f65 b65 n65 i65 o65 x = g_lapped_shaped := by kernel_rfl
theorem c65 : Contract P 65 i65 o65 (fun x => g_lapped_shaped) := evalF_contract tabOK mixed h65 Try.func65 (body := b65) (by kernel_rfl) (by kernel_rfl) e65
noncomputable def d65 : Nat × Callee := (65, .sem i65 o65 fun x => g_lapped_shaped)

abbrev i41 : List (Bool × Ty) := [(true, y1)]
abbrev o41 : List (Bool × Ty) := [(true, y9), (false, yI)]
noncomputable def s41 : List (Nat × Callee) := [d63, d64, d65]
theorem h41 : HOK P (handler tab s41 8) := handler_sound tabOK mixed (callsOK_get (l := s41) ⟨c63, c64, c65, trivial⟩) 8
def n41 : Ann := (.seq .no (.seq .no (.seq .no (.seq .no (.seq (.seq .no (.blk (.loop [.keep 1 1, .keep 2 2, .keep 4 4, .keep 22 22, .slot 23 true y16, .slot 24 false yI, .obj 1 y1, .obj 2 y9, .obj 4 y17] [(.exit 0, [.keep 2 2, .keep 4 4, .keep 22 22, .obj 2 y9, .obj 4 y17])] (.seq .no (.seq .no (.seq (.blk (.seq .no (.seq .no (.blk (.loop [.keep 1 1, .keep 2 2, .keep 4 4, .slot 5 false yI, .keep 22 22, .slot 23 true y16, .slot 24 false yI, .slot 28 false y8, .slot 29 false yI, .slot 30 false yI, .obj 1 y1, .obj 2 y9, .obj 4 y17] [(.exit 2, [.keep 1 1, .keep 2 2, .keep 4 4, .keep 22 22, .slot 23 true y16, .slot 24 false yI, .obj 1 y1, .obj 2 y9, .obj 4 y17])] (.seq .no (.seq .no (.seq (.blk (.seq .no (.draw [0, 1, 2, 3, 4, 5, 6, 7, 8, 9, 10]))) .no)))))))) .no)))))) (.seq (.seq .no (.blk (.loop [.keep 2 2, .keep 4 4, .keep 22 22, .slot 47 false yI, .obj 2 y9, .obj 4 y17] [(.exit 4, [.keep 2 2, .obj 2 y9])] (.seq .no (.seq .no (.seq (.blk (.seq .no (.draw [0, 1, 2, 3, 4, 5, 6, 7, 8, 9, 10, 11, 12]))) .no)))))) .no))))))
noncomputable abbrev b41 : Code := Try.f41.body.getD .skip
theorem e41 (x : denL i41) : evalF tab s41 8 Try.f41 b41 n41 i41 o41 x = g_lapped_Inverse x := by kernel_rfl
theorem c41 : Contract P 41 i41 o41 (fun x => g_lapped_Inverse x) := evalF_contract tabOK mixed h41 Try.func41 (body := b41) (by kernel_rfl) (by kernel_rfl) e41
noncomputable def d41 : Nat × Callee := (41, .sem i41 o41 fun x => g_lapped_Inverse x)

abbrev i10 : List (Bool × Ty) := [(true, y7)]
abbrev o10 : List (Bool × Ty) := [(true, y7), (true, y1), (false, yI)]
def n20_10 : Ann := (.seq .no (.seq (.draw [0, 1, 2, 3, 4, 5]) .no))
def n21_10 : Ann := (.seq .no (.seq (.seq .no (.cond (.seq (.draw [0, 1, 2, 3, 4, 5, 6, 7, 8]) .no) .no)) (.seq (.draw [0, 1, 2, 3, 4, 5, 6, 7, 8, 9, 10]) .no)))
def n23_10 : Ann := (.seq .no (.seq (.join [(.normal, [.keep 0 0, .slot 1 false yI, .obj 0 y19])] .no) .no))
def n24_10 : Ann := (.seq (.draw [0, 1, 2, 3, 4, 5, 6, 7, 8, 9, 10, 11, 12, 13, 14, 15, 16, 17, 18]) .no)
def n25_10 : Ann := (.seq .no (.seq .no (.seq .no (.seq .no (.seq (.draw [0, 1, 2, 3, 4, 5, 6, 7, 8, 9, 10, 11, 12, 13, 14, 15, 16, 17, 18, 19, 20]) .no)))))
noncomputable def s10 : List (Nat × Callee) := [(20, .inl Try.f20 b20 n20_10), (21, .inl Try.f21 b21 n21_10), (23, .inl Try.f23 b23 n23_10), (24, .inl Try.f24 b24 n24_10), (25, .inl Try.f25 b25 n25_10), d27, d40, d41, d42]
theorem h10 : HOK P (handler tab s10 8) := handler_sound tabOK mixed (callsOK_get (l := s10) ⟨⟨Try.func20, by kernel_rfl, by kernel_rfl⟩, ⟨Try.func21, by kernel_rfl, by kernel_rfl⟩, ⟨Try.func23, by kernel_rfl, by kernel_rfl⟩, ⟨Try.func24, by kernel_rfl, by kernel_rfl⟩, ⟨Try.func25, by kernel_rfl, by kernel_rfl⟩, c27, c40, c41, c42, trivial⟩) 8
def n10 : Ann := (.seq .no (.seq .no (.seq (.join [(.normal, [.keep 2 2, .keep 3 3, .keep 5 5, .keep 7 7, .obj 2 y7, .obj 3 y1, .obj 7 y19])] .no) .no)))
noncomputable abbrev b10 : Code := Try.f10.body.getD .skip
theorem e10 (x : denL i10) : evalF tab s10 8 Try.f10 b10 n10 i10 o10 x = g_decoder_Rest x := by kernel_rfl
theorem c10 : Contract P 10 i10 o10 (fun x => g_decoder_Rest x) := evalF_contract tabOK mixed h10 Try.func10 (body := b10) (by kernel_rfl) (by kernel_rfl) e10
noncomputable def d10 : Nat × Callee := (10, .sem i10 o10 fun x => g_decoder_Rest x)

abbrev i71 : List (Bool × Ty) := [(true, y2)]
abbrev o71 : List (Bool × Ty) := [(true, y2), (false, yI)]
def n72_71 : Ann := .no
noncomputable def s71 : List (Nat × Callee) := [d29, (72, .inl Try.f72 b72 n72_71), (89, .back 6)]
theorem h71 : HOK P (handler tab s71 8) := handler_sound tabOK mixed (callsOK_get (l := s71) ⟨c29, ⟨Try.func72, by kernel_rfl, by kernel_rfl⟩, ⟨by decide, by decide, bd89, tab, tabOK, bk89⟩, trivial⟩) 8
def n71 : Ann := (.seq .no (.seq .no (.seq .no (.seq (.seq .no (.blk (.loop [.keep 1 1, .keep 2 2, .slot 3 false yI, .keep 5 5, .slot 15 false yI, .obj 1 y2, .obj 2 y2, .obj 5 yI] [(.exit 0, [.keep 1 1, .keep 2 2, .slot 3 false yI, .keep 5 5, .obj 1 y2, .obj 2 y2, .obj 5 yI])] (.seq .no (.seq .no (.seq (.blk (.seq .no (.seq (.draw [0, 1, 2, 3, 4, 5, 6, 7, 8]) (.draw [0, 1, 2, 3, 4, 5, 6])))) .no)))))) (.seq .no (.seq (.seq .no (.blk (.loop [.obj 1 y2, .obj 2 y2, .obj 5 yI] [] (.blk (.seq (.draw [0, 1, 2, 3, 4, 5, 6, 7, 8]) .no))))) .no))))))
noncomputable abbrev b71 : Code := Try.f71.body.getD .skip
theorem e71 (x : denL i71) : evalF tab s71 8 Try.f71 b71 n71 i71 o71 x = g_bands_Mask x := by kernel_rfl
theorem c71 : Contract P 71 i71 o71 (fun x => g_bands_Mask x) := evalF_contract tabOK mixed h71 Try.func71 (body := b71) (by kernel_rfl) (by kernel_rfl) e71
noncomputable def d71 : Nat × Callee := (71, .sem i71 o71 fun x => g_bands_Mask x)

abbrev i73 : List (Bool × Ty) := [(true, y2)]
abbrev o73 : List (Bool × Ty) := [(false, yI)]
noncomputable def s73 : List (Nat × Callee) := [d74]
theorem h73 : HOK P (handler tab s73 8) := handler_sound tabOK mixed (callsOK_get (l := s73) ⟨c74, trivial⟩) 8
def n73 : Ann := (.seq .no (.seq .no (.seq .no (.seq (.seq .no (.blk (.loop [.keep 1 1, .keep 3 3, .slot 4 false yI, .slot 7 false yI, .obj 1 y2, .obj 3 y10] [(.exit 0, [.slot 4 false yI])] (.seq .no (.seq .no (.seq (.blk (.seq .no (.draw [0, 1, 2, 3, 4, 5, 6, 7, 8, 9, 10, 11, 12, 13, 14]))) .no)))))) .no))))
noncomputable abbrev b73 : Code := Try.f73.body.getD .skip
theorem e73 (x : denL i73) : evalF tab s73 8 Try.f73 b73 n73 i73 o73 x = g_bands_Cost x := by kernel_rfl
theorem c73 : Contract P 73 i73 o73 (fun x => g_bands_Cost x) := evalF_contract tabOK mixed h73 Try.func73 (body := b73) (by kernel_rfl) (by kernel_rfl) e73
noncomputable def d73 : Nat × Callee := (73, .sem i73 o73 fun x => g_bands_Cost x)

abbrev i48 : List (Bool × Ty) := [(true, y2), (false, yI)]
abbrev o48 : List (Bool × Ty) := [(true, y2), (false, yI)]
def n72_48 : Ann := .no
noncomputable def s48 : List (Nat × Callee) := [d71, (72, .inl Try.f72 b72 n72_48), d73, (89, .back 6)]
theorem h48 : HOK P (handler tab s48 8) := handler_sound tabOK mixed (callsOK_get (l := s48) ⟨c71, ⟨Try.func72, by kernel_rfl, by kernel_rfl⟩, c73, ⟨by decide, by decide, bd89, tab, tabOK, bk89⟩, trivial⟩) 8
def n48 : Ann := (.seq .no (.blk (.seq .no (.seq (.seq (.join [(.normal, [.keep 2 2, .keep 3 3, .keep 4 4, .slot 5 false yI, .keep 6 6, .slot 21 false .bool, .obj 2 y2, .obj 3 yI, .obj 4 y2, .obj 6 y2])] .no) .no) (.seq (.seq .no (.blk (.loop [.keep 2 2, .keep 3 3, .keep 4 4, .slot 5 false yI, .keep 6 6, .slot 23 false yI, .obj 2 y2, .obj 3 yI, .obj 4 y2, .obj 6 y2] [(.exit 0, [.keep 3 3, .keep 4 4, .slot 5 false yI, .obj 3 yI, .obj 4 y2])] (.seq .no (.seq .no (.seq (.join [(.normal, [.keep 2 2, .keep 3 3, .keep 4 4, .slot 5 false yI, .keep 6 6, .slot 23 false yI, .obj 2 y2, .obj 3 yI, .obj 4 y2, .obj 6 y2])] (.blk (.seq .no (.seq (.draw [0, 1, 2, 3, 4, 5, 6, 7, 8, 9, 10, 11, 12, 13, 14]) (.seq (.draw [0, 1, 2, 3, 4, 5, 6]) .no))))) .no)))))) (.seq .no (.seq (.seq .no (.blk (.loop [.keep 3 3, .keep 4 4, .slot 5 false yI, .obj 3 yI, .obj 4 y2, .nbox 8 yI] [(.exit 2, [.keep 4 4, .obj 4 y2])] (.seq .no (.seq (.blk (.seq .no (.blk (.loop [.obj 3 yI, .obj 4 y2, .obj 8 yI] [(.exit 2, [.obj 3 yI, .obj 4 y2, .obj 8 yI])] (.blk (.seq (.seq (.draw [0, 1, 2, 3]) .no) .no)))))) .no))))) .no)))))))
noncomputable abbrev b48 : Code := Try.f48.body.getD .skip
theorem e48 (x : denL i48) : evalF tab s48 8 Try.f48 b48 n48 i48 o48 x = g_bands_Share x.1 x.2 := by kernel_rfl
theorem c48 : Contract P 48 i48 o48 (fun x => g_bands_Share x.1 x.2) := evalF_contract tabOK mixed h48 Try.func48 (body := b48) (by kernel_rfl) (by kernel_rfl) e48
noncomputable def d48 : Nat × Callee := (48, .sem i48 o48 fun x => g_bands_Share x.1 x.2)

abbrev i67 : List (Bool × Ty) := [(false, yI)]
abbrev o67 : List (Bool × Ty) := [(false, yI), (false, yI), (false, yI)]
noncomputable def s67 : List (Nat × Callee) := [d74]
theorem h67 : HOK P (handler tab s67 8) := handler_sound tabOK mixed (callsOK_get (l := s67) ⟨c74, trivial⟩) 8
def n67 : Ann := (.seq .no (.seq (.seq (.join [(.normal, [.slot 0 false yI, .slot 11 false .bool])] .no) .no) (.seq .no (.seq (.draw [0, 1, 2, 3, 4, 5, 6, 7, 8, 9]) .no))))
noncomputable abbrev b67 : Code := Try.f67.body.getD .skip
theorem e67 (x : denL i67) : evalF tab s67 8 Try.f67 b67 n67 i67 o67 x = g_bands_Edge x := by kernel_rfl
theorem c67 : Contract P 67 i67 o67 (fun x => g_bands_Edge x) := evalF_contract tabOK mixed h67 Try.func67 (body := b67) (by kernel_rfl) (by kernel_rfl) e67
noncomputable def d67 : Nat × Callee := (67, .sem i67 o67 fun x => g_bands_Edge x)

abbrev i50 : List (Bool × Ty) := [(false, yI)]
abbrev o50 : List (Bool × Ty) := [(false, yI)]
noncomputable def s50 : List (Nat × Callee) := []
theorem h50 : HOK P (handler tab s50 8) := handler_sound tabOK mixed (callsOK_get (l := s50) trivial) 8
def n50 : Ann := .no
noncomputable abbrev b50 : Code := Try.f50.body.getD .skip
theorem e50 (x : denL i50) : evalF tab s50 8 Try.f50 b50 n50 i50 o50 x = g_quant_Most x := by kernel_rfl
theorem c50 : Contract P 50 i50 o50 (fun x => g_quant_Most x) := evalF_contract tabOK mixed h50 Try.func50 (body := b50) (by kernel_rfl) (by kernel_rfl) e50
noncomputable def d50 : Nat × Callee := (50, .sem i50 o50 fun x => g_quant_Most x)

abbrev i68 : List (Bool × Ty) := [(false, yI), (false, yI)]
abbrev o68 : List (Bool × Ty) := [(false, yI), (false, yI)]
noncomputable def s68 : List (Nat × Callee) := [d50, d62]
theorem h68 : HOK P (handler tab s68 8) := handler_sound tabOK mixed (callsOK_get (l := s68) ⟨c50, c62, trivial⟩) 8
def n68 : Ann := (.seq .no (.seq .no (.seq (.seq (.join [(.normal, [.slot 1 false yI, .slot 6 false yI, .slot 22 false .bool])] .no) .no) .no)))
noncomputable abbrev b68 : Code := Try.f68.body.getD .skip
theorem e68 (x : denL i68) : evalF tab s68 8 Try.f68 b68 n68 i68 o68 x = g_quant_Step x.1 x.2 := by kernel_rfl
theorem c68 : Contract P 68 i68 o68 (fun x => g_quant_Step x.1 x.2) := evalF_contract tabOK mixed h68 Try.func68 (body := b68) (by kernel_rfl) (by kernel_rfl) e68
noncomputable def d68 : Nat × Callee := (68, .sem i68 o68 fun x => g_quant_Step x.1 x.2)

abbrev i43 : List (Bool × Ty) := [(true, y2)]
abbrev o43 : List (Bool × Ty) := [(true, y20), (true, y2), (false, yI)]
noncomputable def s43 : List (Nat × Callee) := [d48, d50, d67, d68]
theorem h43 : HOK P (handler tab s43 8) := handler_sound tabOK mixed (callsOK_get (l := s43) ⟨c48, c50, c67, c68, trivial⟩) 8
def n43 : Ann := (.seq .no (.seq .no (.seq (.seq .no (.blk (.loop [.keep 1 1, .keep 2 2, .keep 3 3, .slot 4 false yI, .slot 18 true y2, .slot 19 false yI, .obj 1 y2, .obj 2 y20, .obj 3 y2] [(.exit 0, [.keep 2 2, .keep 3 3, .slot 4 false yI, .obj 2 y20, .obj 3 y2])] (.seq .no (.seq .no (.seq (.join [(.normal, [.keep 1 1, .keep 2 2, .keep 3 3, .slot 4 false yI, .slot 18 true y2, .slot 19 false yI, .obj 1 y2, .obj 2 y20, .obj 3 y2])] (.blk (.seq .no (.seq (.seq (.join [(.normal, [.keep 1 1, .keep 2 2, .keep 3 3, .slot 4 false yI, .slot 5 false yI, .slot 6 false yI, .slot 18 true y2, .slot 19 false yI, .slot 28 false .bool, .obj 1 y2, .obj 2 y20, .obj 3 y2])] .no) .no) (.seq .no (.seq .no (.seq .no (.blk (.loop [.keep 1 1, .keep 2 2, .keep 3 3, .slot 4 false yI, .slot 6 false yI, .slot 8 false yI, .slot 10 false yI, .slot 12 false yI, .slot 18 true y2, .slot 19 false yI, .obj 1 y2, .obj 2 y20, .obj 3 y2] [(.exit 2, [.keep 1 1, .keep 2 2, .keep 3 3, .slot 4 false yI, .slot 18 true y2, .slot 19 false yI, .obj 1 y2, .obj 2 y20, .obj 3 y2])] .no))))))))) .no)))))) (.seq (.draw [0, 1, 2, 3, 4, 5]) .no))))
noncomputable abbrev b43 : Code := Try.f43.body.getD .skip
theorem e43 (x : denL i43) : evalF tab s43 8 Try.f43 b43 n43 i43 o43 x = g_quant_scales x := by kernel_rfl
theorem c43 : Contract P 43 i43 o43 (fun x => g_quant_scales x) := evalF_contract tabOK mixed h43 Try.func43 (body := b43) (by kernel_rfl) (by kernel_rfl) e43
noncomputable def d43 : Nat × Callee := (43, .sem i43 o43 fun x => g_quant_scales x)

abbrev i30 : List (Bool × Ty) := [(true, y1), (true, y2)]
abbrev o30 : List (Bool × Ty) := [(false, .bool)]
noncomputable def s30 : List (Nat × Callee) := [d43]
theorem h30 : HOK P (handler tab s30 8) := handler_sound tabOK mixed (callsOK_get (l := s30) ⟨c43, trivial⟩) 8
def n30 : Ann := (.seq .no (.seq .no (.seq .no (.seq (.seq .no (.blk (.loop [.keep 2 2, .keep 5 5, .slot 7 false yI, .keep 8 8, .slot 18 true y1, .slot 19 false yI, .obj 2 y1, .obj 5 y20, .obj 8 y1] [(.exit 0, [.keep 2 2, .slot 7 false yI, .keep 8 8, .obj 2 y1, .obj 8 y1])] (.seq .no (.seq .no (.seq (.blk (.seq .no (.draw [0, 1, 2, 3, 4, 5, 6, 7, 8, 9, 10, 11, 12, 13, 14]))) .no)))))) .no))))
noncomputable abbrev b30 : Code := Try.f30.body.getD .skip
theorem e30 (x : denL i30) : evalF tab s30 8 Try.f30 b30 n30 i30 o30 x = g_quant_May x.1 x.2 := by kernel_rfl
theorem c30 : Contract P 30 i30 o30 (fun x => g_quant_May x.1 x.2) := evalF_contract tabOK mixed h30 Try.func30 (body := b30) (by kernel_rfl) (by kernel_rfl) e30
noncomputable def d30 : Nat × Callee := (30, .sem i30 o30 fun x => g_quant_May x.1 x.2)

abbrev i31 : List (Bool × Ty) := [(true, y2), (true, y2)]
abbrev o31 : List (Bool × Ty) := [(false, .bool)]
noncomputable def s31 : List (Nat × Callee) := [d29]
theorem h31 : HOK P (handler tab s31 8) := handler_sound tabOK mixed (callsOK_get (l := s31) ⟨c29, trivial⟩) 8
def n31 : Ann := (.seq .no (.seq (.seq (.join [(.normal, [.keep 2 2, .keep 3 3, .slot 14 false .bool, .obj 2 y2, .obj 3 y2])] .no) .no) (.seq (.seq .no (.blk (.loop [.keep 2 2, .keep 3 3, .slot 15 false yI, .obj 2 y2, .obj 3 y2] [(.exit 0, []), (.ret, [.slot 4 false .bool])] (.seq .no (.seq .no (.seq (.blk (.seq .no (.seq (.draw [0, 1, 2, 3, 4, 5, 6, 7]) (.seq (.join [(.normal, [.keep 2 2, .keep 3 3, .slot 15 false yI, .slot 30 false .bool, .obj 2 y2, .obj 3 y2])] .no) .no)))) .no)))))) .no)))
noncomputable abbrev b31 : Code := Try.f31.body.getD .skip
theorem e31 (x : denL i31) : evalF tab s31 8 Try.f31 b31 n31 i31 o31 x = g_frame_Near x.1 x.2 := by kernel_rfl
theorem c31 : Contract P 31 i31 o31 (fun x => g_frame_Near x.1 x.2) := evalF_contract tabOK mixed h31 Try.func31 (body := b31) (by kernel_rfl) (by kernel_rfl) e31
noncomputable def d31 : Nat × Callee := (31, .sem i31 o31 fun x => g_frame_Near x.1 x.2)

abbrev i17 : List (Bool × Ty) := [(true, y22), (true, y2)]
abbrev o17 : List (Bool × Ty) := [(false, yI)]
noncomputable def s17 : List (Nat × Callee) := [d29, d30, d31]
theorem h17 : HOK P (handler tab s17 8) := handler_sound tabOK mixed (callsOK_get (l := s17) ⟨c29, c30, c31, trivial⟩) 8
def n17 : Ann := (.seq .no (.seq .no (.seq (.join [(.normal, [.keep 2 2, .keep 3 3, .keep 5 5, .slot 6 false .bool, .obj 2 y22, .obj 3 y2, .obj 5 y1])] .no) (.seq (.join [(.normal, [.slot 6 false .bool])] .no) .no))))
noncomputable abbrev b17 : Code := Try.f17.body.getD .skip
theorem e17 (x : denL i17) : evalF tab s17 8 Try.f17 b17 n17 i17 o17 x = g_frame_Check x.1 x.2 := by kernel_rfl
theorem c17 : Contract P 17 i17 o17 (fun x => g_frame_Check x.1 x.2) := evalF_contract tabOK mixed h17 Try.func17 (body := b17) (by kernel_rfl) (by kernel_rfl) e17
noncomputable def d17 : Nat × Callee := (17, .sem i17 o17 fun x => g_frame_Check x.1 x.2)

abbrev i78 : List (Bool × Ty) := [(true, y8)]
abbrev o78 : List (Bool × Ty) := [(false, yI)]
noncomputable def s78 : List (Nat × Callee) := []
theorem h78 : HOK P (handler tab s78 8) := handler_sound tabOK mixed (callsOK_get (l := s78) trivial) 8
def n78 : Ann := .no
noncomputable abbrev b78 : Code := Try.f78.body.getD .skip
theorem e78 (x : denL i78) : evalF tab s78 8 Try.f78 b78 n78 i78 o78 x = g_freq_last x := by kernel_rfl
theorem c78 : Contract P 78 i78 o78 (fun x => g_freq_last x) := evalF_contract tabOK mixed h78 Try.func78 (body := b78) (by kernel_rfl) (by kernel_rfl) e78
noncomputable def d78 : Nat × Callee := (78, .sem i78 o78 fun x => g_freq_last x)

abbrev i69 : List (Bool × Ty) := [(false, y8)]
abbrev o69 : List (Bool × Ty) := [(true, y8), (false, yI)]
noncomputable def s69 : List (Nat × Callee) := [d78]
theorem h69 : HOK P (handler tab s69 8) := handler_sound tabOK mixed (callsOK_get (l := s69) ⟨c78, trivial⟩) 8
def n69 : Ann := (.seq .no (.seq .no (.seq .no (.seq (.seq .no (.blk (.loop [.slot 0 false y8, .keep 2 2, .keep 4 4, .slot 16 false y8, .slot 17 false yI, .slot 18 false yI, .obj 2 y15, .obj 4 y15] [(.exit 0, [.slot 0 false y8, .keep 2 2, .keep 4 4, .obj 2 y15, .obj 4 y15]), (.ret, [.keep 2 2, .slot 3 false yI, .obj 2 y15])] (.seq .no (.seq .no (.seq (.blk (.seq .no (.seq (.seq (.join [(.normal, [.slot 0 false y8, .keep 2 2, .keep 4 4, .slot 6 false yI, .slot 16 false y8, .slot 17 false yI, .slot 18 false yI, .slot 30 false .bool, .obj 2 y15, .obj 4 y15])] .no) .no) (.draw [0, 1, 2, 3, 4, 5, 6, 7, 8, 9])))) .no)))))) .no))))
noncomputable abbrev b69 : Code := Try.f69.body.getD .skip
theorem e69 (x : denL i69) : evalF tab s69 8 Try.f69 b69 n69 i69 o69 x = g_freq_New x := by kernel_rfl
theorem c69 : Contract P 69 i69 o69 (fun x => g_freq_New x) := evalF_contract tabOK mixed h69 Try.func69 (body := b69) (by kernel_rfl) (by kernel_rfl) e69
noncomputable def d69 : Nat × Callee := (69, .sem i69 o69 fun x => g_freq_New x)

abbrev i45 : List (Bool × Ty) := []
abbrev o45 : List (Bool × Ty) := [(true, y8)]
noncomputable def s45 : List (Nat × Callee) := [d69]
theorem h45 : HOK P (handler tab s45 8) := handler_sound tabOK mixed (callsOK_get (l := s45) ⟨c69, trivial⟩) 8
def n45 : Ann := .no
noncomputable abbrev b45 : Code := Try.f45.body.getD .skip
theorem e45 (x : denL i45) : evalF tab s45 8 Try.f45 b45 n45 i45 o45 x = g_frame_kinds := by kernel_rfl
theorem c45 : Contract P 45 i45 o45 (fun x => g_frame_kinds) := evalF_contract tabOK mixed h45 Try.func45 (body := b45) (by kernel_rfl) (by kernel_rfl) e45
noncomputable def d45 : Nat × Callee := (45, .sem i45 o45 fun x => g_frame_kinds)

abbrev i104 : List (Bool × Ty) := [(false, yU), (false, yU)]
abbrev o104 : List (Bool × Ty) := [(false, yU), (false, yU)]
noncomputable def s104 : List (Nat × Callee) := []
theorem h104 : HOK P (handler tab s104 8) := handler_sound tabOK mixed (callsOK_get (l := s104) trivial) 8
def n104 : Ann := .no
noncomputable abbrev b104 : Code := Try.f104.body.getD .skip
theorem e104 (x : denL i104) : evalF tab s104 8 Try.f104 b104 n104 i104 o104 x = g_math_bits_Mul64 x.1 x.2 := by kernel_rfl
theorem c104 : Contract P 104 i104 o104 (fun x => g_math_bits_Mul64 x.1 x.2) := evalF_contract tabOK mixed h104 Try.func104 (body := b104) (by kernel_rfl) (by kernel_rfl) e104
noncomputable def d104 : Nat × Callee := (104, .sem i104 o104 fun x => g_math_bits_Mul64 x.1 x.2)

abbrev i103 : List (Bool × Ty) := [(false, yW), (false, yW)]
abbrev o103 : List (Bool × Ty) := [(false, yW), (false, yW)]
noncomputable def s103 : List (Nat × Callee) := []
theorem h103 : HOK P (handler tab s103 8) := handler_sound tabOK mixed (callsOK_get (l := s103) trivial) 8
def n103 : Ann := .no
noncomputable abbrev b103 : Code := Try.f103.body.getD .skip
theorem e103 (x : denL i103) : evalF tab s103 8 Try.f103 b103 n103 i103 o103 x = g_math_bits_Mul32 x.1 x.2 := by kernel_rfl
theorem c103 : Contract P 103 i103 o103 (fun x => g_math_bits_Mul32 x.1 x.2) := evalF_contract tabOK mixed h103 Try.func103 (body := b103) (by kernel_rfl) (by kernel_rfl) e103
noncomputable def d103 : Nat × Callee := (103, .sem i103 o103 fun x => g_math_bits_Mul32 x.1 x.2)

abbrev i96 : List (Bool × Ty) := [(false, yU), (false, yU)]
abbrev o96 : List (Bool × Ty) := [(false, yU), (false, yU)]
noncomputable def s96 : List (Nat × Callee) := [d103, d104]
theorem h96 : HOK P (handler tab s96 8) := handler_sound tabOK mixed (callsOK_get (l := s96) ⟨c103, c104, trivial⟩) 8
def n96 : Ann := .no
noncomputable abbrev b96 : Code := Try.f96.body.getD .skip
theorem e96 (x : denL i96) : evalF tab s96 8 Try.f96 b96 n96 i96 o96 x = g_math_bits_Mul x.1 x.2 := by kernel_rfl
theorem c96 : Contract P 96 i96 o96 (fun x => g_math_bits_Mul x.1 x.2) := evalF_contract tabOK mixed h96 Try.func96 (body := b96) (by kernel_rfl) (by kernel_rfl) e96
noncomputable def d96 : Nat × Callee := (96, .sem i96 o96 fun x => g_math_bits_Mul x.1 x.2)

abbrev i88 : List (Bool × Ty) := [(false, y8), (false, yI)]
abbrev o88 : List (Bool × Ty) := [(false, y8)]
noncomputable def s88 : List (Nat × Callee) := [d96]
theorem h88 : HOK P (handler tab s88 8) := handler_sound tabOK mixed (callsOK_get (l := s88) ⟨c96, trivial⟩) 8
def n88 : Ann := (.seq .no (.seq .no (.seq .no (.seq (.seq (.join [(.normal, [.slot 0 false y8, .slot 6 false yU, .slot 26 false .bool])] .no) .no) (.seq .no (.seq .no (.seq (.blk (.loop [.slot 7 false y15, .slot 8 false yI] [(.exit 0, [.slot 7 false y15])] (.seq .no (.blk (.draw [0, 1, 2, 3, 4, 5, 6, 7, 8, 9]))))) .no)))))))
noncomputable abbrev b88 : Code := Try.f88.body.getD .skip
theorem e88 (x : denL i88) : evalF tab s88 8 Try.f88 b88 n88 i88 o88 x = g_slices_Repeat_Sint_int x.1 x.2 := by kernel_rfl
theorem c88 : Contract P 88 i88 o88 (fun x => g_slices_Repeat_Sint_int x.1 x.2) := evalF_contract tabOK mixed h88 Try.func88 (body := b88) (by kernel_rfl) (by kernel_rfl) e88
noncomputable def d88 : Nat × Callee := (88, .sem i88 o88 fun x => g_slices_Repeat_Sint_int x.1 x.2)

abbrev i70 : List (Bool × Ty) := [(false, yI)]
abbrev o70 : List (Bool × Ty) := [(true, y8), (false, yI)]
noncomputable def s70 : List (Nat × Callee) := [d69, d88]
theorem h70 : HOK P (handler tab s70 8) := handler_sound tabOK mixed (callsOK_get (l := s70) ⟨c69, c88, trivial⟩) 8
def n70 : Ann := (.seq .no (.seq (.seq (.join [(.normal, [.slot 0 false yI, .keep 2 2, .slot 9 false .bool, .obj 2 y15])] .no) .no) .no))
noncomputable abbrev b70 : Code := Try.f70.body.getD .skip
theorem e70 (x : denL i70) : evalF tab s70 8 Try.f70 b70 n70 i70 o70 x = g_freq_Even x := by kernel_rfl
theorem c70 : Contract P 70 i70 o70 (fun x => g_freq_Even x) := evalF_contract tabOK mixed h70 Try.func70 (body := b70) (by kernel_rfl) (by kernel_rfl) e70
noncomputable def d70 : Nat × Callee := (70, .sem i70 o70 fun x => g_freq_Even x)

abbrev i46 : List (Bool × Ty) := []
abbrev o46 : List (Bool × Ty) := [(true, y8)]
noncomputable def s46 : List (Nat × Callee) := [d70]
theorem h46 : HOK P (handler tab s46 8) := handler_sound tabOK mixed (callsOK_get (l := s46) ⟨c70, trivial⟩) 8
def n46 : Ann := .no
noncomputable abbrev b46 : Code := Try.f46.body.getD .skip
theorem e46 (x : denL i46) : evalF tab s46 8 Try.f46 b46 n46 i46 o46 x = g_frame_levels := by kernel_rfl
theorem c46 : Contract P 46 i46 o46 (fun x => g_frame_levels) := evalF_contract tabOK mixed h46 Try.func46 (body := b46) (by kernel_rfl) (by kernel_rfl) e46
noncomputable def d46 : Nat × Callee := (46, .sem i46 o46 fun x => g_frame_levels)

abbrev i47 : List (Bool × Ty) := []
abbrev o47 : List (Bool × Ty) := [(true, y8)]
noncomputable def s47 : List (Nat × Callee) := [d69]
theorem h47 : HOK P (handler tab s47 8) := handler_sound tabOK mixed (callsOK_get (l := s47) ⟨c69, trivial⟩) 8
def n47 : Ann := .no
noncomputable abbrev b47 : Code := Try.f47.body.getD .skip
theorem e47 (x : denL i47) : evalF tab s47 8 Try.f47 b47 n47 i47 o47 x = g_frame_changes := by kernel_rfl
theorem c47 : Contract P 47 i47 o47 (fun x => g_frame_changes) := evalF_contract tabOK mixed h47 Try.func47 (body := b47) (by kernel_rfl) (by kernel_rfl) e47
noncomputable def d47 : Nat × Callee := (47, .sem i47 o47 fun x => g_frame_changes)

abbrev i51 : List (Bool × Ty) := [(false, yI)]
abbrev o51 : List (Bool × Ty) := [(true, y8)]
noncomputable def s51 : List (Nat × Callee) := [d69]
theorem h51 : HOK P (handler tab s51 8) := handler_sound tabOK mixed (callsOK_get (l := s51) ⟨c69, trivial⟩) 8
def n51 : Ann := (.seq .no (.seq .no (.seq (.seq .no (.blk (.loop [.slot 0 false yI, .keep 2 2, .slot 3 false y15, .slot 12 false yI, .slot 13 false yI, .obj 2 y15] [(.exit 0, [.keep 2 2, .slot 3 false y15, .obj 2 y15])] .no))) .no)))
noncomputable abbrev b51 : Code := Try.f51.body.getD .skip
theorem e51 (x : denL i51) : evalF tab s51 8 Try.f51 b51 n51 i51 o51 x = g_frame_smalls x := by kernel_rfl
theorem c51 : Contract P 51 i51 o51 (fun x => g_frame_smalls x) := evalF_contract tabOK mixed h51 Try.func51 (body := b51) (by kernel_rfl) (by kernel_rfl) e51
noncomputable def d51 : Nat × Callee := (51, .sem i51 o51 fun x => g_frame_smalls x)

abbrev i18 : List (Bool × Ty) := [(true, y22), (true, y2)]
abbrev o18 : List (Bool × Ty) := [(false, y8), (false, y23)]
def n32_18 : Ann := (.seq .no (.seq (.seq (.draw [0, 1, 2, 3, 4, 5, 6]) .no) (.seq .no (.seq .no (.seq (.join [(.normal, [.keep 0 0, .slot 1 true y2, .keep 2 2, .keep 7 7, .keep 8 8, .keep 20 20, .keep 21 21, .keep 22 22, .obj 22 y22, .obj 7 y8, .obj 8 y2, .obj 1002 y15, .obj 2002 y24])] (.seq .no (.cond (.seq (.draw [0, 1, 2, 3]) (.seq .no (.blk (.loop [.keep 0 0, .slot 1 true y2, .keep 2 2, .keep 7 7, .keep 8 8, .keep 20 20, .keep 21 21, .keep 22 22, .keep 27 27, .keep 28 28, .keep 29 29, .slot 34 false yI, .obj 29 y22, .obj 7 y8, .obj 8 y2, .obj 1002 y15, .obj 2002 y24] [(.exit 0, [.keep 0 0, .slot 1 true y2, .keep 2 2, .keep 7 7, .keep 8 8, .keep 20 20, .keep 21 21, .keep 22 22, .keep 27 27, .keep 28 28, .keep 29 29, .obj 29 y22, .obj 7 y8, .obj 8 y2, .obj 1002 y15, .obj 2002 y24])] .no)))) .no))) (.seq (.seq .no (.blk (.loop [.keep 0 0, .slot 1 true y2, .keep 2 2, .keep 7 7, .keep 8 8, .keep 20 20, .keep 21 21, .keep 22 22, .slot 43 false yI, .obj 22 y22, .obj 7 y8, .obj 8 y2, .obj 1002 y15, .obj 2002 y24] [(.exit 2, [.keep 0 0, .slot 1 true y2, .keep 2 2, .keep 20 20, .keep 21 21, .keep 22 22, .obj 22 y22, .obj 1002 y15, .obj 2002 y24])] (.seq .no (.seq .no (.seq (.blk (.seq .no (.seq (.draw [0, 1, 2, 3, 4, 5, 6, 7, 8, 9, 10, 11]) (.seq .no (.draw [0, 1, 2, 3, 4, 5, 6, 7, 8, 9, 10]))))) .no)))))) (.seq .no (.seq .no (.seq .no (.seq (.seq .no (.blk (.loop [.keep 0 0, .slot 1 true y2, .keep 2 2, .keep 12 12, .keep 20 20, .keep 21 21, .keep 22 22, .keep 71 71, .keep 72 72, .keep 73 73, .keep 77 77, .keep 78 78, .keep 79 79, .slot 86 false yI, .obj 78 y22, .obj 12 y2, .obj 1002 y15, .obj 2002 y24] [(.exit 4, [.keep 0 0, .slot 1 true y2, .keep 2 2, .keep 20 20, .keep 21 21, .keep 22 22, .keep 71 71, .keep 72 72, .keep 73 73, .keep 77 77, .keep 78 78, .keep 79 79, .obj 78 y22, .obj 1002 y15, .obj 2002 y24])] (.seq .no (.seq .no (.seq (.join [(.normal, [.keep 0 0, .slot 1 true y2, .keep 2 2, .keep 12 12, .keep 20 20, .keep 21 21, .keep 22 22, .keep 71 71, .keep 72 72, .keep 73 73, .keep 77 77, .keep 78 78, .keep 79 79, .slot 86 false yI, .obj 78 y22, .obj 12 y2, .obj 1002 y15, .obj 2002 y24])] (.blk (.seq .no (.seq .no (.seq .no (.seq .no (.seq .no (.seq .no (.draw [0, 1, 2, 3, 4, 5, 6, 7, 8]))))))))) .no)))))) .no))))))))))
def n33_18 : Ann := (.seq .no (.seq (.draw [0, 1, 2, 3, 4, 5, 6, 7, 8, 9, 10, 11]) .no))
noncomputable def s18 : List (Nat × Callee) := [(32, .inl Try.f32 b32 n32_18), (33, .inl Try.f33 b33 n33_18), d45, d46, d47, d48, d49, d50, d51]
theorem h18 : HOK P (handler tab s18 8) := handler_sound tabOK mixed (callsOK_get (l := s18) ⟨⟨Try.func32, by kernel_rfl, by kernel_rfl⟩, ⟨Try.func33, by kernel_rfl, by kernel_rfl⟩, c45, c46, c47, c48, c49, c50, c51, trivial⟩) 8
def n18 : Ann := (.seq .no (.seq (.join [(.normal, [.keep 4 4, .keep 5 5, .obj 4 y15, .obj 5 y24])] .no) (.seq (.draw [0, 1, 2, 3]) .no)))
noncomputable abbrev b18 : Code := Try.f18.body.getD .skip
theorem e18 (x : denL i18) : evalF tab s18 8 Try.f18 b18 n18 i18 o18 x = g_frame_symbols x.1 x.2 := by kernel_rfl
theorem c18 : Contract P 18 i18 o18 (fun x => g_frame_symbols x.1 x.2) := evalF_contract tabOK mixed h18 Try.func18 (body := b18) (by kernel_rfl) (by kernel_rfl) e18
noncomputable def d18 : Nat × Callee := (18, .sem i18 o18 fun x => g_frame_symbols x.1 x.2)

abbrev i34 : List (Bool × Ty) := []
abbrev o34 : List (Bool × Ty) := [(true, y30)]
noncomputable def s34 : List (Nat × Callee) := []
theorem h34 : HOK P (handler tab s34 8) := handler_sound tabOK mixed (callsOK_get (l := s34) trivial) 8
def n34 : Ann := .no
noncomputable abbrev b34 : Code := Try.f34.body.getD .skip
theorem e34 (x : denL i34) : evalF tab s34 8 Try.f34 b34 n34 i34 o34 x = g_coder_Begin := by kernel_rfl
theorem c34 : Contract P 34 i34 o34 (fun x => g_coder_Begin) := evalF_contract tabOK mixed h34 Try.func34 (body := b34) (by kernel_rfl) (by kernel_rfl) e34
noncomputable def d34 : Nat × Callee := (34, .sem i34 o34 fun x => g_coder_Begin)

abbrev i79 : List (Bool × Ty) := [(true, y31)]
abbrev o79 : List (Bool × Ty) := [(false, yU), (false, yI)]
noncomputable def s79 : List (Nat × Callee) := []
theorem h79 : HOK P (handler tab s79 8) := handler_sound tabOK mixed (callsOK_get (l := s79) trivial) 8
def n79 : Ann := (.seq .no (.seq (.blk (.seq .no (.cond .no (.seq .no (.cond .no (.seq (.join [(.normal, [.slot 12 false .bool])] .no) .no)))))) .no))
noncomputable abbrev b79 : Code := Try.f79.body.getD .skip
theorem e79 (x : denL i79) : evalF tab s79 8 Try.f79 b79 n79 i79 o79 x = g_coder_interval_move x := by kernel_rfl
theorem c79 : Contract P 79 i79 o79 (fun x => g_coder_interval_move x) := evalF_contract tabOK mixed h79 Try.func79 (body := b79) (by kernel_rfl) (by kernel_rfl) e79
noncomputable def d79 : Nat × Callee := (79, .sem i79 o79 fun x => g_coder_interval_move x)

abbrev i75 : List (Bool × Ty) := [(true, y31)]
abbrev o75 : List (Bool × Ty) := [(false, .bool)]
noncomputable def s75 : List (Nat × Callee) := [d79]
theorem h75 : HOK P (handler tab s75 8) := handler_sound tabOK mixed (callsOK_get (l := s75) ⟨c79, trivial⟩) 8
def n75 : Ann := .no
noncomputable abbrev b75 : Code := Try.f75.body.getD .skip
theorem e75 (x : denL i75) : evalF tab s75 8 Try.f75 b75 n75 i75 o75 x = g_coder_interval_good x := by kernel_rfl
theorem c75 : Contract P 75 i75 o75 (fun x => g_coder_interval_good x) := evalF_contract tabOK mixed h75 Try.func75 (body := b75) (by kernel_rfl) (by kernel_rfl) e75
noncomputable def d75 : Nat × Callee := (75, .sem i75 o75 fun x => g_coder_interval_good x)

abbrev i76 : List (Bool × Ty) := [(true, y27)]
abbrev o76 : List (Bool × Ty) := [(false, yI)]
noncomputable def s76 : List (Nat × Callee) := []
theorem h76 : HOK P (handler tab s76 8) := handler_sound tabOK mixed (callsOK_get (l := s76) trivial) 8
def n76 : Ann := (.seq .no (.seq (.seq (.join [(.normal, [.keep 1 1, .slot 21 false .bool, .obj 1 y27])] .no) .no) (.seq (.seq .no (.seq (.join [(.normal, [.slot 39 false .bool])] .no) .no)) .no)))
noncomputable abbrev b76 : Code := Try.f76.body.getD .skip
theorem e76 (x : denL i76) : evalF tab s76 8 Try.f76 b76 n76 i76 o76 x = g_bits_Check x := by kernel_rfl
theorem c76 : Contract P 76 i76 o76 (fun x => g_bits_Check x) := evalF_contract tabOK mixed h76 Try.func76 (body := b76) (by kernel_rfl) (by kernel_rfl) e76
noncomputable def d76 : Nat × Callee := (76, .sem i76 o76 fun x => g_bits_Check x)

abbrev i77 : List (Bool × Ty) := [(true, y8)]
abbrev o77 : List (Bool × Ty) := [(false, yI)]
noncomputable def s77 : List (Nat × Callee) := [d78]
theorem h77 : HOK P (handler tab s77 8) := handler_sound tabOK mixed (callsOK_get (l := s77) ⟨c78, trivial⟩) 8
def n77 : Ann := (.seq .no (.seq (.seq (.join [(.normal, [.keep 1 1, .slot 26 false .bool, .obj 1 y8])] .no) .no) (.seq (.seq .no (.blk (.loop [.keep 1 1, .keep 27 27, .slot 29 false y8, .slot 30 false yI, .slot 31 false yI, .obj 27 y8] [(.exit 0, []), (.ret, [.slot 2 false yI])] .no))) .no)))
noncomputable abbrev b77 : Code := Try.f77.body.getD .skip
theorem e77 (x : denL i77) : evalF tab s77 8 Try.f77 b77 n77 i77 o77 x = g_freq_Check x := by kernel_rfl
theorem c77 : Contract P 77 i77 o77 (fun x => g_freq_Check x) := evalF_contract tabOK mixed h77 Try.func77 (body := b77) (by kernel_rfl) (by kernel_rfl) e77
noncomputable def d77 : Nat × Callee := (77, .sem i77 o77 fun x => g_freq_Check x)

abbrev i53 : List (Bool × Ty) := [(true, y8), (false, yI)]
abbrev o53 : List (Bool × Ty) := [(false, yI), (false, yI), (false, yI)]
noncomputable def s53 : List (Nat × Callee) := [d77]
theorem h53 : HOK P (handler tab s53 8) := handler_sound tabOK mixed (callsOK_get (l := s53) ⟨c77, trivial⟩) 8
def n53 : Ann := (.seq .no (.seq (.seq (.join [(.normal, [.slot 1 false yI, .keep 2 2, .slot 21 false .bool, .obj 2 y8])] .no) .no) (.seq (.draw [0, 1, 2, 3, 4, 5, 6, 7, 8, 9, 10, 11, 12, 13]) .no)))
noncomputable abbrev b53 : Code := Try.f53.body.getD .skip
theorem e53 (x : denL i53) : evalF tab s53 8 Try.f53 b53 n53 i53 o53 x = g_freq_Span x.1 x.2 := by kernel_rfl
theorem c53 : Contract P 53 i53 o53 (fun x => g_freq_Span x.1 x.2) := evalF_contract tabOK mixed h53 Try.func53 (body := b53) (by kernel_rfl) (by kernel_rfl) e53
noncomputable def d53 : Nat × Callee := (53, .sem i53 o53 fun x => g_freq_Span x.1 x.2)

abbrev i55 : List (Bool × Ty) := [(true, y8)]
abbrev o55 : List (Bool × Ty) := [(false, yI)]
noncomputable def s55 : List (Nat × Callee) := [d77, d78]
theorem h55 : HOK P (handler tab s55 8) := handler_sound tabOK mixed (callsOK_get (l := s55) ⟨c77, c78, trivial⟩) 8
def n55 : Ann := .no
noncomputable abbrev b55 : Code := Try.f55.body.getD .skip
theorem e55 (x : denL i55) : evalF tab s55 8 Try.f55 b55 n55 i55 o55 x = g_freq_Total x := by kernel_rfl
theorem c55 : Contract P 55 i55 o55 (fun x => g_freq_Total x) := evalF_contract tabOK mixed h55 Try.func55 (body := b55) (by kernel_rfl) (by kernel_rfl) e55
noncomputable def d55 : Nat × Callee := (55, .sem i55 o55 fun x => g_freq_Total x)

abbrev i90 : List (Bool × Ty) := [(false, yU), (false, yI)]
abbrev o90 : List (Bool × Ty) := [(false, .bool)]
noncomputable def s90 : List (Nat × Callee) := [d97]
theorem h90 : HOK P (handler tab s90 8) := handler_sound tabOK mixed (callsOK_get (l := s90) ⟨c97, trivial⟩) 8
def n90 : Ann := .no
noncomputable abbrev b90 : Code := Try.f90.body.getD .skip
theorem e90 (x : denL i90) : evalF tab s90 8 Try.f90 b90 n90 i90 o90 x = g_bits_fits x.1 x.2 := by kernel_rfl
theorem c90 : Contract P 90 i90 o90 (fun x => g_bits_fits x.1 x.2) := evalF_contract tabOK mixed h90 Try.func90 (body := b90) (by kernel_rfl) (by kernel_rfl) e90
noncomputable def d90 : Nat × Callee := (90, .sem i90 o90 fun x => g_bits_fits x.1 x.2)

abbrev i81 : List (Bool × Ty) := [(false, y26)]
abbrev o81 : List (Bool × Ty) := [(false, y32)]
noncomputable def s81 : List (Nat × Callee) := []
theorem h81 : HOK P (handler tab s81 8) := handler_sound tabOK mixed (callsOK_get (l := s81) trivial) 8
def n81 : Ann := .no
noncomputable abbrev b81 : Code := Try.f81.body.getD .skip
theorem e81n : evalA tab s81 8 Try.f81 b81 n81 [.nilsl] o81 = g_slices_Clone_Sbyte_byte [] := by kernel_rfl
theorem e81v (l : List Int) : evalA tab s81 8 Try.f81 b81 n81 [.slv yB l] o81 = g_slices_Clone_Sbyte_byte l := by kernel_rfl
theorem c81 : Contract P 81 i81 o81 g_slices_Clone_Sbyte_byte := evalA_contract tabOK mixed h81 Try.func81 (body := b81) (by kernel_rfl) (by kernel_rfl) rfl e81n e81v
noncomputable def d81 : Nat × Callee := (81, .sem i81 o81 fun x => g_slices_Clone_Sbyte_byte x)

abbrev i91 : List (Bool × Ty) := [(true, y33), (false, yU), (false, yI)]
abbrev o91 : List (Bool × Ty) := [(true, y33)]
noncomputable def s91 : List (Nat × Callee) := []
theorem h91 : HOK P (handler tab s91 8) := handler_sound tabOK mixed (callsOK_get (l := s91) trivial) 8
def n91 : Ann := (.seq .no (.seq (.blk (.loop [.slot 1 false yU, .slot 2 false yI, .keep 3 3, .keep 6 6, .obj 3 y33, .obj 6 y33] [(.exit 0, [.keep 3 3, .keep 6 6, .obj 3 y33, .obj 6 y33])] (.seq .no (.blk (.seq .no (.seq (.join [(.normal, [.slot 1 false yU, .slot 2 false yI, .keep 3 3, .keep 6 6, .slot 7 false yI, .keep 12 12, .obj 3 y33, .obj 6 y33])] .no) (.seq .no (.seq (.draw [0, 1, 2, 3, 4, 5, 6, 7, 8, 9, 10]) (.seq (.draw [0, 1, 2, 3, 4, 5, 6, 7, 8, 9, 10, 11, 12, 13, 14, 15]) .no))))))))) .no))
noncomputable abbrev b91 : Code := Try.f91.body.getD .skip
theorem e91 (x : denL i91) : evalF tab s91 8 Try.f91 b91 n91 i91 o91 x = g_bits_add x.1 x.2.1 x.2.2 := by kernel_rfl
theorem c91 : Contract P 91 i91 o91 (fun x => g_bits_add x.1 x.2.1 x.2.2) := evalF_contract tabOK mixed h91 Try.func91 (body := b91) (by kernel_rfl) (by kernel_rfl) e91
noncomputable def d91 : Nat × Callee := (91, .sem i91 o91 fun x => g_bits_add x.1 x.2.1 x.2.2)

abbrev i82 : List (Bool × Ty) := [(true, y27), (false, yU), (false, yI)]
abbrev o82 : List (Bool × Ty) := [(true, y33), (false, yI)]
noncomputable def s82 : List (Nat × Callee) := [d76, d81, d90, d91]
theorem h82 : HOK P (handler tab s82 8) := handler_sound tabOK mixed (callsOK_get (l := s82) ⟨c76, c81, c90, c91, trivial⟩) 8
def n82 : Ann := (.seq .no (.seq (.blk (.seq (.join [(.normal, [.slot 1 false yU, .slot 2 false yI, .keep 3 3, .keep 6 6, .slot 8 false .bool, .obj 3 y27, .obj 6 y33])] .no) .no)) .no))
noncomputable abbrev b82 : Code := Try.f82.body.getD .skip
theorem e82 (x : denL i82) : evalF tab s82 8 Try.f82 b82 n82 i82 o82 x = g_bits_Put x.1 x.2.1 x.2.2 := by kernel_rfl
theorem c82 : Contract P 82 i82 o82 (fun x => g_bits_Put x.1 x.2.1 x.2.2) := evalF_contract tabOK mixed h82 Try.func82 (body := b82) (by kernel_rfl) (by kernel_rfl) e82
noncomputable def d82 : Nat × Callee := (82, .sem i82 o82 fun x => g_bits_Put x.1 x.2.1 x.2.2)

abbrev i57 : List (Bool × Ty) := [(true, y27)]
abbrev o57 : List (Bool × Ty) := [(true, y33)]
noncomputable def s57 : List (Nat × Callee) := [d81]
theorem h57 : HOK P (handler tab s57 8) := handler_sound tabOK mixed (callsOK_get (l := s57) ⟨c81, trivial⟩) 8
def n57 : Ann := (.seq .no (.seq (.draw [0, 1, 2, 3, 4, 5, 6]) .no))
noncomputable abbrev b57 : Code := Try.f57.body.getD .skip
theorem e57 (x : denL i57) : evalF tab s57 8 Try.f57 b57 n57 i57 o57 x = g_coder_owned x := by kernel_rfl
theorem c57 : Contract P 57 i57 o57 (fun x => g_coder_owned x) := evalF_contract tabOK mixed h57 Try.func57 (body := b57) (by kernel_rfl) (by kernel_rfl) e57
noncomputable def d57 : Nat × Callee := (57, .sem i57 o57 fun x => g_coder_owned x)

abbrev i35 : List (Bool × Ty) := [(true, y30), (true, y8), (false, yI)]
abbrev o35 : List (Bool × Ty) := [(true, y36), (false, yI)]
def n52_35 : Ann := (.seq .no (.seq .no (.seq (.join [(.normal, [.slot 0 true y30, .keep 2 4, .slot 3 false .bool, .keep 4 4, .keep 17 17, .obj 17 y39])] .no) .no)))
def n54_35 : Ann := (.seq (.draw [0, 1, 2, 3, 4, 5, 6, 7, 8, 9, 10]) (.seq (.draw [0, 1, 2, 3, 4, 5, 6, 7, 8, 9, 10, 11, 12, 13, 14, 15, 16]) (.draw [0, 1, 2, 3, 4, 5, 6, 7, 8, 9, 10, 11, 12, 13, 14])))
def n56_35 : Ann := (.blk (.loop [.keep 0 0, .obj 0 y39] [(.exit 0, [.keep 0 0, .obj 0 y39]), (.ret, [.keep 0 0, .obj 0 y39])] (.seq .no (.blk (.seq .no (.seq (.join [(.normal, [.keep 0 0, .slot 2 false yU, .keep 4 4, .keep 5 5, .keep 6 6, .keep 10 10, .keep 11 11, .keep 12 12, .obj 12 y39]), (.ret, [.keep 0 0, .keep 4 4, .keep 5 5, .keep 6 6, .keep 10 10, .keep 11 11, .keep 12 12, .obj 12 y39])] .no) .no))))))
def n58_35 : Ann := (.seq (.seq (.draw [0, 1, 2, 3, 4, 5, 6, 7, 8, 9, 10, 11]) .no) (.seq .no (.seq (.seq .no (.blk (.loop [.keep 0 0, .slot 1 false yU, .slot 4 false yI, .keep 6 6, .keep 7 7, .keep 8 8, .keep 11 11, .keep 12 12, .keep 13 13, .keep 14 14, .keep 22 22, .keep 23 23, .keep 24 24, .keep 25 25, .keep 26 26, .keep 32 32, .keep 33 33, .keep 34 34, .keep 35 35, .keep 36 36, .keep 37 37, .keep 38 38, .obj 37 y42] [(.exit 0, [.keep 0 0, .slot 1 false yU, .keep 6 6, .keep 7 7, .keep 8 8, .keep 11 11, .keep 12 12, .keep 13 13, .keep 14 14, .keep 22 22, .keep 23 23, .keep 24 24, .keep 25 25, .keep 26 26, .keep 32 32, .keep 33 33, .keep 34 34, .keep 35 35, .keep 36 36, .keep 37 37, .keep 38 38, .obj 37 y42])] (.seq (.seq (.join [(.normal, [.keep 0 0, .slot 1 false yU, .slot 4 false yI, .keep 6 6, .keep 7 7, .keep 8 8, .keep 11 11, .keep 12 12, .keep 13 13, .keep 14 14, .keep 22 22, .keep 23 23, .keep 24 24, .keep 25 25, .keep 26 26, .keep 32 32, .keep 33 33, .keep 34 34, .keep 35 35, .keep 36 36, .keep 37 37, .keep 38 38, .slot 48 false .bool, .obj 37 y42])] .no) .no) (.seq (.blk (.seq .no (.draw [0, 1, 2, 3, 4, 5, 6, 7, 8, 9, 10, 11, 12, 13, 14, 15, 16, 17, 18, 19, 20, 21, 22]))) .no))))) .no)))
def n80_35 : Ann := (.draw [0, 1, 2, 3, 4, 5, 6, 7, 8, 9, 10, 11, 12, 13, 14, 15, 16, 17, 18, 19, 20, 21, 22])
noncomputable def s35 : List (Nat × Callee) := [(52, .inl Try.f52 b52 n52_35), d53, (54, .inl Try.f54 b54 n54_35), d55, (56, .inl Try.f56 b56 n56_35), d57, (58, .inl Try.f58 b58 n58_35), d75, d76, d79, (80, .inl Try.f80 b80 n80_35), d82]
theorem h35 : HOK P (handler tab s35 8) := handler_sound tabOK mixed (callsOK_get (l := s35) ⟨⟨Try.func52, by kernel_rfl, by kernel_rfl⟩, c53, ⟨Try.func54, by kernel_rfl, by kernel_rfl⟩, c55, ⟨Try.func56, by kernel_rfl, by kernel_rfl⟩, c57, ⟨Try.func58, by kernel_rfl, by kernel_rfl⟩, c75, c76, c79, ⟨Try.func80, by kernel_rfl, by kernel_rfl⟩, c82, trivial⟩) 8
def n35 : Ann := (.seq .no (.seq .no (.seq .no (.seq (.seq (.join [(.normal, [.keep 4 4, .keep 6 6, .keep 8 8, .slot 10 false yI, .slot 11 false yI, .keep 16 16, .slot 30 false .bool, .obj 4 y8, .obj 6 y36, .obj 16 y39])] .no) .no) (.seq (.draw [0, 1, 2, 3, 4, 5, 6, 7]) (.seq (.join [(.normal, [.keep 6 6, .keep 8 8, .keep 16 16, .keep 32 32, .keep 33 33, .keep 34 34, .obj 6 y36, .obj 34 y39])] .no) (.seq (.join [(.normal, [.keep 6 6, .keep 8 8, .keep 16 16, .keep 32 32, .keep 33 33, .keep 34 34, .obj 6 y36, .obj 34 y39])] (.seq (.join [(.normal, [.keep 6 6, .keep 8 8, .keep 16 16, .keep 32 32, .keep 33 33, .keep 34 34, .slot 53 false .bool, .obj 6 y36, .obj 34 y39])] .no) .no)) (.seq (.seq .no (.cond (.seq (.draw [0, 1, 2, 3, 4, 5, 6]) .no) .no)) (.seq (.draw [0, 1, 2, 3, 4, 5, 6, 7, 8, 9, 10, 11, 12, 13, 14, 15, 16, 17, 18, 19, 20, 21, 22, 23]) .no)))))))))
noncomputable abbrev b35 : Code := Try.f35.body.getD .skip
theorem e35 (x : denL i35) : evalF tab s35 8 Try.f35 b35 n35 i35 o35 x = g_coder_Put x.1 x.2.1 x.2.2 := by kernel_rfl
theorem c35 : Contract P 35 i35 o35 (fun x => g_coder_Put x.1 x.2.1 x.2.2) := evalF_contract tabOK mixed h35 Try.func35 (body := b35) (by kernel_rfl) (by kernel_rfl) e35
noncomputable def d35 : Nat × Callee := (35, .sem i35 o35 fun x => g_coder_Put x.1 x.2.1 x.2.2)

abbrev i36 : List (Bool × Ty) := [(true, y30)]
abbrev o36 : List (Bool × Ty) := [(true, y33), (false, yI)]
def n52_36 : Ann := (.seq .no (.seq .no (.seq (.join [(.normal, [.slot 0 true y30, .keep 2 4, .slot 3 false .bool, .keep 4 4, .keep 17 17, .obj 17 y39])] .no) .no)))
def n58_36 : Ann := (.seq (.seq (.draw [0, 1, 2, 3, 4, 5, 6, 7, 8, 9, 10, 11]) .no) (.seq .no (.seq (.seq .no (.blk (.loop [.keep 0 0, .slot 1 false yU, .slot 4 false yI, .keep 6 6, .keep 7 7, .keep 8 8, .keep 11 11, .keep 12 12, .keep 13 13, .keep 14 14, .keep 22 22, .keep 23 23, .keep 24 24, .keep 25 25, .keep 26 26, .keep 32 32, .keep 33 33, .keep 34 34, .keep 35 35, .keep 36 36, .keep 37 37, .keep 38 38, .obj 37 y42] [(.exit 0, [.keep 0 0, .slot 1 false yU, .keep 6 6, .keep 7 7, .keep 8 8, .keep 11 11, .keep 12 12, .keep 13 13, .keep 14 14, .keep 22 22, .keep 23 23, .keep 24 24, .keep 25 25, .keep 26 26, .keep 32 32, .keep 33 33, .keep 34 34, .keep 35 35, .keep 36 36, .keep 37 37, .keep 38 38, .obj 37 y42])] (.seq (.seq (.join [(.normal, [.keep 0 0, .slot 1 false yU, .slot 4 false yI, .keep 6 6, .keep 7 7, .keep 8 8, .keep 11 11, .keep 12 12, .keep 13 13, .keep 14 14, .keep 22 22, .keep 23 23, .keep 24 24, .keep 25 25, .keep 26 26, .keep 32 32, .keep 33 33, .keep 34 34, .keep 35 35, .keep 36 36, .keep 37 37, .keep 38 38, .slot 48 false .bool, .obj 37 y42])] .no) .no) (.seq (.blk (.seq .no (.draw [0, 1, 2, 3, 4, 5, 6, 7, 8, 9, 10, 11, 12, 13, 14, 15, 16, 17, 18, 19, 20, 21, 22]))) .no))))) .no)))
noncomputable def s36 : List (Nat × Callee) := [(52, .inl Try.f52 b52 n52_36), (58, .inl Try.f58 b58 n58_36), d75, d76, d82]
theorem h36 : HOK P (handler tab s36 8) := handler_sound tabOK mixed (callsOK_get (l := s36) ⟨⟨Try.func52, by kernel_rfl, by kernel_rfl⟩, ⟨Try.func58, by kernel_rfl, by kernel_rfl⟩, c75, c76, c82, trivial⟩) 8
def n36 : Ann := (.seq .no (.seq .no (.seq .no (.seq .no (.seq .no (.seq .no (.seq .no (.seq (.seq .no (.cond (.seq (.draw [0, 1, 2, 3, 4, 5, 6]) .no) .no)) .no))))))))
noncomputable abbrev b36 : Code := Try.f36.body.getD .skip
theorem e36 (x : denL i36) : evalF tab s36 8 Try.f36 b36 n36 i36 o36 x = g_coder_End x := by kernel_rfl
theorem c36 : Contract P 36 i36 o36 (fun x => g_coder_End x) := evalF_contract tabOK mixed h36 Try.func36 (body := b36) (by kernel_rfl) (by kernel_rfl) e36
noncomputable def d36 : Nat × Callee := (36, .sem i36 o36 fun x => g_coder_End x)

abbrev i19 : List (Bool × Ty) := [(false, y8), (false, y23)]
abbrev o19 : List (Bool × Ty) := [(true, y27), (false, yI)]
noncomputable def s19 : List (Nat × Callee) := [d34, d35, d36]
theorem h19 : HOK P (handler tab s19 8) := handler_sound tabOK mixed (callsOK_get (l := s19) ⟨c34, c35, c36, trivial⟩) 8
def n19 : Ann := (.seq .no (.seq .no (.seq .no (.seq (.seq .no (.blk (.loop [.slot 1 false y23, .keep 4 4, .keep 6 6, .slot 17 false y8, .slot 18 false yI, .slot 19 false yI, .obj 4 y33, .obj 6 y30] [(.exit 0, [.keep 4 4, .keep 6 6, .obj 4 y33, .obj 6 y30]), (.ret, [.keep 4 4, .slot 5 false yI, .obj 4 y33])] (.seq .no (.seq .no (.seq (.blk (.seq .no (.seq .no (.seq (.draw [0, 1, 2, 3, 4, 5, 6, 7, 8, 9, 10, 11]) .no)))) .no)))))) .no))))
noncomputable abbrev b19 : Code := Try.f19.body.getD .skip
theorem e19 (x : denL i19) : evalF tab s19 8 Try.f19 b19 n19 i19 o19 x = g_coder_All x.1 x.2 := by kernel_rfl
theorem c19 : Contract P 19 i19 o19 (fun x => g_coder_All x.1 x.2) := evalF_contract tabOK mixed h19 Try.func19 (body := b19) (by kernel_rfl) (by kernel_rfl) e19
noncomputable def d19 : Nat × Callee := (19, .sem i19 o19 fun x => g_coder_All x.1 x.2)

abbrev i8 : List (Bool × Ty) := [(true, y22), (true, y2)]
abbrev o8 : List (Bool × Ty) := [(false, y26), (false, yI)]
noncomputable def s8 : List (Nat × Callee) := [d17, d18, d19]
theorem h8 : HOK P (handler tab s8 8) := handler_sound tabOK mixed (callsOK_get (l := s8) ⟨c17, c18, c19, trivial⟩) 8
def n8 : Ann := .no
noncomputable abbrev b8 : Code := Try.f8.body.getD .skip
theorem e8 (x : denL i8) : evalF tab s8 8 Try.f8 b8 n8 i8 o8 x = g_frame_Write x.1 x.2 := by kernel_rfl
theorem c8 : Contract P 8 i8 o8 (fun x => g_frame_Write x.1 x.2) := evalF_contract tabOK mixed h8 Try.func8 (body := b8) (by kernel_rfl) (by kernel_rfl) e8
noncomputable def d8 : Nat × Callee := (8, .sem i8 o8 fun x => g_frame_Write x.1 x.2)

abbrev i60 : List (Bool × Ty) := [(false, y26)]
abbrev o60 : List (Bool × Ty) := [(true, y27)]
noncomputable def s60 : List (Nat × Callee) := [d81]
theorem h60 : HOK P (handler tab s60 8) := handler_sound tabOK mixed (callsOK_get (l := s60) ⟨c81, trivial⟩) 8
def n60 : Ann := .no
noncomputable abbrev b60 : Code := Try.f60.body.getD .skip
theorem e60 (x : denL i60) : evalF tab s60 8 Try.f60 b60 n60 i60 o60 x = g_bits_Of x := by kernel_rfl
theorem c60 : Contract P 60 i60 o60 (fun x => g_bits_Of x) := evalF_contract tabOK mixed h60 Try.func60 (body := b60) (by kernel_rfl) (by kernel_rfl) e60
noncomputable def d60 : Nat × Callee := (60, .sem i60 o60 fun x => g_bits_Of x)

abbrev i83 : List (Bool × Ty) := [(true, y27), (false, yI)]
abbrev o83 : List (Bool × Ty) := [(false, yU)]
noncomputable def s83 : List (Nat × Callee) := []
theorem h83 : HOK P (handler tab s83 8) := handler_sound tabOK mixed (callsOK_get (l := s83) trivial) 8
def n83 : Ann := .no
noncomputable abbrev b83 : Code := Try.f83.body.getD .skip
theorem e83 (x : denL i83) : evalF tab s83 8 Try.f83 b83 n83 i83 o83 x = g_coder_bit x.1 x.2 := by kernel_rfl
theorem c83 : Contract P 83 i83 o83 (fun x => g_coder_bit x.1 x.2) := evalF_contract tabOK mixed h83 Try.func83 (body := b83) (by kernel_rfl) (by kernel_rfl) e83
noncomputable def d83 : Nat × Callee := (83, .sem i83 o83 fun x => g_coder_bit x.1 x.2)

abbrev i59 : List (Bool × Ty) := [(true, y27)]
abbrev o59 : List (Bool × Ty) := [(true, y45), (false, yI)]
noncomputable def s59 : List (Nat × Callee) := [d57, d76, d83]
theorem h59 : HOK P (handler tab s59 8) := handler_sound tabOK mixed (callsOK_get (l := s59) ⟨c57, c76, c83, trivial⟩) 8
def n59 : Ann := (.seq .no (.seq .no (.seq .no (.seq (.seq .no (.blk (.loop [.keep 1 1, .keep 2 2, .slot 5 false yU, .slot 13 false yI, .obj 1 y27, .obj 2 y48] [(.exit 0, [.keep 1 1, .keep 2 2, .slot 5 false yU, .obj 1 y27, .obj 2 y48])] .no))) .no))))
noncomputable abbrev b59 : Code := Try.f59.body.getD .skip
theorem e59 (x : denL i59) : evalF tab s59 8 Try.f59 b59 n59 i59 o59 x = g_coder_Start x := by kernel_rfl
theorem c59 : Contract P 59 i59 o59 (fun x => g_coder_Start x) := evalF_contract tabOK mixed h59 Try.func59 (body := b59) (by kernel_rfl) (by kernel_rfl) e59
noncomputable def d59 : Nat × Callee := (59, .sem i59 o59 fun x => g_coder_Start x)

abbrev i105 : List (Bool × Ty) := [(false, yI)]
abbrev o105 : List (Bool × Ty) := [(false, .bool)]
noncomputable def s105 : List (Nat × Callee) := []
theorem h105 : HOK P (handler tab s105 8) := handler_sound tabOK mixed (callsOK_get (l := s105) trivial) 8
def n105 : Ann := .no
noncomputable abbrev b105 : Code := Try.f105.body.getD .skip
theorem e105 (x : denL i105) : evalF tab s105 8 Try.f105 b105 n105 i105 o105 x = g_cmp_isNaN_int x := by kernel_rfl
theorem c105 : Contract P 105 i105 o105 (fun x => g_cmp_isNaN_int x) := evalF_contract tabOK mixed h105 Try.func105 (body := b105) (by kernel_rfl) (by kernel_rfl) e105
noncomputable def d105 : Nat × Callee := (105, .sem i105 o105 fun x => g_cmp_isNaN_int x)

abbrev i98 : List (Bool × Ty) := [(false, yI), (false, yI)]
abbrev o98 : List (Bool × Ty) := [(false, .bool)]
noncomputable def s98 : List (Nat × Callee) := [d105]
theorem h98 : HOK P (handler tab s98 8) := handler_sound tabOK mixed (callsOK_get (l := s98) ⟨c105, trivial⟩) 8
def n98 : Ann := .no
noncomputable abbrev b98 : Code := Try.f98.body.getD .skip
theorem e98 (x : denL i98) : evalF tab s98 8 Try.f98 b98 n98 i98 o98 x = g_cmp_Less_int x.1 x.2 := by kernel_rfl
theorem c98 : Contract P 98 i98 o98 (fun x => g_cmp_Less_int x.1 x.2) := evalF_contract tabOK mixed h98 Try.func98 (body := b98) (by kernel_rfl) (by kernel_rfl) e98
noncomputable def d98 : Nat × Callee := (98, .sem i98 o98 fun x => g_cmp_Less_int x.1 x.2)

abbrev i99 : List (Bool × Ty) := [(false, yI)]
abbrev o99 : List (Bool × Ty) := [(false, .bool)]
noncomputable def s99 : List (Nat × Callee) := []
theorem h99 : HOK P (handler tab s99 8) := handler_sound tabOK mixed (callsOK_get (l := s99) trivial) 8
def n99 : Ann := .no
noncomputable abbrev b99 : Code := Try.f99.body.getD .skip
theorem e99 (x : denL i99) : evalF tab s99 8 Try.f99 b99 n99 i99 o99 x = g_slices_isNaN_int x := by kernel_rfl
theorem c99 : Contract P 99 i99 o99 (fun x => g_slices_isNaN_int x) := evalF_contract tabOK mixed h99 Try.func99 (body := b99) (by kernel_rfl) (by kernel_rfl) e99
noncomputable def d99 : Nat × Callee := (99, .sem i99 o99 fun x => g_slices_isNaN_int x)

abbrev i92 : List (Bool × Ty) := [(false, y8), (false, yI)]
abbrev o92 : List (Bool × Ty) := [(false, yI), (false, .bool)]
noncomputable def s92 : List (Nat × Callee) := [d98, d99]
theorem h92 : HOK P (handler tab s92 8) := handler_sound tabOK mixed (callsOK_get (l := s92) ⟨c98, c99, trivial⟩) 8
def n92 : Ann := (.seq .no (.seq .no (.seq .no (.seq (.blk (.loop [.slot 0 false y8, .slot 1 false yI, .slot 6 false yI, .slot 7 false yI, .slot 8 false yI] [(.exit 0, [.slot 0 false y8, .slot 1 false yI, .slot 6 false yI, .slot 7 false yI])] .no)) .no))))
noncomputable abbrev b92 : Code := Try.f92.body.getD .skip
theorem e92 (x : denL i92) : evalF tab s92 8 Try.f92 b92 n92 i92 o92 x = g_slices_BinarySearch_Sint_int x.1 x.2 := by kernel_rfl
theorem c92 : Contract P 92 i92 o92 (fun x => g_slices_BinarySearch_Sint_int x.1 x.2) := evalF_contract tabOK mixed h92 Try.func92 (body := b92) (by kernel_rfl) (by kernel_rfl) e92
noncomputable def d92 : Nat × Callee := (92, .sem i92 o92 fun x => g_slices_BinarySearch_Sint_int x.1 x.2)

abbrev i84 : List (Bool × Ty) := [(true, y8), (false, yI)]
abbrev o84 : List (Bool × Ty) := [(false, yI), (false, yI)]
noncomputable def s84 : List (Nat × Callee) := [d77, d78, d92]
theorem h84 : HOK P (handler tab s84 8) := handler_sound tabOK mixed (callsOK_get (l := s84) ⟨c77, c78, c92, trivial⟩) 8
def n84 : Ann := (.seq .no (.seq (.seq (.join [(.normal, [.slot 1 false yI, .keep 2 2, .slot 20 false .bool, .obj 2 y8])] .no) .no) (.seq .no (.seq (.join [(.normal, [.slot 6 false yI])] .no) .no))))
noncomputable abbrev b84 : Code := Try.f84.body.getD .skip
theorem e84 (x : denL i84) : evalF tab s84 8 Try.f84 b84 n84 i84 o84 x = g_freq_Find x.1 x.2 := by kernel_rfl
theorem c84 : Contract P 84 i84 o84 (fun x => g_freq_Find x.1 x.2) := evalF_contract tabOK mixed h84 Try.func84 (body := b84) (by kernel_rfl) (by kernel_rfl) e84
noncomputable def d84 : Nat × Callee := (84, .sem i84 o84 fun x => g_freq_Find x.1 x.2)

abbrev i61 : List (Bool × Ty) := [(true, y45), (true, y8)]
abbrev o61 : List (Bool × Ty) := [(true, y45), (false, yI), (false, yI)]
def n54_61 : Ann := (.seq (.draw [0, 1, 2, 3, 4, 5, 6, 7, 8, 9, 10]) (.seq (.draw [0, 1, 2, 3, 4, 5, 6, 7, 8, 9, 10, 11, 12, 13, 14, 15, 16]) (.draw [0, 1, 2, 3, 4, 5, 6, 7, 8, 9, 10, 11, 12, 13, 14])))
def n80_61 : Ann := (.draw [0, 1, 2, 3, 4, 5, 6, 7, 8, 9, 10, 11, 12, 13, 14, 15, 16, 17, 18, 19, 20, 21, 22])
noncomputable def s61 : List (Nat × Callee) := [(54, .inl Try.f54 b54 n54_61), d55, d57, d75, d76, d77, d79, (80, .inl Try.f80 b80 n80_61), d83, d84]
theorem h61 : HOK P (handler tab s61 8) := handler_sound tabOK mixed (callsOK_get (l := s61) ⟨⟨Try.func54, by kernel_rfl, by kernel_rfl⟩, c55, c57, c75, c76, c77, c79, ⟨Try.func80, by kernel_rfl, by kernel_rfl⟩, c83, c84, trivial⟩) 8
def n61 : Ann := (.seq .no (.seq .no (.seq (.draw [0, 1, 2, 3, 4, 5, 6]) (.seq (.blk (.seq (.join [(.normal, [.keep 2 2, .keep 3 3, .keep 4 4, .keep 7 7, .slot 8 false yU, .slot 9 false yI, .keep 16 16, .keep 19 19, .keep 23 23, .keep 26 26, .slot 28 false .bool, .obj 16 y45, .obj 3 y8, .obj 4 y48, .obj 7 y31])] .no) .no)) (.seq .no (.seq .no (.seq .no (.seq .no (.seq (.draw [0, 1, 2, 3, 4, 5, 6, 7, 8, 9, 10, 11, 12]) (.seq (.blk (.loop [.keep 2 2, .keep 4 4, .keep 7 7, .slot 8 false yU, .slot 9 false yI, .slot 12 false yI, .keep 16 16, .keep 19 19, .keep 23 23, .keep 26 26, .keep 54 54, .keep 55 55, .keep 63 63, .keep 71 71, .keep 73 73, .obj 16 y45, .obj 4 y48, .obj 73 y31] [(.exit 1, [.keep 2 2, .keep 4 4, .keep 7 7, .slot 8 false yU, .slot 9 false yI, .slot 12 false yI, .keep 16 16, .keep 19 19, .keep 23 23, .keep 26 26, .keep 54 54, .keep 55 55, .keep 63 63, .keep 71 71, .keep 73 73, .obj 16 y45, .obj 4 y48, .obj 73 y31])] .no)) (.seq (.draw [0, 1, 2, 3, 4, 5, 6, 7, 8, 9, 10, 11, 12, 13, 14, 15, 16]) .no)))))))))))
noncomputable abbrev b61 : Code := Try.f61.body.getD .skip
theorem e61 (x : denL i61) : evalF tab s61 8 Try.f61 b61 n61 i61 o61 x = g_coder_Next x.1 x.2 := by kernel_rfl
theorem c61 : Contract P 61 i61 o61 (fun x => g_coder_Next x.1 x.2) := evalF_contract tabOK mixed h61 Try.func61 (body := b61) (by kernel_rfl) (by kernel_rfl) e61
noncomputable def d61 : Nat × Callee := (61, .sem i61 o61 fun x => g_coder_Next x.1 x.2)

abbrev i39 : List (Bool × Ty) := [(false, y26), (false, y26)]
abbrev o39 : List (Bool × Ty) := [(false, .bool)]
noncomputable def s39 : List (Nat × Callee) := []
theorem h39 : HOK P (handler tab s39 8) := handler_sound tabOK mixed (callsOK_get (l := s39) trivial) 8
def n39 : Ann := (.seq .no (.seq .no (.seq (.seq .no (.blk (.loop [.slot 0 false y26, .slot 1 false y26, .slot 12 false yI, .slot 13 false yI] [(.exit 0, []), (.ret, [.slot 4 false .bool])] (.seq .no (.seq .no (.seq (.blk (.seq .no (.seq (.draw [0, 1, 2, 3, 4, 5, 6, 7, 8]) .no))) .no)))))) .no)))
noncomputable abbrev b39 : Code := Try.f39.body.getD .skip
theorem e39 (x : denL i39) : evalF tab s39 8 Try.f39 b39 n39 i39 o39 x = g_slices_Equal_Sbyte_byte x.1 x.2 := by kernel_rfl
theorem c39 : Contract P 39 i39 o39 (fun x => g_slices_Equal_Sbyte_byte x.1 x.2) := evalF_contract tabOK mixed h39 Try.func39 (body := b39) (by kernel_rfl) (by kernel_rfl) e39
noncomputable def d39 : Nat × Callee := (39, .sem i39 o39 fun x => g_slices_Equal_Sbyte_byte x.1 x.2)

abbrev i22 : List (Bool × Ty) := [(false, y26), (true, y2)]
abbrev o22 : List (Bool × Ty) := [(true, y22), (false, yI)]
def n32_22 : Ann := (.seq .no (.seq (.seq (.join [(.normal, [.keep 0 0, .slot 1 true y2, .keep 2 2, .keep 4 4, .slot 25 false .bool, .obj 0 y22, .obj 4 y2, .obj 1002 y49])] (.draw [0, 1, 2, 3, 4, 5, 6])) .no) (.seq .no (.seq .no (.seq (.join [(.normal, [.keep 0 0, .slot 1 true y2, .keep 2 2, .keep 7 7, .keep 8 8, .obj 0 y22, .obj 7 y8, .obj 8 y2, .obj 1002 y49])] (.seq .no (.cond (.seq (.draw [0, 1, 2, 3]) (.seq .no (.blk (.loop [.keep 0 0, .slot 1 true y2, .keep 2 2, .keep 7 7, .keep 8 8, .keep 27 27, .keep 28 28, .keep 29 29, .slot 34 false yI, .obj 29 y22, .obj 7 y8, .obj 8 y2, .obj 1002 y49] [(.exit 0, [.keep 0 0, .slot 1 true y2, .keep 2 2, .keep 7 7, .keep 8 8, .keep 27 27, .keep 28 28, .keep 29 29, .obj 29 y22, .obj 7 y8, .obj 8 y2, .obj 1002 y49])] .no)))) .no))) (.seq (.seq .no (.blk (.loop [.keep 0 0, .slot 1 true y2, .keep 2 2, .keep 7 7, .keep 8 8, .slot 43 false yI, .obj 0 y22, .obj 7 y8, .obj 8 y2, .obj 1002 y49] [(.exit 2, [.keep 0 0, .slot 1 true y2, .keep 2 2, .obj 0 y22, .obj 1002 y49]), (.ret, [.keep 0 0, .slot 1 true y2, .keep 2 2, .slot 6 false .bool, .obj 0 y22, .obj 1002 y49])] (.seq .no (.seq .no (.seq (.blk (.seq .no (.seq (.draw [0, 1, 2, 3, 4, 5, 6, 7, 8, 9, 10, 11]) (.seq (.seq (.join [(.normal, [.keep 0 0, .slot 1 true y2, .keep 2 2, .keep 7 7, .keep 8 8, .slot 10 false yI, .keep 11 11, .slot 43 false yI, .keep 46 46, .keep 48 48, .keep 49 49, .slot 59 false .bool, .obj 48 y22, .obj 7 y8, .obj 8 y2, .obj 11 yI, .obj 1002 y49])] .no) .no) (.draw [0, 1, 2, 3, 4, 5, 6, 7, 8, 9, 10]))))) .no)))))) (.seq .no (.seq .no (.seq .no (.seq (.seq .no (.blk (.loop [.keep 0 0, .slot 1 true y2, .keep 2 2, .keep 12 12, .keep 71 71, .keep 72 72, .keep 73 73, .keep 77 77, .keep 78 78, .keep 79 79, .slot 86 false yI, .obj 78 y22, .obj 12 y2, .obj 1002 y49] [(.exit 4, [.keep 0 0, .slot 1 true y2, .keep 2 2, .keep 71 71, .keep 72 72, .keep 73 73, .keep 77 77, .keep 78 78, .keep 79 79, .obj 78 y22, .obj 1002 y49]), (.ret, [.keep 0 0, .slot 1 true y2, .keep 2 2, .slot 6 false .bool, .keep 71 71, .keep 72 72, .keep 73 73, .keep 77 77, .keep 78 78, .keep 79 79, .obj 78 y22, .obj 1002 y49])] (.seq .no (.seq .no (.seq (.join [(.normal, [.keep 0 0, .slot 1 true y2, .keep 2 2, .keep 12 12, .keep 71 71, .keep 72 72, .keep 73 73, .keep 77 77, .keep 78 78, .keep 79 79, .slot 86 false yI, .obj 78 y22, .obj 12 y2, .obj 1002 y49]), (.ret, [.keep 0 0, .slot 1 true y2, .keep 2 2, .slot 6 false .bool, .keep 71 71, .keep 72 72, .keep 73 73, .keep 77 77, .keep 78 78, .keep 79 79, .obj 78 y22, .obj 1002 y49])] (.blk (.seq .no (.seq .no (.seq .no (.seq .no (.seq .no (.seq (.seq (.join [(.normal, [.keep 0 0, .slot 1 true y2, .keep 2 2, .keep 12 12, .slot 14 false yI, .slot 17 false yI, .keep 18 18, .keep 71 71, .keep 72 72, .keep 73 73, .keep 77 77, .keep 78 78, .keep 79 79, .slot 86 false yI, .keep 102 102, .keep 104 104, .keep 105 105, .slot 114 false .bool, .obj 104 y22, .obj 12 y2, .obj 18 yI, .obj 1002 y49])] .no) .no) (.draw [0, 1, 2, 3, 4, 5, 6, 7, 8]))))))))) .no)))))) .no))))))))))
def n37_22 : Ann := (.join [(.ret, [.slot 0 false y26, .nbox 2 y49])] .no)
def n38_22 : Ann := (.seq .no (.seq (.seq .no (.cond (.draw [0, 1, 2, 3, 4, 5, 6, 7, 8, 9, 10, 11, 12, 13, 14, 15, 16, 17, 18, 19, 20]) .no)) .no))
noncomputable def s22 : List (Nat × Callee) := [d8, d29, (32, .inl Try.f32 b32 n32_22), (37, .inl Try.f37 b37 n37_22), (38, .inl Try.f38 b38 n38_22), d39, d45, d46, d47, d48, d49, d50, d51, d59, d60, d61]
theorem h22 : HOK P (handler tab s22 8) := handler_sound tabOK mixed (callsOK_get (l := s22) ⟨c8, c29, ⟨Try.func32, by kernel_rfl, by kernel_rfl⟩, ⟨Try.func37, by kernel_rfl, by kernel_rfl⟩, ⟨Try.func38, by kernel_rfl, by kernel_rfl⟩, c39, c45, c46, c47, c48, c49, c50, c51, c59, c60, c61, trivial⟩) 8
def n22 : Ann := (.seq .no (.seq .no (.seq (.seq (.join [(.normal, [.slot 0 false y26, .keep 3 3, .keep 4 4, .slot 20 false .bool, .obj 3 y2, .obj 4 y22])] (.draw [0, 1, 2, 3, 4, 5])) .no) (.seq (.seq .no (.seq (.join [(.normal, [.keep 4 4, .slot 35 false .bool, .obj 4 y22])] .no) .no)) .no))))
noncomputable abbrev b22 : Code := Try.f22.body.getD .skip
theorem e22 (x : denL i22) : evalF tab s22 8 Try.f22 b22 n22 i22 o22 x = g_frame_Read x.1 x.2 := by kernel_rfl
theorem c22 : Contract P 22 i22 o22 (fun x => g_frame_Read x.1 x.2) := evalF_contract tabOK mixed h22 Try.func22 (body := b22) (by kernel_rfl) (by kernel_rfl) e22
noncomputable def d22 : Nat × Callee := (22, .sem i22 o22 fun x => g_frame_Read x.1 x.2)

abbrev i26 : List (Bool × Ty) := [(true, y1), (true, y2)]
abbrev o26 : List (Bool × Ty) := [(true, y1), (false, yI)]
noncomputable def s26 : List (Nat × Callee) := [d30, d43, d44]
theorem h26 : HOK P (handler tab s26 8) := handler_sound tabOK mixed (callsOK_get (l := s26) ⟨c30, c43, c44, trivial⟩) 8
def n26 : Ann := (.seq .no (.seq .no (.seq .no (.seq (.seq .no (.blk (.loop [.keep 2 2, .keep 4 4, .slot 5 false yI, .keep 6 6, .slot 20 false yI, .obj 2 y1, .obj 4 y1, .obj 6 y20] [(.exit 0, [.keep 4 4, .slot 5 false yI, .obj 4 y1])] (.seq .no (.seq .no (.seq (.blk (.seq .no (.draw [0, 1, 2, 3, 4, 5, 6, 7, 8, 9, 10, 11]))) .no)))))) .no))))
noncomputable abbrev b26 : Code := Try.f26.body.getD .skip
theorem e26 (x : denL i26) : evalF tab s26 8 Try.f26 b26 n26 i26 o26 x = g_quant_Great x.1 x.2 := by kernel_rfl
theorem c26 : Contract P 26 i26 o26 (fun x => g_quant_Great x.1 x.2) := evalF_contract tabOK mixed h26 Try.func26 (body := b26) (by kernel_rfl) (by kernel_rfl) e26
noncomputable def d26 : Nat × Callee := (26, .sem i26 o26 fun x => g_quant_Great x.1 x.2)

abbrev i9 : List (Bool × Ty) := [(true, y7), (false, y26)]
abbrev o9 : List (Bool × Ty) := [(true, y7), (true, y1), (false, yI)]
def n20_9 : Ann := (.seq .no (.seq (.draw [0, 1, 2, 3, 4, 5]) .no))
def n21_9 : Ann := (.seq .no (.seq (.seq .no (.cond (.seq (.draw [0, 1, 2, 3, 4, 5, 6, 7, 8]) .no) .no)) (.seq (.draw [0, 1, 2, 3, 4, 5, 6, 7, 8, 9, 10]) .no)))
def n23_9 : Ann := (.seq .no (.seq (.join [(.normal, [.keep 0 0, .slot 1 false yI, .obj 0 y19])] .no) .no))
def n24_9 : Ann := (.seq (.draw [0, 1, 2, 3, 4, 5, 6, 7, 8, 9, 10, 11, 12, 13, 14, 15, 16, 17, 18]) .no)
def n25_9 : Ann := (.seq .no (.seq .no (.seq .no (.seq .no (.seq (.draw [0, 1, 2, 3, 4, 5, 6, 7, 8, 9, 10, 11, 12, 13, 14, 15, 16, 17, 18, 19, 20]) .no)))))
noncomputable def s9 : List (Nat × Callee) := [(20, .inl Try.f20 b20 n20_9), (21, .inl Try.f21 b21 n21_9), d22, (23, .inl Try.f23 b23 n23_9), (24, .inl Try.f24 b24 n24_9), (25, .inl Try.f25 b25 n25_9), d26, d27, d40, d41, d42]
theorem h9 : HOK P (handler tab s9 8) := handler_sound tabOK mixed (callsOK_get (l := s9) ⟨⟨Try.func20, by kernel_rfl, by kernel_rfl⟩, ⟨Try.func21, by kernel_rfl, by kernel_rfl⟩, c22, ⟨Try.func23, by kernel_rfl, by kernel_rfl⟩, ⟨Try.func24, by kernel_rfl, by kernel_rfl⟩, ⟨Try.func25, by kernel_rfl, by kernel_rfl⟩, c26, c27, c40, c41, c42, trivial⟩) 8
def n9 : Ann := (.seq .no (.seq .no (.seq .no (.seq .no (.seq (.join [(.normal, [.keep 4 4, .keep 5 5, .keep 7 7, .keep 8 8, .slot 9 false yI, .keep 11 11, .keep 12 12, .keep 13 13, .keep 14 14, .obj 4 y7, .obj 5 y1, .obj 13 y19, .obj 8 y22])] (.seq (.join [(.normal, [.keep 4 4, .keep 5 5, .keep 7 7, .keep 8 8, .slot 9 false yI, .keep 11 11, .keep 12 12, .keep 13 13, .keep 14 14, .slot 40 false .bool, .obj 4 y7, .obj 5 y1, .obj 13 y19, .obj 8 y22])] .no) .no)) (.seq .no (.seq (.draw [0, 1, 2, 3, 4, 5, 6, 7, 8, 9, 10, 11, 12, 13, 14, 15, 16, 17, 18, 19, 20, 21, 22]) (.seq (.join [(.normal, [.keep 4 4, .keep 5 5, .keep 7 7, .keep 11 11, .keep 12 12, .keep 13 13, .keep 14 14, .keep 41 41, .keep 49 49, .keep 50 50, .keep 51 51, .keep 60 60, .keep 61 61, .keep 62 62, .keep 63 63, .keep 64 64, .keep 65 65, .keep 66 66, .keep 67 67, .keep 68 68, .obj 4 y7, .obj 5 y1, .obj 67 y19])] .no) .no))))))))
noncomputable abbrev b9 : Code := Try.f9.body.getD .skip
theorem e9 (x : denL i9) : evalF tab s9 8 Try.f9 b9 n9 i9 o9 x = g_decoder_Step x.1 x.2 := by kernel_rfl
theorem c9 : Contract P 9 i9 o9 (fun x => g_decoder_Step x.1 x.2) := evalF_contract tabOK mixed h9 Try.func9 (body := b9) (by kernel_rfl) (by kernel_rfl) e9
noncomputable def d9 : Nat × Callee := (9, .sem i9 o9 fun x => g_decoder_Step x.1 x.2)

abbrev i6 : List (Bool × Ty) := []
abbrev o6 : List (Bool × Ty) := [(false, .bool)]
noncomputable def s6 : List (Nat × Callee) := [d8, d9, d10, d13]
theorem h6 : HOK P (handler tab s6 8) := handler_sound tabOK mixed (callsOK_get (l := s6) ⟨c8, c9, c10, c13, trivial⟩) 8
def n6 : Ann := .no
noncomputable abbrev b6 : Code := Try.f6.body.getD .skip
theorem e6 (x : denL i6) : evalF tab s6 8 Try.f6 b6 n6 i6 o6 x = g_law11_live := by kernel_rfl
theorem c6 : Contract P 6 i6 o6 (fun x => g_law11_live) := evalF_contract tabOK mixed h6 Try.func6 (body := b6) (by kernel_rfl) (by kernel_rfl) e6
noncomputable def d6 : Nat × Callee := (6, .sem i6 o6 fun x => g_law11_live)

abbrev i28 : List (Bool × Ty) := [(false, yI), (false, yI)]
abbrev o28 : List (Bool × Ty) := [(false, .bool)]
noncomputable def s28 : List (Nat × Callee) := []
theorem h28 : HOK P (handler tab s28 8) := handler_sound tabOK mixed (callsOK_get (l := s28) trivial) 8
def n28 : Ann := .no
noncomputable abbrev b28 : Code := Try.f28.body.getD .skip
theorem e28 (x : denL i28) : evalF tab s28 8 Try.f28 b28 n28 i28 o28 x = g_r07_within x.1 x.2 := by kernel_rfl
theorem c28 : Contract P 28 i28 o28 (fun x => g_r07_within x.1 x.2) := evalF_contract tabOK mixed h28 Try.func28 (body := b28) (by kernel_rfl) (by kernel_rfl) e28
noncomputable def d28 : Nat × Callee := (28, .sem i28 o28 fun x => g_r07_within x.1 x.2)

abbrev i15 : List (Bool × Ty) := [(true, y1)]
abbrev o15 : List (Bool × Ty) := [(false, .bool)]
noncomputable def s15 : List (Nat × Callee) := [d28]
theorem h15 : HOK P (handler tab s15 8) := handler_sound tabOK mixed (callsOK_get (l := s15) ⟨c28, trivial⟩) 8
def n15 : Ann := (.seq .no (.seq (.seq .no (.blk (.loop [.slot 5 true y1, .slot 6 false yI] [(.exit 0, []), (.ret, [.slot 2 false .bool])] .no))) .no))
noncomputable abbrev b15 : Code := Try.f15.body.getD .skip
theorem e15 (x : denL i15) : evalF tab s15 8 Try.f15 b15 n15 i15 o15 x = g_r07_MayTail x := by kernel_rfl
theorem c15 : Contract P 15 i15 o15 (fun x => g_r07_MayTail x) := evalF_contract tabOK mixed h15 Try.func15 (body := b15) (by kernel_rfl) (by kernel_rfl) e15
noncomputable def d15 : Nat × Callee := (15, .sem i15 o15 fun x => g_r07_MayTail x)

abbrev i16 : List (Bool × Ty) := [(true, y2)]
abbrev o16 : List (Bool × Ty) := [(false, yI)]
noncomputable def s16 : List (Nat × Callee) := []
theorem h16 : HOK P (handler tab s16 8) := handler_sound tabOK mixed (callsOK_get (l := s16) trivial) 8
def n16 : Ann := (.seq .no (.seq (.seq .no (.blk (.loop [.slot 5 true y2, .slot 6 false yI] [(.exit 0, []), (.ret, [.slot 2 false yI])] (.seq .no (.seq .no (.seq (.blk (.seq .no (.seq (.join [(.normal, [.slot 5 true y2, .slot 6 false yI, .slot 14 false .bool])] .no) .no))) .no)))))) .no))
noncomputable abbrev b16 : Code := Try.f16.body.getD .skip
theorem e16 (x : denL i16) : evalF tab s16 8 Try.f16 b16 n16 i16 o16 x = g_r08_Check x := by kernel_rfl
theorem c16 : Contract P 16 i16 o16 (fun x => g_r08_Check x) := evalF_contract tabOK mixed h16 Try.func16 (body := b16) (by kernel_rfl) (by kernel_rfl) e16
noncomputable def d16 : Nat × Callee := (16, .sem i16 o16 fun x => g_r08_Check x)

abbrev i7 : List (Bool × Ty) := [(true, y7)]
abbrev o7 : List (Bool × Ty) := [(false, yI)]
noncomputable def s7 : List (Nat × Callee) := [d15, d16]
theorem h7 : HOK P (handler tab s7 8) := handler_sound tabOK mixed (callsOK_get (l := s7) ⟨c15, c16, trivial⟩) 8
def n7 : Ann := (.seq .no (.seq (.seq (.join [(.normal, [.slot 20 false .bool])] .no) .no) .no))
noncomputable abbrev b7 : Code := Try.f7.body.getD .skip
theorem e7 (x : denL i7) : evalF tab s7 8 Try.f7 b7 n7 i7 o7 x = g_r11_Check x := by kernel_rfl
theorem c7 : Contract P 7 i7 o7 (fun x => g_r11_Check x) := evalF_contract tabOK mixed h7 Try.func7 (body := b7) (by kernel_rfl) (by kernel_rfl) e7
noncomputable def d7 : Nat × Callee := (7, .sem i7 o7 fun x => g_r11_Check x)

abbrev i3 : List (Bool × Ty) := [(true, y7), (true, y7), (true, y22), (false, y50)]
abbrev o3 : List (Bool × Ty) := [(false, .bool)]
noncomputable def s3 : List (Nat × Callee) := [d6, d7, d8, d9]
theorem h3 : HOK P (handler tab s3 8) := handler_sound tabOK mixed (callsOK_get (l := s3) ⟨c6, c7, c8, c9, trivial⟩) 8
def n3 : Ann := (.seq .no (.seq .no (.seq .no (.seq (.seq (.join [(.normal, [.slot 3 false y50, .keep 4 4, .keep 5 5, .keep 6 6, .slot 9 false .bool, .slot 43 false .bool, .obj 4 y7, .obj 5 y7, .obj 6 y22])] .no) .no) (.seq .no (.seq .no (.seq .no (.seq .no (.seq .no (.seq (.seq (.join [(.normal, [.slot 3 false y50, .slot 9 false .bool, .keep 12 12, .keep 15 15, .slot 74 false .bool, .obj 12 y7, .obj 15 y7])] .no) .no) (.seq (.seq .no (.blk (.loop [.slot 9 false .bool, .keep 12 12, .keep 15 15, .slot 75 false y50, .slot 76 false yI, .slot 77 false yI, .obj 12 y7, .obj 15 y7] [(.exit 0, [.slot 9 false .bool, .keep 12 12, .keep 15 15, .obj 12 y7, .obj 15 y7]), (.ret, [.slot 8 false .bool])] (.seq .no (.seq .no (.seq (.join [(.normal, [.slot 9 false .bool, .keep 12 12, .keep 15 15, .slot 75 false y50, .slot 76 false yI, .slot 77 false yI, .obj 12 y7, .obj 15 y7]), (.ret, [.slot 8 false .bool])] (.blk (.seq .no (.seq .no (.seq .no (.seq .no (.seq .no (.seq .no (.seq (.seq (.join [(.normal, [.slot 9 false .bool, .keep 12 12, .keep 15 15, .keep 22 22, .keep 25 25, .slot 75 false y50, .slot 76 false yI, .slot 77 false yI, .keep 86 86, .slot 117 false .bool, .obj 12 y7, .obj 15 y7, .obj 22 y7, .obj 25 y7])] .no) .no) .no))))))))) .no)))))) .no)))))))))))
noncomputable abbrev b3 : Code := Try.f3.body.getD .skip
theorem e3 (x : denL i3) : evalF tab s3 8 Try.f3 b3 n3 i3 o3 x = g_law11_DecoderFresh x.1 x.2.1 x.2.2.1 x.2.2.2 := by kernel_rfl
theorem c3 : Contract P 3 i3 o3 (fun x => g_law11_DecoderFresh x.1 x.2.1 x.2.2.1 x.2.2.2) := evalF_contract tabOK mixed h3 Try.func3 (body := b3) (by kernel_rfl) (by kernel_rfl) e3
noncomputable def d3 : Nat × Callee := (3, .sem i3 o3 fun x => g_law11_DecoderFresh x.1 x.2.1 x.2.2.1 x.2.2.2)

abbrev i4 : List (Bool × Ty) := [(true, y7), (false, yI)]
abbrev o4 : List (Bool × Ty) := [(false, .bool)]
noncomputable def s4 : List (Nat × Callee) := [d6, d7, d10]
theorem h4 : HOK P (handler tab s4 8) := handler_sound tabOK mixed (callsOK_get (l := s4) ⟨c6, c7, c10, trivial⟩) 8
def n4 : Ann := (.seq .no (.seq .no (.seq .no (.seq .no (.seq .no (.seq (.seq .no (.blk (.loop [.keep 2 2, .slot 5 false .bool, .slot 21 false yI, .slot 22 false yI, .obj 2 y7] [(.exit 0, [.slot 5 false .bool]), (.ret, [.slot 4 false .bool])] (.seq .no (.seq .no (.seq (.blk (.seq .no (.seq .no (.seq (.seq (.join [(.normal, [.keep 2 2, .slot 5 false .bool, .slot 6 false yI, .keep 7 7, .keep 8 8, .slot 21 false yI, .slot 22 false yI, .slot 50 false .bool, .obj 2 y7, .obj 7 y7, .obj 8 y1])] .no) .no) (.seq (.seq (.join [(.normal, [.keep 2 2, .slot 5 false .bool, .keep 7 7, .slot 21 false yI, .slot 22 false yI, .slot 75 false .bool, .obj 2 y7, .obj 7 y7])] .no) .no) .no))))) .no)))))) .no))))))
noncomputable abbrev b4 : Code := Try.f4.body.getD .skip
theorem e4 (x : denL i4) : evalF tab s4 8 Try.f4 b4 n4 i4 o4 x = g_law11_DecoderRests x.1 x.2 := by kernel_rfl
theorem c4 : Contract P 4 i4 o4 (fun x => g_law11_DecoderRests x.1 x.2) := evalF_contract tabOK mixed h4 Try.func4 (body := b4) (by kernel_rfl) (by kernel_rfl) e4
noncomputable def d4 : Nat × Callee := (4, .sem i4 o4 fun x => g_law11_DecoderRests x.1 x.2)

abbrev i11 : List (Bool × Ty) := [(false, y51)]
abbrev o11 : List (Bool × Ty) := [(false, .bool)]
noncomputable def s11 : List (Nat × Callee) := []
theorem h11 : HOK P (handler tab s11 8) := handler_sound tabOK mixed (callsOK_get (l := s11) trivial) 8
def n11 : Ann := (.seq .no (.seq (.seq .no (.blk (.loop [.slot 0 false y51, .slot 5 false y51, .slot 6 false yI, .slot 7 false yI] [(.exit 0, [.slot 0 false y51]), (.ret, [.slot 2 false .bool])] .no))) .no))
noncomputable abbrev b11 : Code := Try.f11.body.getD .skip
theorem e11 (x : denL i11) : evalF tab s11 8 Try.f11 b11 n11 i11 o11 x = g_law11_few x := by kernel_rfl
theorem c11 : Contract P 11 i11 o11 (fun x => g_law11_few x) := evalF_contract tabOK mixed h11 Try.func11 (body := b11) (by kernel_rfl) (by kernel_rfl) e11
noncomputable def d11 : Nat × Callee := (11, .sem i11 o11 fun x => g_law11_few x)

abbrev i12 : List (Bool × Ty) := [(true, y7), (false, y51)]
abbrev o12 : List (Bool × Ty) := [(true, y7), (false, y52), (false, yI)]
noncomputable def s12 : List (Nat × Callee) := [d9, d10, d27]
theorem h12 : HOK P (handler tab s12 8) := handler_sound tabOK mixed (callsOK_get (l := s12) ⟨c9, c10, c27, trivial⟩) 8
def n12 : Ann := (.seq .no (.seq .no (.seq .no (.seq (.seq .no (.blk (.loop [.keep 2 2, .keep 4 4, .slot 7 false yI, .slot 8 false y52, .slot 14 false y51, .slot 15 false yI, .slot 16 false yI, .obj 2 y7, .obj 4 y7] [(.exit 0, [.keep 2 2, .keep 4 4, .slot 7 false yI, .slot 8 false y52, .obj 2 y7, .obj 4 y7])] (.seq .no (.seq .no (.seq (.blk (.seq .no (.seq .no (.seq .no (.seq (.join [(.normal, [.keep 2 2, .keep 4 4, .slot 7 false yI, .slot 8 false y52, .keep 11 11, .slot 14 false y51, .slot 15 false yI, .slot 16 false yI, .obj 2 y7, .obj 4 y7, .obj 11 y1])] .no) .no))))) .no)))))) .no))))
noncomputable abbrev b12 : Code := Try.f12.body.getD .skip
theorem e12 (x : denL i12) : evalF tab s12 8 Try.f12 b12 n12 i12 o12 x = g_decoder_All x.1 x.2 := by kernel_rfl
theorem c12 : Contract P 12 i12 o12 (fun x => g_decoder_All x.1 x.2) := evalF_contract tabOK mixed h12 Try.func12 (body := b12) (by kernel_rfl) (by kernel_rfl) e12
noncomputable def d12 : Nat × Callee := (12, .sem i12 o12 fun x => g_decoder_All x.1 x.2)

abbrev i14 : List (Bool × Ty) := [(false, y53), (false, y53)]
abbrev o14 : List (Bool × Ty) := [(false, .bool)]
noncomputable def s14 : List (Nat × Callee) := []
theorem h14 : HOK P (handler tab s14 8) := handler_sound tabOK mixed (callsOK_get (l := s14) trivial) 8
def n14 : Ann := (.seq .no (.seq .no (.seq (.seq .no (.blk (.loop [.slot 0 false y53, .slot 1 false y53, .slot 12 false yI, .slot 13 false yI] [(.exit 0, []), (.ret, [.slot 4 false .bool])] (.seq .no (.seq .no (.seq (.blk (.seq .no (.seq (.draw [0, 1, 2, 3, 4, 5, 6, 7, 8]) .no))) .no)))))) .no)))
noncomputable abbrev b14 : Code := Try.f14.body.getD .skip
theorem e14 (x : denL i14) : evalF tab s14 8 Try.f14 b14 n14 i14 o14 x = g_r07_SamePcms x.1 x.2 := by kernel_rfl
theorem c14 : Contract P 14 i14 o14 (fun x => g_r07_SamePcms x.1 x.2) := evalF_contract tabOK mixed h14 Try.func14 (body := b14) (by kernel_rfl) (by kernel_rfl) e14
noncomputable def d14 : Nat × Callee := (14, .sem i14 o14 fun x => g_r07_SamePcms x.1 x.2)

abbrev i5 : List (Bool × Ty) := [(false, y51), (false, yI)]
abbrev o5 : List (Bool × Ty) := [(false, .bool)]
noncomputable def s5 : List (Nat × Callee) := [d6, d11, d12, d13, d14]
theorem h5 : HOK P (handler tab s5 8) := handler_sound tabOK mixed (callsOK_get (l := s5) ⟨c6, c11, c12, c13, c14, trivial⟩) 8
def n5 : Ann := (.seq .no (.seq .no (.seq .no (.seq .no (.seq .no (.seq (.draw [0, 1, 2, 3, 4, 5, 6, 7, 8, 9, 10, 11, 12]) (.seq .no (.seq (.draw [0, 1, 2, 3, 4, 5, 6, 7, 8, 9, 10, 11, 12]) .no))))))))
noncomputable abbrev b5 : Code := Try.f5.body.getD .skip
theorem e5 (x : denL i5) : evalF tab s5 8 Try.f5 b5 n5 i5 o5 x = g_law11_DecoderGoes x.1 x.2 := by kernel_rfl
theorem c5 : Contract P 5 i5 o5 (fun x => g_law11_DecoderGoes x.1 x.2) := evalF_contract tabOK mixed h5 Try.func5 (body := b5) (by kernel_rfl) (by kernel_rfl) e5
noncomputable def d5 : Nat × Callee := (5, .sem i5 o5 fun x => g_law11_DecoderGoes x.1 x.2)

end Go.Rx

