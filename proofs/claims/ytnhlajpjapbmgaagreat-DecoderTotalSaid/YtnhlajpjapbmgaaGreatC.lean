/- Parts of a proof: evaluation of Go code over typed values, and what it computes. -/
import Derived.Test.YtnhlajpjapbmgaaGreatX4
import Derived.Test.YtnhlajpjapbmgaaGreatF
import Derived.KernelRfl
import Derived.Test.YtnhlajpjapbmgaaGreatChecked
set_option linter.unusedSimpArgs false
set_option linter.unusedVariables false
set_option linter.unusedSectionVars false
set_option linter.unusedVariables false
set_option maxRecDepth 100000
namespace Go.Rx
open Go.Proofs Go.Sq
def tab : Tab := [
 (3, { td := .int .i64, size := 1, bytes := 8, ty := some (.int .i64), zc := [.int .i64 0] }),
 (4, { td := .bool, size := 1, bytes := 1, ty := some .bool, zc := [.bool false] }),
 (5, { td := .int .u8, size := 1, bytes := 1, ty := some (.int .u8), zc := [.int .u8 0] }),
 (9, { td := .str, size := 1, bytes := 16, ty := some .str, zc := [.str ByteArray.empty] }),
 (20, { td := .other, size := 1, bytes := 16, ty := none, zc := [.nili] }),
 (22, { td := .arr 16 3, size := 16, bytes := 128, ty := some (.arr 16 (.int .i64)), zc := [.arr 16 (.int .i64) (List.replicate 16 (dflt (.int .i64)))], eq := true }),
 (23, { td := .arr 16 3, size := 16, bytes := 128, ty := some (.arr 16 (.int .i64)), zc := [.arr 16 (.int .i64) (List.replicate 16 (dflt (.int .i64)))], eq := true }),
 (25, { td := .arr 6 3, size := 6, bytes := 48, ty := some (.arr 6 (.int .i64)), zc := [.arr 6 (.int .i64) (List.replicate 6 (dflt (.int .i64)))], eq := true }),
 (26, { td := .int .u32, size := 1, bytes := 4, ty := some (.int .u32), zc := [.int .u32 0] }),
 (28, { td := .st [(0, 23), (16, 25), (22, 4), (23, 4), (24, 26)], size := 25, bytes := 184, ty := some (.pair (.arr 16 (.int .i64)) (.pair (.arr 6 (.int .i64)) (.pair .bool (.pair .bool (.int .u32))))), zc := [.arr 16 (.int .i64) (List.replicate 16 (dflt (.int .i64))), .arr 6 (.int .i64) (List.replicate 6 (dflt (.int .i64))), .bool false, .bool false, .int .u32 0], eq := true }),
 (29, { td := .sl 38, size := 1, bytes := 24, ty := some (.sl (.sl (.int .u8))), zc := [.nilsl] }),
 (32, { td := .sl 40, size := 1, bytes := 24, ty := some (.sl (.arr 16 (.int .i64))), zc := [.nilsl] }),
 (33, { td := .int .i64, size := 1, bytes := 8, ty := some (.int .i64), zc := [.int .i64 0] }),
 (38, { td := .sl 5, size := 1, bytes := 24, ty := some (.sl (.int .u8)), zc := [.nilsl] }),
 (40, { td := .arr 16 3, size := 16, bytes := 128, ty := some (.arr 16 (.int .i64)), zc := [.arr 16 (.int .i64) (List.replicate 16 (dflt (.int .i64)))], eq := true }),
 (47, { td := .sl 3, size := 1, bytes := 24, ty := some (.sl (.int .i64)), zc := [.nilsl] }),
 (55, { td := .st [(0, 3), (1, 25), (7, 22)], size := 23, bytes := 184, ty := some (.pair (.int .i64) (.pair (.arr 6 (.int .i64)) (.arr 16 (.int .i64)))), zc := [.int .i64 0, .arr 6 (.int .i64) (List.replicate 6 (dflt (.int .i64))), .arr 16 (.int .i64) (List.replicate 16 (dflt (.int .i64)))] }),
 (58, { td := .ptr 62, size := 1, bytes := 8, ty := none, zc := [.nilp] }),
 (62, { td := .st [(0, 28), (25, 40), (41, 33)], size := 42, bytes := 320, ty := some (.pair (.pair (.arr 16 (.int .i64)) (.pair (.arr 6 (.int .i64)) (.pair .bool (.pair .bool (.int .u32))))) (.pair (.arr 16 (.int .i64)) (.int .i64))), zc := [.arr 16 (.int .i64) (List.replicate 16 (dflt (.int .i64))), .arr 6 (.int .i64) (List.replicate 6 (dflt (.int .i64))), .bool false, .bool false, .int .u32 0, .arr 16 (.int .i64) (List.replicate 16 (dflt (.int .i64))), .int .i64 0] }),
 (64, { td := .ptr 97, size := 1, bytes := 8, ty := none, zc := [.nilp] }),
 (66, { td := .other, size := 1, bytes := 8, ty := none, zc := [.nilf] }),
 (67, { td := .ptr 3, size := 1, bytes := 8, ty := none, zc := [.nilp] }),
 (69, { td := .st [(0, 47)], size := 1, bytes := 24, ty := some (.sl (.int .i64)), zc := [.nilsl] }),
 (74, { td := .arr 16 3, size := 16, bytes := 128, ty := some (.arr 16 (.int .i64)), zc := [.arr 16 (.int .i64) (List.replicate 16 (dflt (.int .i64)))] }),
 (79, { td := .sl 69, size := 1, bytes := 24, ty := some (.sl (.sl (.int .i64))), zc := [.nilsl] }),
 (83, { td := .st [(0, 38), (1, 3)], size := 2, bytes := 32, ty := some (.pair (.sl (.int .u8)) (.int .i64)), zc := [.nilsl, .int .i64 0] }),
 (88, { td := .arr 32 3, size := 32, bytes := 256, ty := some (.arr 32 (.int .i64)), zc := [.arr 32 (.int .i64) (List.replicate 32 (dflt (.int .i64)))] }),
 (89, { td := .arr 32 3, size := 32, bytes := 256, ty := some (.arr 32 (.int .i64)), zc := [.arr 32 (.int .i64) (List.replicate 32 (dflt (.int .i64)))] }),
 (91, { td := .other, size := 1, bytes := 8, ty := none, zc := [.nilf] }),
 (95, { td := .st [(0, 26), (1, 26), (2, 26), (3, 83), (5, 3)], size := 6, bytes := 56, ty := some (.pair (.int .u32) (.pair (.int .u32) (.pair (.int .u32) (.pair (.pair (.sl (.int .u8)) (.int .i64)) (.int .i64))))), zc := [.int .u32 0, .int .u32 0, .int .u32 0, .nilsl, .int .i64 0, .int .i64 0] }),
 (97, { td := .st [(0, 95), (6, 33)], size := 7, bytes := 64, ty := some (.pair (.pair (.int .u32) (.pair (.int .u32) (.pair (.int .u32) (.pair (.pair (.sl (.int .u8)) (.int .i64)) (.int .i64))))) (.int .i64)), zc := [.int .u32 0, .int .u32 0, .int .u32 0, .nilsl, .int .i64 0, .int .i64 0, .int .i64 0] }),
 (106, { td := .ptr 55, size := 1, bytes := 8, ty := none, zc := [.nilp] }),
 (112, { td := .st [(0, 3), (1, 3)], size := 2, bytes := 16, ty := some (.pair (.int .i64) (.int .i64)), zc := [.int .i64 0, .int .i64 0] }),
 (113, { td := .arr 16 112, size := 32, bytes := 256, ty := some (.arr 16 (.pair (.int .i64) (.int .i64))), zc := [.arr 16 (.pair (.int .i64) (.int .i64)) (List.replicate 16 (dflt (.pair (.int .i64) (.int .i64))))] }),
 (114, { td := .arr 6 3, size := 6, bytes := 48, ty := some (.arr 6 (.int .i64)), zc := [.arr 6 (.int .i64) (List.replicate 6 (dflt (.int .i64)))] }),
 (121, { td := .st [(0, 26), (1, 26), (2, 3), (3, 83)], size := 5, bytes := 48, ty := some (.pair (.int .u32) (.pair (.int .u32) (.pair (.int .i64) (.pair (.sl (.int .u8)) (.int .i64))))), zc := [.int .u32 0, .int .u32 0, .int .i64 0, .nilsl, .int .i64 0] }),
 (132, { td := .int .u64, size := 1, bytes := 8, ty := some (.int .u64), zc := [.int .u64 0] }),
 (134, { td := .int .u64, size := 1, bytes := 8, ty := some (.int .u64), zc := [.int .u64 0] }),
 (139, { td := .st [(0, 134), (1, 134)], size := 2, bytes := 16, ty := some (.pair (.int .u64) (.int .u64)), zc := [.int .u64 0, .int .u64 0] }),
 (150, { td := .arr 16 47, size := 16, bytes := 384, ty := some (.arr 16 (.sl (.int .i64))), zc := [.arr 16 (.sl (.int .i64)) (List.replicate 16 (dflt (.sl (.int .i64))))] }),
 (152, { td := .st [(0, 88), (32, 150)], size := 48, bytes := 640, ty := some (.pair (.arr 32 (.int .i64)) (.arr 16 (.sl (.int .i64)))), zc := [.arr 32 (.int .i64) (List.replicate 32 (dflt (.int .i64))), .arr 16 (.sl (.int .i64)) (List.replicate 16 (dflt (.sl (.int .i64))))] }),
 (158, { td := .ptr 163, size := 1, bytes := 8, ty := none, zc := [.nilp] }),
 (163, { td := .st [(0, 139), (2, 3), (3, 83), (5, 33)], size := 6, bytes := 64, ty := some (.pair (.pair (.int .u64) (.int .u64)) (.pair (.int .i64) (.pair (.pair (.sl (.int .u8)) (.int .i64)) (.int .i64)))), zc := [.int .u64 0, .int .u64 0, .int .i64 0, .nilsl, .int .i64 0, .int .i64 0] }),
 (165, { td := .arr 128 3, size := 128, bytes := 1024, ty := some (.arr 128 (.int .i64)), zc := [.arr 128 (.int .i64) (List.replicate 128 (dflt (.int .i64)))] }),
 (167, { td := .st [(0, 165), (128, 165)], size := 256, bytes := 2048, ty := some (.pair (.arr 128 (.int .i64)) (.arr 128 (.int .i64))), zc := [.arr 128 (.int .i64) (List.replicate 128 (dflt (.int .i64))), .arr 128 (.int .i64) (List.replicate 128 (dflt (.int .i64)))] }),
 (170, { td := .arr 7 3, size := 7, bytes := 56, ty := some (.arr 7 (.int .i64)), zc := [.arr 7 (.int .i64) (List.replicate 7 (dflt (.int .i64)))] }),
 (174, { td := .ptr 139, size := 1, bytes := 8, ty := none, zc := [.nilp] }),
 (179, { td := .other, size := 1, bytes := 8, ty := none, zc := [.nilf] }),
 (190, { td := .ptr 205, size := 1, bytes := 8, ty := none, zc := [.nilp] }),
 (193, { td := .st [(0, 3), (1, 3)], size := 2, bytes := 16, ty := some (.pair (.int .i64) (.int .i64)), zc := [.int .i64 0, .int .i64 0] }),
 (205, { td := .arr 128 193, size := 256, bytes := 2048, ty := some (.arr 128 (.pair (.int .i64) (.int .i64))), zc := [.arr 128 (.pair (.int .i64) (.int .i64)) (List.replicate 128 (dflt (.pair (.int .i64) (.int .i64))))] }),
 (206, { td := .arr 8 193, size := 16, bytes := 128, ty := some (.arr 8 (.pair (.int .i64) (.int .i64))), zc := [.arr 8 (.pair (.int .i64) (.int .i64)) (List.replicate 8 (dflt (.pair (.int .i64) (.int .i64))))] }),
 (213, { td := .ptr 216, size := 1, bytes := 8, ty := none, zc := [.nilp] }),
 (214, { td := .other, size := 1, bytes := 8, ty := none, zc := [.nilf] }),
 (216, { td := .st [(0, 20), (1, 214)], size := 2, bytes := 24, ty := none, zc := [.nili, .nilf] })]
noncomputable abbrev P : Program := Tryz.prog
theorem tabOK : TabOK P tab := chkTab_sound (by kernel_rfl)
theorem mixed : P.follows .mixedOrders = true := by kernel_rfl
noncomputable def bd151 : BackD := ⟨15, 0, 1, 2, 3, 0, 1, 8, 18, 11, 12, 16, 17, rO (cF (Tryz.f151.body.getD .skip)), rO (cF (cF (bkL (Tryz.f151.body.getD .skip)))), rO (cS (cS (bkL (Tryz.f151.body.getD .skip)))), (bkO (Tryz.f151.body.getD .skip)).take 6, (bkO (Tryz.f151.body.getD .skip)).drop 7, hdO ((bkO (Tryz.f151.body.getD .skip)).drop 6), atO (hdO ((bkO (Tryz.f151.body.getD .skip)).drop 6))⟩
theorem bk151 : BackOK P tab 151 6 bd151 := ⟨⟨Tryz.f151, Tryz.func151, by kernel_rfl, by kernel_rfl, by kernel_rfl, by kernel_rfl⟩, fun y l => by kernel_rfl, fun y i => by kernel_rfl, fun y l i => tk_bif (c := within i 6) (S := bkS 6 15 y l i) (by kernel_rfl) (by kernel_rfl), ⟨by kernel_rfl, by kernel_rfl, by kernel_rfl⟩, by decide, fun y i b => by kernel_rfl, fun y i => by kernel_rfl⟩
noncomputable abbrev b24 : Code := Tryz.f24.body.getD .skip
noncomputable abbrev b25 : Code := Tryz.f25.body.getD .skip
noncomputable abbrev b26 : Code := Tryz.f26.body.getD .skip
noncomputable abbrev b27 : Code := Tryz.f27.body.getD .skip
noncomputable abbrev b28 : Code := Tryz.f28.body.getD .skip
noncomputable abbrev b29 : Code := Tryz.f29.body.getD .skip
noncomputable abbrev b32 : Code := Tryz.f32.body.getD .skip
noncomputable abbrev b50 : Code := Tryz.f50.body.getD .skip
noncomputable abbrev b58 : Code := Tryz.f58.body.getD .skip
noncomputable abbrev b82 : Code := Tryz.f82.body.getD .skip
noncomputable abbrev b84 : Code := Tryz.f84.body.getD .skip
noncomputable abbrev b94 : Code := Tryz.f94.body.getD .skip
noncomputable abbrev b96 : Code := Tryz.f96.body.getD .skip
noncomputable abbrev b97 : Code := Tryz.f97.body.getD .skip
noncomputable abbrev b124 : Code := Tryz.f124.body.getD .skip
noncomputable abbrev b153 : Code := Tryz.f153.body.getD .skip
noncomputable abbrev b173 : Code := Tryz.f173.body.getD .skip
noncomputable abbrev b174 : Code := Tryz.f174.body.getD .skip
abbrev yI : Ty := .int .i64
abbrev y1 : Ty := .arr 16 yI
abbrev y2 : Ty := .arr 6 yI
abbrev yW : Ty := .int .u32
abbrev y4 : Ty := .pair .bool yW
abbrev y5 : Ty := .pair .bool y4
abbrev y6 : Ty := .pair y2 y5
abbrev y7 : Ty := .pair y1 y6
abbrev y8 : Ty := .sl yI
abbrev y9 : Ty := .arr 32 yI
abbrev y10 : Ty := .arr 7 yI
abbrev yU : Ty := .int .u64
abbrev y12 : Ty := .pair yI yI
abbrev y13 : Ty := .arr 8 y12
abbrev y14 : Ty := .arr 128 y12
abbrev y15 : Ty := .own yI
abbrev y16 : Ty := .arr 16 y8
abbrev y17 : Ty := .pair y9 y16
abbrev y18 : Ty := .pair y1 yI
abbrev y19 : Ty := .pair y7 y18
abbrev y20 : Ty := .arr 16 y12
abbrev y21 : Ty := .pair y2 y1
abbrev y22 : Ty := .pair yI y21
abbrev y23 : Ty := .sl y8
abbrev y24 : Ty := .own y8
abbrev yB : Ty := .int .u8
abbrev y26 : Ty := .sl yB
abbrev y27 : Ty := .pair y26 yI
abbrev y28 : Ty := .pair yI y27
abbrev y29 : Ty := .pair yW y28
abbrev y30 : Ty := .pair yW y29
abbrev y31 : Ty := .pair yU yU
abbrev y32 : Ty := .own yB
abbrev y33 : Ty := .pair y32 yI
abbrev y34 : Ty := .pair yI y33
abbrev y35 : Ty := .pair yW y34
abbrev y36 : Ty := .pair yW y35
abbrev y37 : Ty := .pair y27 yI
abbrev y38 : Ty := .pair yI y37
abbrev y39 : Ty := .pair y31 y38
abbrev y40 : Ty := .pair y33 yI
abbrev y41 : Ty := .pair yI y40
abbrev y42 : Ty := .pair y31 y41
abbrev y43 : Ty := .pair yW y37
abbrev y44 : Ty := .pair yW y43
abbrev y45 : Ty := .pair yW y44
abbrev y46 : Ty := .pair yW y40
abbrev y47 : Ty := .pair yW y46
abbrev y48 : Ty := .pair yW y47
abbrev y49 : Ty := .pair y45 yI
abbrev y50 : Ty := .sl y26
abbrev i15 : List (Bool × Ty) := []
abbrev o15 : List (Bool × Ty) := [(true, y7)]
noncomputable def s15 : List (Nat × Callee) := []
theorem h15 : HOK P (handler tab s15 8) := handler_sound tabOK mixed (callsOK_get (l := s15) trivial) 8
def n15 : Ann := .no
noncomputable abbrev b15 : Code := Tryz.f15.body.getD .skip
theorem e15 (x : denL i15) : evalF tab s15 8 Tryz.f15 b15 n15 i15 o15 x = g_decoder_Start := by kernel_rfl
theorem c15 : Contract P 15 i15 o15 (fun x => g_decoder_Start) := evalF_contract tabOK mixed h15 Tryz.func15 (body := b15) (by kernel_rfl) (by kernel_rfl) e15
noncomputable def d15 : Nat × Callee := (15, .sem i15 o15 fun x => g_decoder_Start)
abbrev i62 : List (Bool × Ty) := [(false, y8), (false, yI)]
abbrev o62 : List (Bool × Ty) := [(false, .bool)]
noncomputable def s62 : List (Nat × Callee) := []
theorem h62 : HOK P (handler tab s62 8) := handler_sound tabOK mixed (callsOK_get (l := s62) trivial) 8
def n62 : Ann := (.seq .no (.seq (.seq .no (.blk (.loop [.slot 1 false yI, .slot 7 false y8, .slot 8 false yI, .slot 9 false yI] [(.exit 0, []), (.ret, [.slot 4 false .bool])] (.seq .no (.seq .no (.seq (.blk (.seq .no (.seq (.join [(.normal, [.slot 1 false yI, .slot 7 false y8, .slot 8 false yI, .slot 9 false yI, .slot 21 false .bool])] .no) .no))) .no)))))) .no))
noncomputable abbrev b62 : Code := Tryz.f62.body.getD .skip
theorem e62 (x : denL i62) : evalF tab s62 8 Tryz.f62 b62 n62 i62 o62 x = g_lapped_bounded x.1 x.2 := by kernel_rfl
theorem c62 : Contract P 62 i62 o62 (fun x => g_lapped_bounded x.1 x.2) := evalF_contract tabOK mixed h62 Tryz.func62 (body := b62) (by kernel_rfl) (by kernel_rfl) e62
noncomputable def d62 : Nat × Callee := (62, .sem i62 o62 fun x => g_lapped_bounded x.1 x.2)
abbrev i63 : List (Bool × Ty) := [(false, yI), (false, yI)]
abbrev o63 : List (Bool × Ty) := [(false, yI)]
noncomputable def s63 : List (Nat × Callee) := []
theorem h63 : HOK P (handler tab s63 8) := handler_sound tabOK mixed (callsOK_get (l := s63) trivial) 8
def n63 : Ann := (.seq .no (.seq .no (.seq (.draw [0, 1, 2, 3, 4, 5, 6, 7, 8, 9]) .no)))
noncomputable abbrev b63 : Code := Tryz.f63.body.getD .skip
theorem e63 (x : denL i63) : evalF tab s63 8 Tryz.f63 b63 n63 i63 o63 x = g_fixed_Round x.1 x.2 := by kernel_rfl
theorem c63 : Contract P 63 i63 o63 (fun x => g_fixed_Round x.1 x.2) := evalF_contract tabOK mixed h63 Tryz.func63 (body := b63) (by kernel_rfl) (by kernel_rfl) e63
noncomputable def d63 : Nat × Callee := (63, .sem i63 o63 fun x => g_fixed_Round x.1 x.2)
abbrev i56 : List (Bool × Ty) := [(false, yI), (false, yI), (false, yI)]
abbrev o56 : List (Bool × Ty) := [(false, yI)]
noncomputable def s56 : List (Nat × Callee) := []
theorem h56 : HOK P (handler tab s56 8) := handler_sound tabOK mixed (callsOK_get (l := s56) trivial) 8
def n56 : Ann := .no
noncomputable abbrev b56 : Code := Tryz.f56.body.getD .skip
theorem e56 (x : denL i56) : evalF tab s56 8 Tryz.f56 b56 n56 i56 o56 x = g_fixed_within x.1 x.2.1 x.2.2 := by kernel_rfl
theorem c56 : Contract P 56 i56 o56 (fun x => g_fixed_within x.1 x.2.1 x.2.2) := evalF_contract tabOK mixed h56 Tryz.func56 (body := b56) (by kernel_rfl) (by kernel_rfl) e56
noncomputable def d56 : Nat × Callee := (56, .sem i56 o56 fun x => g_fixed_within x.1 x.2.1 x.2.2)
abbrev i34 : List (Bool × Ty) := [(false, yI), (false, yI)]
abbrev o34 : List (Bool × Ty) := [(false, yI)]
noncomputable def s34 : List (Nat × Callee) := [d56]
theorem h34 : HOK P (handler tab s34 8) := handler_sound tabOK mixed (callsOK_get (l := s34) ⟨c56, trivial⟩) 8
def n34 : Ann := .no
noncomputable abbrev b34 : Code := Tryz.f34.body.getD .skip
theorem e34 (x : denL i34) : evalF tab s34 8 Tryz.f34 b34 n34 i34 o34 x = g_fixed_Sat x.1 x.2 := by kernel_rfl
theorem c34 : Contract P 34 i34 o34 (fun x => g_fixed_Sat x.1 x.2) := evalF_contract tabOK mixed h34 Tryz.func34 (body := b34) (by kernel_rfl) (by kernel_rfl) e34
noncomputable def d34 : Nat × Callee := (34, .sem i34 o34 fun x => g_fixed_Sat x.1 x.2)
abbrev i38 : List (Bool × Ty) := [(true, y1), (true, y9)]
abbrev o38 : List (Bool × Ty) := [(true, y1), (true, y1), (false, yI)]
noncomputable def s38 : List (Nat × Callee) := [d34, d62, d63]
theorem h38 : HOK P (handler tab s38 8) := handler_sound tabOK mixed (callsOK_get (l := s38) ⟨c34, c62, c63, trivial⟩) 8
def n38 : Ann := (.seq .no (.seq (.seq (.join [(.normal, [.keep 2 2, .keep 3 3, .keep 4 4, .keep 5 5, .slot 15 false .bool, .obj 2 y1, .obj 3 y9, .obj 4 y1, .obj 5 y1])] .no) (.cond (.seq (.draw [0, 1, 2, 3, 4]) .no) .no)) (.seq (.seq .no (.blk (.loop [.keep 2 2, .keep 3 3, .keep 4 4, .keep 5 5, .slot 18 false yI, .obj 2 y1, .obj 3 y9, .obj 4 y1, .obj 5 y1] [(.exit 0, [.keep 3 3, .keep 4 4, .keep 5 5, .obj 3 y9, .obj 4 y1, .obj 5 y1])] (.seq .no (.seq .no (.seq (.blk (.seq .no (.draw [0, 1, 2, 3, 4, 5, 6, 7, 8, 9, 10, 11]))) .no)))))) (.seq (.draw [0, 1, 2]) (.seq (.draw [0, 1, 2, 3, 4]) .no)))))
noncomputable abbrev b38 : Code := Tryz.f38.body.getD .skip
theorem e38 (x : denL i38) : evalF tab s38 8 Tryz.f38 b38 n38 i38 o38 x = g_lapped_Lap x.1 x.2 := by kernel_rfl
theorem c38 : Contract P 38 i38 o38 (fun x => g_lapped_Lap x.1 x.2) := evalF_contract tabOK mixed h38 Tryz.func38 (body := b38) (by kernel_rfl) (by kernel_rfl) e38
noncomputable def d38 : Nat × Callee := (38, .sem i38 o38 fun x => g_lapped_Lap x.1 x.2)
abbrev i39 : List (Bool × Ty) := [(true, y2)]
abbrev o39 : List (Bool × Ty) := [(false, yI)]
noncomputable def s39 : List (Nat × Callee) := []
theorem h39 : HOK P (handler tab s39 8) := handler_sound tabOK mixed (callsOK_get (l := s39) trivial) 8
def n39 : Ann := (.seq .no (.seq .no (.seq (.seq .no (.blk (.loop [.keep 1 1, .keep 3 3, .slot 7 true y2, .slot 8 false yI, .obj 1 y2, .obj 3 y2] [(.exit 0, [.keep 1 1, .keep 3 3, .obj 1 y2, .obj 3 y2])] .no))) .no)))
noncomputable abbrev b39 : Code := Tryz.f39.body.getD .skip
theorem e39 (x : denL i39) : evalF tab s39 8 Tryz.f39 b39 n39 i39 o39 x = g_bands_Check x := by kernel_rfl
theorem c39 : Contract P 39 i39 o39 (fun x => g_bands_Check x) := evalF_contract tabOK mixed h39 Tryz.func39 (body := b39) (by kernel_rfl) (by kernel_rfl) e39
noncomputable def d39 : Nat × Callee := (39, .sem i39 o39 fun x => g_bands_Check x)
abbrev i19 : List (Bool × Ty) := [(true, y7)]
abbrev o19 : List (Bool × Ty) := [(false, yI)]
noncomputable def s19 : List (Nat × Callee) := [d38, d39]
theorem h19 : HOK P (handler tab s19 8) := handler_sound tabOK mixed (callsOK_get (l := s19) ⟨c38, c39, trivial⟩) 8
def n19 : Ann := (.seq .no (.seq (.seq .no (.seq (.join [(.normal, [.keep 1 1, .keep 7 7, .slot 23 false .bool, .obj 7 y7])] .no) .no)) .no))
noncomputable abbrev b19 : Code := Tryz.f19.body.getD .skip
theorem e19 (x : denL i19) : evalF tab s19 8 Tryz.f19 b19 n19 i19 o19 x = g_decoder_Check x := by kernel_rfl
theorem c19 : Contract P 19 i19 o19 (fun x => g_decoder_Check x) := evalF_contract tabOK mixed h19 Tryz.func19 (body := b19) (by kernel_rfl) (by kernel_rfl) e19
noncomputable def d19 : Nat × Callee := (19, .sem i19 o19 fun x => g_decoder_Check x)
abbrev i120 : List (Bool × Ty) := []
abbrev o120 : List (Bool × Ty) := [(true, y10)]
noncomputable def s120 : List (Nat × Callee) := []
theorem h120 : HOK P (handler tab s120 8) := handler_sound tabOK mixed (callsOK_get (l := s120) trivial) 8
def n120 : Ann := .no
noncomputable abbrev b120 : Code := Tryz.f120.body.getD .skip
theorem e120 (x : denL i120) : evalF tab s120 8 Tryz.f120 b120 n120 i120 o120 x = g_bands_edges := by kernel_rfl
theorem c120 : Contract P 120 i120 o120 (fun x => g_bands_edges) := evalF_contract tabOK mixed h120 Tryz.func120 (body := b120) (by kernel_rfl) (by kernel_rfl) e120
noncomputable def d120 : Nat × Callee := (120, .sem i120 o120 fun x => g_bands_edges)
abbrev i72 : List (Bool × Ty) := [(false, yI)]
abbrev o72 : List (Bool × Ty) := [(false, yI), (false, yI)]
noncomputable def s72 : List (Nat × Callee) := [d120]
theorem h72 : HOK P (handler tab s72 8) := handler_sound tabOK mixed (callsOK_get (l := s72) ⟨c120, trivial⟩) 8
def n72 : Ann := (.seq .no (.seq (.seq (.join [(.normal, [.slot 0 false yI, .slot 11 false .bool])] .no) .no) (.seq .no (.seq .no (.seq (.blk (.loop [.slot 0 false yI, .keep 4 4, .slot 5 false yI, .obj 4 y10] [(.exit 0, [.slot 5 false yI])] .no)) .no)))))
noncomputable abbrev b72 : Code := Tryz.f72.body.getD .skip
theorem e72 (x : denL i72) : evalF tab s72 8 Tryz.f72 b72 n72 i72 o72 x = g_bands_Of x := by kernel_rfl
theorem c72 : Contract P 72 i72 o72 (fun x => g_bands_Of x) := evalF_contract tabOK mixed h72 Tryz.func72 (body := b72) (by kernel_rfl) (by kernel_rfl) e72
noncomputable def d72 : Nat × Callee := (72, .sem i72 o72 fun x => g_bands_Of x)
abbrev i73 : List (Bool × Ty) := [(false, yI)]
abbrev o73 : List (Bool × Ty) := [(false, yI), (false, yI)]
noncomputable def s73 : List (Nat × Callee) := []
theorem h73 : HOK P (handler tab s73 8) := handler_sound tabOK mixed (callsOK_get (l := s73) trivial) 8
def n73 : Ann := (.seq .no (.seq (.seq (.join [(.normal, [.slot 0 false yI, .slot 9 false .bool])] .no) .no) .no))
noncomputable abbrev b73 : Code := Tryz.f73.body.getD .skip
theorem e73 (x : denL i73) : evalF tab s73 8 Tryz.f73 b73 n73 i73 o73 x = g_quant_Peak x := by kernel_rfl
theorem c73 : Contract P 73 i73 o73 (fun x => g_quant_Peak x) := evalF_contract tabOK mixed h73 Tryz.func73 (body := b73) (by kernel_rfl) (by kernel_rfl) e73
noncomputable def d73 : Nat × Callee := (73, .sem i73 o73 fun x => g_quant_Peak x)
abbrev i55 : List (Bool × Ty) := [(false, yI)]
abbrev o55 : List (Bool × Ty) := [(false, yI)]
noncomputable def s55 : List (Nat × Callee) := []
theorem h55 : HOK P (handler tab s55 8) := handler_sound tabOK mixed (callsOK_get (l := s55) trivial) 8
def n55 : Ann := .no
noncomputable abbrev b55 : Code := Tryz.f55.body.getD .skip
theorem e55 (x : denL i55) : evalF tab s55 8 Tryz.f55 b55 n55 i55 o55 x = g_quant_held x := by kernel_rfl
theorem c55 : Contract P 55 i55 o55 (fun x => g_quant_held x) := evalF_contract tabOK mixed h55 Tryz.func55 (body := b55) (by kernel_rfl) (by kernel_rfl) e55
noncomputable def d55 : Nat × Callee := (55, .sem i55 o55 fun x => g_quant_held x)
abbrev i45 : List (Bool × Ty) := [(false, yW), (true, y2)]
abbrev o45 : List (Bool × Ty) := [(true, y1), (false, yW), (false, yI)]
noncomputable def s45 : List (Nat × Callee) := [d39, d55, d63, d72, d73]
theorem h45 : HOK P (handler tab s45 8) := handler_sound tabOK mixed (callsOK_get (l := s45) ⟨c39, c55, c63, c72, c73, trivial⟩) 8
def n45 : Ann := (.seq .no (.seq .no (.seq (.seq .no (.blk (.loop [.slot 0 false yW, .keep 3 3, .keep 4 4, .slot 19 false yI, .obj 3 y2, .obj 4 y1] [(.exit 0, [.slot 0 false yW, .keep 4 4, .obj 4 y1])] (.seq .no (.seq .no (.seq (.join [(.normal, [.slot 0 false yW, .keep 3 3, .keep 4 4, .slot 19 false yI, .obj 3 y2, .obj 4 y1])] .no) .no)))))) .no)))
noncomputable abbrev b45 : Code := Tryz.f45.body.getD .skip
theorem e45 (x : denL i45) : evalF tab s45 8 Tryz.f45 b45 n45 i45 o45 x = g_quant_Noise x.1 x.2 := by kernel_rfl
theorem c45 : Contract P 45 i45 o45 (fun x => g_quant_Noise x.1 x.2) := evalF_contract tabOK mixed h45 Tryz.func45 (body := b45) (by kernel_rfl) (by kernel_rfl) e45
noncomputable def d45 : Nat × Callee := (45, .sem i45 o45 fun x => g_quant_Noise x.1 x.2)
abbrev i168 : List (Bool × Ty) := [(false, yU)]
abbrev o168 : List (Bool × Ty) := [(false, yI)]
noncomputable def s168 : List (Nat × Callee) := []
theorem h168 : HOK P (handler tab s168 8) := handler_sound tabOK mixed (callsOK_get (l := s168) trivial) 8
def n168 : Ann := (.seq .no (.seq (.join [(.normal, [.slot 0 false yU, .slot 2 false yI])] .no) (.seq (.join [(.normal, [.slot 0 false yU, .slot 2 false yI])] .no) (.seq (.join [(.normal, [.slot 0 false yU, .slot 2 false yI])] .no) .no))))
noncomputable abbrev b168 : Code := Tryz.f168.body.getD .skip
theorem e168 (x : denL i168) : evalF tab s168 8 Tryz.f168 b168 n168 i168 o168 x = g_math_bits_Len64 x := by kernel_rfl
theorem c168 : Contract P 168 i168 o168 (fun x => g_math_bits_Len64 x) := evalF_contract tabOK mixed h168 Tryz.func168 (body := b168) (by kernel_rfl) (by kernel_rfl) e168
noncomputable def d168 : Nat × Callee := (168, .sem i168 o168 fun x => g_math_bits_Len64 x)
abbrev i175 : List (Bool × Ty) := [(false, yU)]
abbrev o175 : List (Bool × Ty) := [(false, yU)]
noncomputable def s175 : List (Nat × Callee) := [d168]
theorem h175 : HOK P (handler tab s175 8) := handler_sound tabOK mixed (callsOK_get (l := s175) ⟨c168, trivial⟩) 8
def n175 : Ann := (.seq .no (.seq .no (.seq .no (.blk (.loop [.slot 0 false yU, .slot 3 false yU] [(.ret, [.slot 2 false yU])] .no)))))
noncomputable abbrev b175 : Code := Tryz.f175.body.getD .skip
theorem e175 (x : denL i175) : evalF tab s175 8 Tryz.f175 b175 n175 i175 o175 x = g_fixed_Sqrt x := by kernel_rfl
theorem c175 : Contract P 175 i175 o175 (fun x => g_fixed_Sqrt x) := evalF_contract tabOK mixed h175 Tryz.func175 (body := b175) (by kernel_rfl) (by kernel_rfl) e175
noncomputable def d175 : Nat × Callee := (175, .sem i175 o175 fun x => g_fixed_Sqrt x)
abbrev i166 : List (Bool × Ty) := []
abbrev o166 : List (Bool × Ty) := [(true, y13)]
noncomputable def s166 : List (Nat × Callee) := [d175]
theorem h166 : HOK P (handler tab s166 8) := handler_sound tabOK mixed (callsOK_get (l := s166) ⟨c175, trivial⟩) 8
def n166 : Ann := (.seq .no (.seq .no (.seq (.seq .no (.blk (.loop [.keep 0 0, .slot 1 false yI, .obj 0 y13] [(.exit 0, [.keep 0 0, .obj 0 y13])] .no))) .no)))
noncomputable abbrev b166 : Code := Tryz.f166.body.getD .skip
theorem e166 (x : denL i166) : evalF tab s166 8 Tryz.f166 b166 n166 i166 o166 x = g_table_halves := by kernel_rfl
theorem c166 : Contract P 166 i166 o166 (fun x => g_table_halves) := evalF_contract tabOK mixed h166 Tryz.func166 (body := b166) (by kernel_rfl) (by kernel_rfl) e166
noncomputable def d166 : Nat × Callee := (166, .sem i166 o166 fun x => g_table_halves)
abbrev i167 : List (Bool × Ty) := [(true, y12), (true, y12)]
abbrev o167 : List (Bool × Ty) := [(true, y12)]
noncomputable def s167 : List (Nat × Callee) := [d63]
theorem h167 : HOK P (handler tab s167 8) := handler_sound tabOK mixed (callsOK_get (l := s167) ⟨c63, trivial⟩) 8
def n167 : Ann := (.seq .no (.seq (.draw [0, 1, 2, 3, 4, 5, 6, 7, 8, 9, 10, 11, 12, 13, 14, 15, 16, 17, 18, 19, 20, 21, 22, 23, 24, 25]) .no))
noncomputable abbrev b167 : Code := Tryz.f167.body.getD .skip
theorem e167 (x : denL i167) : evalF tab s167 8 Tryz.f167 b167 n167 i167 o167 x = g_table_point_turned x.1 x.2 := by kernel_rfl
theorem c167 : Contract P 167 i167 o167 (fun x => g_table_point_turned x.1 x.2) := evalF_contract tabOK mixed h167 Tryz.func167 (body := b167) (by kernel_rfl) (by kernel_rfl) e167
noncomputable def d167 : Nat × Callee := (167, .sem i167 o167 fun x => g_table_point_turned x.1 x.2)
abbrev i165 : List (Bool × Ty) := [(false, yI)]
abbrev o165 : List (Bool × Ty) := [(true, y12)]
def n153_165 : Ann := (.seq .no (.seq .no (.seq .no (.seq (.seq .no (.blk (.loop [.keep 1 1, .keep 2 2, .slot 7 false yI, .obj 1 y14, .obj 2 y13] [(.exit 0, [.keep 1 1, .obj 1 y14])] (.seq .no (.seq .no (.seq (.blk (.seq .no (.seq .no (.seq (.seq .no (.blk (.loop [.keep 1 1, .keep 2 2, .slot 3 false yI, .keep 4 4, .slot 5 false yI, .slot 7 false yI, .obj 1 y14, .obj 2 y13, .obj 4 y12] [(.exit 2, [.keep 1 1, .keep 2 2, .slot 3 false yI, .keep 4 4, .slot 7 false yI, .obj 1 y14, .obj 2 y13, .obj 4 y12])] (.seq .no (.seq (.join [(.normal, [.keep 1 1, .keep 2 2, .slot 3 false yI, .keep 4 4, .slot 5 false yI, .slot 7 false yI, .obj 1 y14, .obj 2 y13, .obj 4 y12])] (.blk (.seq .no (.cond (.draw [0, 1, 2, 3, 4, 5]) .no)))) .no))))) .no)))) .no)))))) .no))))
def n173_165 : Ann := .no
def n174_165 : Ann := .no
noncomputable def s165 : List (Nat × Callee) := [(153, .inl Tryz.f153 b153 n153_165), d166, d167, (173, .inl Tryz.f173 b173 n173_165), (174, .inl Tryz.f174 b174 n174_165)]
theorem h165 : HOK P (handler tab s165 8) := handler_sound tabOK mixed (callsOK_get (l := s165) ⟨⟨Tryz.func153, by kernel_rfl, by kernel_rfl⟩, c166, c167, ⟨Tryz.func173, by kernel_rfl, by kernel_rfl⟩, ⟨Tryz.func174, by kernel_rfl, by kernel_rfl⟩, trivial⟩) 8
def n165 : Ann := .no
noncomputable abbrev b165 : Code := Tryz.f165.body.getD .skip
theorem e165 (x : denL i165) : evalF tab s165 8 Tryz.f165 b165 n165 i165 o165 x = g_table_at x := by kernel_rfl
theorem c165 : Contract P 165 i165 o165 (fun x => g_table_at x) := evalF_contract tabOK mixed h165 Tryz.func165 (body := b165) (by kernel_rfl) (by kernel_rfl) e165
noncomputable def d165 : Nat × Callee := (165, .sem i165 o165 fun x => g_table_at x)
abbrev i152 : List (Bool × Ty) := [(false, yI)]
abbrev o152 : List (Bool × Ty) := [(false, yI)]
noncomputable def s152 : List (Nat × Callee) := [d63, d165]
theorem h152 : HOK P (handler tab s152 8) := handler_sound tabOK mixed (callsOK_get (l := s152) ⟨c63, c165, trivial⟩) 8
def n152 : Ann := .no
noncomputable abbrev b152 : Code := Tryz.f152.body.getD .skip
theorem e152 (x : denL i152) : evalF tab s152 8 Tryz.f152 b152 n152 i152 o152 x = g_table_Sin x := by kernel_rfl
theorem c152 : Contract P 152 i152 o152 (fun x => g_table_Sin x) := evalF_contract tabOK mixed h152 Tryz.func152 (body := b152) (by kernel_rfl) (by kernel_rfl) e152
noncomputable def d152 : Nat × Callee := (152, .sem i152 o152 fun x => g_table_Sin x)
abbrev i126 : List (Bool × Ty) := [(false, yI)]
abbrev o126 : List (Bool × Ty) := [(false, yI), (false, yI)]
noncomputable def s126 : List (Nat × Callee) := [d152]
theorem h126 : HOK P (handler tab s126 8) := handler_sound tabOK mixed (callsOK_get (l := s126) ⟨c152, trivial⟩) 8
def n126 : Ann := (.seq .no (.seq (.seq (.join [(.normal, [.slot 0 false yI, .slot 9 false .bool])] .no) .no) .no))
noncomputable abbrev b126 : Code := Tryz.f126.body.getD .skip
theorem e126 (x : denL i126) : evalF tab s126 8 Tryz.f126 b126 n126 i126 o126 x = g_table_Window x := by kernel_rfl
theorem c126 : Contract P 126 i126 o126 (fun x => g_table_Window x) := evalF_contract tabOK mixed h126 Tryz.func126 (body := b126) (by kernel_rfl) (by kernel_rfl) e126
noncomputable def d126 : Nat × Callee := (126, .sem i126 o126 fun x => g_table_Window x)
abbrev i154 : List (Bool × Ty) := [(false, yI), (false, yI)]
abbrev o154 : List (Bool × Ty) := [(false, yI)]
noncomputable def s154 : List (Nat × Callee) := []
theorem h154 : HOK P (handler tab s154 8) := handler_sound tabOK mixed (callsOK_get (l := s154) trivial) 8
def n154 : Ann := .no
noncomputable abbrev b154 : Code := Tryz.f154.body.getD .skip
theorem e154 (x : denL i154) : evalF tab s154 8 Tryz.f154 b154 n154 i154 o154 x = g_table_kernel x.1 x.2 := by kernel_rfl
theorem c154 : Contract P 154 i154 o154 (fun x => g_table_kernel x.1 x.2) := evalF_contract tabOK mixed h154 Tryz.func154 (body := b154) (by kernel_rfl) (by kernel_rfl) e154
noncomputable def d154 : Nat × Callee := (154, .sem i154 o154 fun x => g_table_kernel x.1 x.2)
abbrev i127 : List (Bool × Ty) := [(false, yI)]
abbrev o127 : List (Bool × Ty) := [(false, y8), (false, yI)]
def n153_127 : Ann := (.seq .no (.seq .no (.seq .no (.seq (.seq .no (.blk (.loop [.keep 1 1, .keep 2 2, .slot 7 false yI, .obj 1 y14, .obj 2 y13] [(.exit 0, [.keep 1 1, .obj 1 y14])] (.seq .no (.seq .no (.seq (.blk (.seq .no (.seq .no (.seq (.seq .no (.blk (.loop [.keep 1 1, .keep 2 2, .slot 3 false yI, .keep 4 4, .slot 5 false yI, .slot 7 false yI, .obj 1 y14, .obj 2 y13, .obj 4 y12] [(.exit 2, [.keep 1 1, .keep 2 2, .slot 3 false yI, .keep 4 4, .slot 7 false yI, .obj 1 y14, .obj 2 y13, .obj 4 y12])] (.seq .no (.seq (.join [(.normal, [.keep 1 1, .keep 2 2, .slot 3 false yI, .keep 4 4, .slot 5 false yI, .slot 7 false yI, .obj 1 y14, .obj 2 y13, .obj 4 y12])] (.blk (.seq .no (.cond (.draw [0, 1, 2, 3, 4, 5]) .no)))) .no))))) .no)))) .no)))))) .no))))
noncomputable def s127 : List (Nat × Callee) := [d63, (153, .inl Tryz.f153 b153 n153_127), d154, d166, d167]
theorem h127 : HOK P (handler tab s127 8) := handler_sound tabOK mixed (callsOK_get (l := s127) ⟨c63, ⟨Tryz.func153, by kernel_rfl, by kernel_rfl⟩, c154, c166, c167, trivial⟩) 8
def n127 : Ann := (.seq .no (.seq (.seq (.join [(.normal, [.slot 0 false yI, .slot 12 false .bool])] .no) .no) (.seq .no (.seq .no (.seq (.seq .no (.blk (.loop [.slot 0 false yI, .keep 4 4, .slot 5 false y15, .keep 13 13, .slot 16 false yI, .slot 17 false yI, .obj 13 y14] [(.exit 0, [.slot 5 false y15])] (.seq .no (.seq .no (.seq (.blk (.seq .no (.draw [0, 1, 2, 3, 4, 5, 6, 7, 8, 9, 10, 11, 12, 13]))) .no)))))) .no)))))
noncomputable abbrev b127 : Code := Tryz.f127.body.getD .skip
theorem e127 (x : denL i127) : evalF tab s127 8 Tryz.f127 b127 n127 i127 o127 x = g_table_Row x := by kernel_rfl
theorem c127 : Contract P 127 i127 o127 (fun x => g_table_Row x) := evalF_contract tabOK mixed h127 Tryz.func127 (body := b127) (by kernel_rfl) (by kernel_rfl) e127
noncomputable def d127 : Nat × Callee := (127, .sem i127 o127 fun x => g_table_Row x)
abbrev i91 : List (Bool × Ty) := []
abbrev o91 : List (Bool × Ty) := [(true, y17), (false, yI)]
noncomputable def s91 : List (Nat × Callee) := [d126, d127]
theorem h91 : HOK P (handler tab s91 8) := handler_sound tabOK mixed (callsOK_get (l := s91) ⟨c126, c127, trivial⟩) 8
def n91 : Ann := (.seq .no (.seq (.seq .no (.blk (.loop [.keep 0 0, .slot 4 false yI, .obj 0 y17] [(.exit 0, [.keep 0 0, .obj 0 y17]), (.ret, [.keep 0 0, .slot 1 false yI, .obj 0 y17])] .no))) (.seq (.seq .no (.blk (.loop [.keep 0 0, .slot 20 false yI, .obj 0 y17] [(.exit 2, [.keep 0 0, .obj 0 y17]), (.ret, [.keep 0 0, .slot 1 false yI, .obj 0 y17])] .no))) .no)))
noncomputable abbrev b91 : Code := Tryz.f91.body.getD .skip
theorem e91 (x : denL i91) : evalF tab s91 8 Tryz.f91 b91 n91 i91 o91 x = g_lapped_shaped := by kernel_rfl
theorem c91 : Contract P 91 i91 o91 (fun x => g_lapped_shaped) := evalF_contract tabOK mixed h91 Tryz.func91 (body := b91) (by kernel_rfl) (by kernel_rfl) e91
noncomputable def d91 : Nat × Callee := (91, .sem i91 o91 fun x => g_lapped_shaped)
abbrev i52 : List (Bool × Ty) := [(true, y1)]
abbrev o52 : List (Bool × Ty) := [(true, y9), (false, yI)]
noncomputable def s52 : List (Nat × Callee) := [d62, d63, d91]
theorem h52 : HOK P (handler tab s52 8) := handler_sound tabOK mixed (callsOK_get (l := s52) ⟨c62, c63, c91, trivial⟩) 8
def n52 : Ann := (.seq .no (.seq .no (.seq .no (.seq .no (.seq (.seq .no (.blk (.loop [.keep 1 1, .keep 2 2, .keep 4 4, .keep 22 22, .slot 23 true y16, .slot 24 false yI, .obj 1 y1, .obj 2 y9, .obj 4 y17] [(.exit 0, [.keep 2 2, .keep 4 4, .keep 22 22, .obj 2 y9, .obj 4 y17])] (.seq .no (.seq .no (.seq (.blk (.seq .no (.seq .no (.blk (.loop [.keep 1 1, .keep 2 2, .keep 4 4, .slot 5 false yI, .keep 22 22, .slot 23 true y16, .slot 24 false yI, .slot 28 false y8, .slot 29 false yI, .slot 30 false yI, .obj 1 y1, .obj 2 y9, .obj 4 y17] [(.exit 2, [.keep 1 1, .keep 2 2, .keep 4 4, .keep 22 22, .slot 23 true y16, .slot 24 false yI, .obj 1 y1, .obj 2 y9, .obj 4 y17])] (.seq .no (.seq .no (.seq (.blk (.seq .no (.draw [0, 1, 2, 3, 4, 5, 6, 7, 8, 9, 10]))) .no)))))))) .no)))))) (.seq (.seq .no (.blk (.loop [.keep 2 2, .keep 4 4, .keep 22 22, .slot 47 false yI, .obj 2 y9, .obj 4 y17] [(.exit 4, [.keep 2 2, .obj 2 y9])] (.seq .no (.seq .no (.seq (.blk (.seq .no (.draw [0, 1, 2, 3, 4, 5, 6, 7, 8, 9, 10, 11, 12]))) .no)))))) .no))))))
noncomputable abbrev b52 : Code := Tryz.f52.body.getD .skip
theorem e52 (x : denL i52) : evalF tab s52 8 Tryz.f52 b52 n52 i52 o52 x = g_lapped_Inverse x := by kernel_rfl
theorem c52 : Contract P 52 i52 o52 (fun x => g_lapped_Inverse x) := evalF_contract tabOK mixed h52 Tryz.func52 (body := b52) (by kernel_rfl) (by kernel_rfl) e52
noncomputable def d52 : Nat × Callee := (52, .sem i52 o52 fun x => g_lapped_Inverse x)
abbrev i17 : List (Bool × Ty) := [(true, y7)]
abbrev o17 : List (Bool × Ty) := [(true, y7), (true, y1), (false, yI)]
def n24_17 : Ann := (.seq .no (.seq (.draw [0, 1, 2, 3, 4, 5]) .no))
def n25_17 : Ann := (.seq .no (.seq (.join [(.normal, [.keep 0 0, .slot 1 false yI, .obj 0 y19])] .no) .no))
def n26_17 : Ann := (.seq .no (.seq (.seq .no (.cond (.seq (.draw [0, 1, 2, 3, 4, 5, 6, 7, 8]) .no) .no)) (.seq (.draw [0, 1, 2, 3, 4, 5, 6, 7, 8, 9, 10]) .no)))
def n27_17 : Ann := (.seq (.draw [0, 1, 2, 3, 4, 5, 6, 7, 8, 9, 10, 11, 12, 13, 14, 15, 16, 17, 18]) .no)
def n32_17 : Ann := (.seq .no (.seq .no (.seq .no (.seq .no (.seq (.draw [0, 1, 2, 3, 4, 5, 6, 7, 8, 9, 10, 11, 12, 13, 14, 15, 16, 17, 18, 19, 20]) .no)))))
noncomputable def s17 : List (Nat × Callee) := [d19, (24, .inl Tryz.f24 b24 n24_17), (25, .inl Tryz.f25 b25 n25_17), (26, .inl Tryz.f26 b26 n26_17), (27, .inl Tryz.f27 b27 n27_17), (32, .inl Tryz.f32 b32 n32_17), d38, d45, d52]
theorem h17 : HOK P (handler tab s17 8) := handler_sound tabOK mixed (callsOK_get (l := s17) ⟨c19, ⟨Tryz.func24, by kernel_rfl, by kernel_rfl⟩, ⟨Tryz.func25, by kernel_rfl, by kernel_rfl⟩, ⟨Tryz.func26, by kernel_rfl, by kernel_rfl⟩, ⟨Tryz.func27, by kernel_rfl, by kernel_rfl⟩, ⟨Tryz.func32, by kernel_rfl, by kernel_rfl⟩, c38, c45, c52, trivial⟩) 8
def n17 : Ann := (.seq .no (.seq .no (.seq (.join [(.normal, [.keep 2 2, .keep 3 3, .keep 5 5, .keep 7 7, .obj 2 y7, .obj 3 y1, .obj 7 y19])] .no) .no)))
noncomputable abbrev b17 : Code := Tryz.f17.body.getD .skip
theorem e17 (x : denL i17) : evalF tab s17 8 Tryz.f17 b17 n17 i17 o17 x = g_decoder_Rest x := by kernel_rfl
theorem c17 : Contract P 17 i17 o17 (fun x => g_decoder_Rest x) := evalF_contract tabOK mixed h17 Tryz.func17 (body := b17) (by kernel_rfl) (by kernel_rfl) e17
noncomputable def d17 : Nat × Callee := (17, .sem i17 o17 fun x => g_decoder_Rest x)
abbrev i123 : List (Bool × Ty) := [(true, y2)]
abbrev o123 : List (Bool × Ty) := [(true, y2), (false, yI)]
def n124_123 : Ann := .no
noncomputable def s123 : List (Nat × Callee) := [d39, (124, .inl Tryz.f124 b124 n124_123), (151, .back 6)]
theorem h123 : HOK P (handler tab s123 8) := handler_sound tabOK mixed (callsOK_get (l := s123) ⟨c39, ⟨Tryz.func124, by kernel_rfl, by kernel_rfl⟩, ⟨by decide, by decide, bd151, tab, tabOK, bk151⟩, trivial⟩) 8
def n123 : Ann := (.seq .no (.seq .no (.seq .no (.seq (.seq .no (.blk (.loop [.keep 1 1, .keep 2 2, .slot 3 false yI, .keep 5 5, .slot 15 false yI, .obj 1 y2, .obj 2 y2, .obj 5 yI] [(.exit 0, [.keep 1 1, .keep 2 2, .slot 3 false yI, .keep 5 5, .obj 1 y2, .obj 2 y2, .obj 5 yI])] (.seq .no (.seq .no (.seq (.blk (.seq .no (.seq (.draw [0, 1, 2, 3, 4, 5, 6, 7, 8]) (.draw [0, 1, 2, 3, 4, 5, 6])))) .no)))))) (.seq .no (.seq (.seq .no (.blk (.loop [.obj 1 y2, .obj 2 y2, .obj 5 yI] [] (.blk (.seq (.draw [0, 1, 2, 3, 4, 5, 6, 7, 8]) .no))))) .no))))))
noncomputable abbrev b123 : Code := Tryz.f123.body.getD .skip
theorem e123 (x : denL i123) : evalF tab s123 8 Tryz.f123 b123 n123 i123 o123 x = g_bands_Mask x := by kernel_rfl
theorem c123 : Contract P 123 i123 o123 (fun x => g_bands_Mask x) := evalF_contract tabOK mixed h123 Tryz.func123 (body := b123) (by kernel_rfl) (by kernel_rfl) e123
noncomputable def d123 : Nat × Callee := (123, .sem i123 o123 fun x => g_bands_Mask x)
abbrev i125 : List (Bool × Ty) := [(true, y2)]
abbrev o125 : List (Bool × Ty) := [(false, yI)]
noncomputable def s125 : List (Nat × Callee) := [d120]
theorem h125 : HOK P (handler tab s125 8) := handler_sound tabOK mixed (callsOK_get (l := s125) ⟨c120, trivial⟩) 8
def n125 : Ann := (.seq .no (.seq .no (.seq .no (.seq (.seq .no (.blk (.loop [.keep 1 1, .keep 3 3, .slot 4 false yI, .slot 7 false yI, .obj 1 y2, .obj 3 y10] [(.exit 0, [.slot 4 false yI])] (.seq .no (.seq .no (.seq (.blk (.seq .no (.draw [0, 1, 2, 3, 4, 5, 6, 7, 8, 9, 10, 11, 12, 13, 14]))) .no)))))) .no))))
noncomputable abbrev b125 : Code := Tryz.f125.body.getD .skip
theorem e125 (x : denL i125) : evalF tab s125 8 Tryz.f125 b125 n125 i125 o125 x = g_bands_Cost x := by kernel_rfl
theorem c125 : Contract P 125 i125 o125 (fun x => g_bands_Cost x) := evalF_contract tabOK mixed h125 Tryz.func125 (body := b125) (by kernel_rfl) (by kernel_rfl) e125
noncomputable def d125 : Nat × Callee := (125, .sem i125 o125 fun x => g_bands_Cost x)
abbrev i88 : List (Bool × Ty) := [(true, y2), (false, yI)]
abbrev o88 : List (Bool × Ty) := [(true, y2), (false, yI)]
def n124_88 : Ann := .no
noncomputable def s88 : List (Nat × Callee) := [d123, (124, .inl Tryz.f124 b124 n124_88), d125, (151, .back 6)]
theorem h88 : HOK P (handler tab s88 8) := handler_sound tabOK mixed (callsOK_get (l := s88) ⟨c123, ⟨Tryz.func124, by kernel_rfl, by kernel_rfl⟩, c125, ⟨by decide, by decide, bd151, tab, tabOK, bk151⟩, trivial⟩) 8
def n88 : Ann := (.seq .no (.blk (.seq .no (.seq (.seq (.join [(.normal, [.keep 2 2, .keep 3 3, .keep 4 4, .slot 5 false yI, .keep 6 6, .slot 21 false .bool, .obj 2 y2, .obj 3 yI, .obj 4 y2, .obj 6 y2])] .no) .no) (.seq (.seq .no (.blk (.loop [.keep 2 2, .keep 3 3, .keep 4 4, .slot 5 false yI, .keep 6 6, .slot 23 false yI, .obj 2 y2, .obj 3 yI, .obj 4 y2, .obj 6 y2] [(.exit 0, [.keep 3 3, .keep 4 4, .slot 5 false yI, .obj 3 yI, .obj 4 y2])] (.seq .no (.seq .no (.seq (.join [(.normal, [.keep 2 2, .keep 3 3, .keep 4 4, .slot 5 false yI, .keep 6 6, .slot 23 false yI, .obj 2 y2, .obj 3 yI, .obj 4 y2, .obj 6 y2])] (.blk (.seq .no (.seq (.draw [0, 1, 2, 3, 4, 5, 6, 7, 8, 9, 10, 11, 12, 13, 14]) (.seq (.draw [0, 1, 2, 3, 4, 5, 6]) .no))))) .no)))))) (.seq .no (.seq (.seq .no (.blk (.loop [.keep 3 3, .keep 4 4, .slot 5 false yI, .obj 3 yI, .obj 4 y2, .nbox 8 yI] [(.exit 2, [.keep 4 4, .obj 4 y2])] (.seq .no (.seq (.blk (.seq .no (.blk (.loop [.obj 3 yI, .obj 4 y2, .obj 8 yI] [(.exit 2, [.obj 3 yI, .obj 4 y2, .obj 8 yI])] (.blk (.seq (.seq (.draw [0, 1, 2, 3]) .no) .no)))))) .no))))) .no)))))))
noncomputable abbrev b88 : Code := Tryz.f88.body.getD .skip
theorem e88 (x : denL i88) : evalF tab s88 8 Tryz.f88 b88 n88 i88 o88 x = g_bands_Share x.1 x.2 := by kernel_rfl
theorem c88 : Contract P 88 i88 o88 (fun x => g_bands_Share x.1 x.2) := evalF_contract tabOK mixed h88 Tryz.func88 (body := b88) (by kernel_rfl) (by kernel_rfl) e88
noncomputable def d88 : Nat × Callee := (88, .sem i88 o88 fun x => g_bands_Share x.1 x.2)
abbrev i92 : List (Bool × Ty) := [(false, yI)]
abbrev o92 : List (Bool × Ty) := [(false, yI), (false, yI), (false, yI)]
noncomputable def s92 : List (Nat × Callee) := [d120]
theorem h92 : HOK P (handler tab s92 8) := handler_sound tabOK mixed (callsOK_get (l := s92) ⟨c120, trivial⟩) 8
def n92 : Ann := (.seq .no (.seq (.seq (.join [(.normal, [.slot 0 false yI, .slot 11 false .bool])] .no) .no) (.seq .no (.seq (.draw [0, 1, 2, 3, 4, 5, 6, 7, 8, 9]) .no))))
noncomputable abbrev b92 : Code := Tryz.f92.body.getD .skip
theorem e92 (x : denL i92) : evalF tab s92 8 Tryz.f92 b92 n92 i92 o92 x = g_bands_Edge x := by kernel_rfl
theorem c92 : Contract P 92 i92 o92 (fun x => g_bands_Edge x) := evalF_contract tabOK mixed h92 Tryz.func92 (body := b92) (by kernel_rfl) (by kernel_rfl) e92
noncomputable def d92 : Nat × Callee := (92, .sem i92 o92 fun x => g_bands_Edge x)
abbrev i89 : List (Bool × Ty) := [(false, yI)]
abbrev o89 : List (Bool × Ty) := [(false, yI)]
noncomputable def s89 : List (Nat × Callee) := []
theorem h89 : HOK P (handler tab s89 8) := handler_sound tabOK mixed (callsOK_get (l := s89) trivial) 8
def n89 : Ann := .no
noncomputable abbrev b89 : Code := Tryz.f89.body.getD .skip
theorem e89 (x : denL i89) : evalF tab s89 8 Tryz.f89 b89 n89 i89 o89 x = g_quant_Most x := by kernel_rfl
theorem c89 : Contract P 89 i89 o89 (fun x => g_quant_Most x) := evalF_contract tabOK mixed h89 Tryz.func89 (body := b89) (by kernel_rfl) (by kernel_rfl) e89
noncomputable def d89 : Nat × Callee := (89, .sem i89 o89 fun x => g_quant_Most x)
abbrev i93 : List (Bool × Ty) := [(false, yI), (false, yI)]
abbrev o93 : List (Bool × Ty) := [(false, yI), (false, yI)]
noncomputable def s93 : List (Nat × Callee) := [d73, d89]
theorem h93 : HOK P (handler tab s93 8) := handler_sound tabOK mixed (callsOK_get (l := s93) ⟨c73, c89, trivial⟩) 8
def n93 : Ann := (.seq .no (.seq .no (.seq (.seq (.join [(.normal, [.slot 1 false yI, .slot 6 false yI, .slot 22 false .bool])] .no) .no) .no)))
noncomputable abbrev b93 : Code := Tryz.f93.body.getD .skip
theorem e93 (x : denL i93) : evalF tab s93 8 Tryz.f93 b93 n93 i93 o93 x = g_quant_Step x.1 x.2 := by kernel_rfl
theorem c93 : Contract P 93 i93 o93 (fun x => g_quant_Step x.1 x.2) := evalF_contract tabOK mixed h93 Tryz.func93 (body := b93) (by kernel_rfl) (by kernel_rfl) e93
noncomputable def d93 : Nat × Callee := (93, .sem i93 o93 fun x => g_quant_Step x.1 x.2)
abbrev i54 : List (Bool × Ty) := [(true, y2)]
abbrev o54 : List (Bool × Ty) := [(true, y20), (true, y2), (false, yI)]
noncomputable def s54 : List (Nat × Callee) := [d88, d89, d92, d93]
theorem h54 : HOK P (handler tab s54 8) := handler_sound tabOK mixed (callsOK_get (l := s54) ⟨c88, c89, c92, c93, trivial⟩) 8
def n54 : Ann := (.seq .no (.seq .no (.seq (.seq .no (.blk (.loop [.keep 1 1, .keep 2 2, .keep 3 3, .slot 4 false yI, .slot 18 true y2, .slot 19 false yI, .obj 1 y2, .obj 2 y20, .obj 3 y2] [(.exit 0, [.keep 2 2, .keep 3 3, .slot 4 false yI, .obj 2 y20, .obj 3 y2])] (.seq .no (.seq .no (.seq (.join [(.normal, [.keep 1 1, .keep 2 2, .keep 3 3, .slot 4 false yI, .slot 18 true y2, .slot 19 false yI, .obj 1 y2, .obj 2 y20, .obj 3 y2])] (.blk (.seq .no (.seq (.seq (.join [(.normal, [.keep 1 1, .keep 2 2, .keep 3 3, .slot 4 false yI, .slot 5 false yI, .slot 6 false yI, .slot 18 true y2, .slot 19 false yI, .slot 28 false .bool, .obj 1 y2, .obj 2 y20, .obj 3 y2])] .no) .no) (.seq .no (.seq .no (.seq .no (.blk (.loop [.keep 1 1, .keep 2 2, .keep 3 3, .slot 4 false yI, .slot 6 false yI, .slot 8 false yI, .slot 10 false yI, .slot 12 false yI, .slot 18 true y2, .slot 19 false yI, .obj 1 y2, .obj 2 y20, .obj 3 y2] [(.exit 2, [.keep 1 1, .keep 2 2, .keep 3 3, .slot 4 false yI, .slot 18 true y2, .slot 19 false yI, .obj 1 y2, .obj 2 y20, .obj 3 y2])] .no))))))))) .no)))))) (.seq (.draw [0, 1, 2, 3, 4, 5]) .no))))
noncomputable abbrev b54 : Code := Tryz.f54.body.getD .skip
theorem e54 (x : denL i54) : evalF tab s54 8 Tryz.f54 b54 n54 i54 o54 x = g_quant_scales x := by kernel_rfl
theorem c54 : Contract P 54 i54 o54 (fun x => g_quant_scales x) := evalF_contract tabOK mixed h54 Tryz.func54 (body := b54) (by kernel_rfl) (by kernel_rfl) e54
noncomputable def d54 : Nat × Callee := (54, .sem i54 o54 fun x => g_quant_scales x)
abbrev i53 : List (Bool × Ty) := [(true, y1), (true, y2)]
abbrev o53 : List (Bool × Ty) := [(false, .bool)]
noncomputable def s53 : List (Nat × Callee) := [d54]
theorem h53 : HOK P (handler tab s53 8) := handler_sound tabOK mixed (callsOK_get (l := s53) ⟨c54, trivial⟩) 8
def n53 : Ann := (.seq .no (.seq .no (.seq .no (.seq (.seq .no (.blk (.loop [.keep 2 2, .keep 5 5, .slot 7 false yI, .keep 8 8, .slot 18 true y1, .slot 19 false yI, .obj 2 y1, .obj 5 y20, .obj 8 y1] [(.exit 0, [.keep 2 2, .slot 7 false yI, .keep 8 8, .obj 2 y1, .obj 8 y1])] (.seq .no (.seq .no (.seq (.blk (.seq .no (.draw [0, 1, 2, 3, 4, 5, 6, 7, 8, 9, 10, 11, 12, 13, 14]))) .no)))))) .no))))
noncomputable abbrev b53 : Code := Tryz.f53.body.getD .skip
theorem e53 (x : denL i53) : evalF tab s53 8 Tryz.f53 b53 n53 i53 o53 x = g_quant_May x.1 x.2 := by kernel_rfl
theorem c53 : Contract P 53 i53 o53 (fun x => g_quant_May x.1 x.2) := evalF_contract tabOK mixed h53 Tryz.func53 (body := b53) (by kernel_rfl) (by kernel_rfl) e53
noncomputable def d53 : Nat × Callee := (53, .sem i53 o53 fun x => g_quant_May x.1 x.2)
abbrev i57 : List (Bool × Ty) := [(true, y2), (true, y2)]
abbrev o57 : List (Bool × Ty) := [(false, .bool)]
noncomputable def s57 : List (Nat × Callee) := [d39]
theorem h57 : HOK P (handler tab s57 8) := handler_sound tabOK mixed (callsOK_get (l := s57) ⟨c39, trivial⟩) 8
def n57 : Ann := (.seq .no (.seq (.seq (.join [(.normal, [.keep 2 2, .keep 3 3, .slot 14 false .bool, .obj 2 y2, .obj 3 y2])] .no) .no) (.seq (.seq .no (.blk (.loop [.keep 2 2, .keep 3 3, .slot 15 false yI, .obj 2 y2, .obj 3 y2] [(.exit 0, []), (.ret, [.slot 4 false .bool])] (.seq .no (.seq .no (.seq (.blk (.seq .no (.seq (.draw [0, 1, 2, 3, 4, 5, 6, 7]) (.seq (.join [(.normal, [.keep 2 2, .keep 3 3, .slot 15 false yI, .slot 30 false .bool, .obj 2 y2, .obj 3 y2])] .no) .no)))) .no)))))) .no)))
noncomputable abbrev b57 : Code := Tryz.f57.body.getD .skip
theorem e57 (x : denL i57) : evalF tab s57 8 Tryz.f57 b57 n57 i57 o57 x = g_frame_Near x.1 x.2 := by kernel_rfl
theorem c57 : Contract P 57 i57 o57 (fun x => g_frame_Near x.1 x.2) := evalF_contract tabOK mixed h57 Tryz.func57 (body := b57) (by kernel_rfl) (by kernel_rfl) e57
noncomputable def d57 : Nat × Callee := (57, .sem i57 o57 fun x => g_frame_Near x.1 x.2)
abbrev i35 : List (Bool × Ty) := [(true, y22), (true, y2)]
abbrev o35 : List (Bool × Ty) := [(false, yI)]
noncomputable def s35 : List (Nat × Callee) := [d39, d53, d57]
theorem h35 : HOK P (handler tab s35 8) := handler_sound tabOK mixed (callsOK_get (l := s35) ⟨c39, c53, c57, trivial⟩) 8
def n35 : Ann := (.seq .no (.seq .no (.seq (.join [(.normal, [.keep 2 2, .keep 3 3, .keep 5 5, .slot 6 false .bool, .obj 2 y22, .obj 3 y2, .obj 5 y1])] .no) (.seq (.join [(.normal, [.slot 6 false .bool])] .no) .no))))
noncomputable abbrev b35 : Code := Tryz.f35.body.getD .skip
theorem e35 (x : denL i35) : evalF tab s35 8 Tryz.f35 b35 n35 i35 o35 x = g_frame_Check x.1 x.2 := by kernel_rfl
theorem c35 : Contract P 35 i35 o35 (fun x => g_frame_Check x.1 x.2) := evalF_contract tabOK mixed h35 Tryz.func35 (body := b35) (by kernel_rfl) (by kernel_rfl) e35
noncomputable def d35 : Nat × Callee := (35, .sem i35 o35 fun x => g_frame_Check x.1 x.2)
abbrev i85 : List (Bool × Ty) := [(true, y8)]
abbrev o85 : List (Bool × Ty) := [(false, yI)]
noncomputable def s85 : List (Nat × Callee) := []
theorem h85 : HOK P (handler tab s85 8) := handler_sound tabOK mixed (callsOK_get (l := s85) trivial) 8
def n85 : Ann := .no
noncomputable abbrev b85 : Code := Tryz.f85.body.getD .skip
theorem e85 (x : denL i85) : evalF tab s85 8 Tryz.f85 b85 n85 i85 o85 x = g_freq_last x := by kernel_rfl
theorem c85 : Contract P 85 i85 o85 (fun x => g_freq_last x) := evalF_contract tabOK mixed h85 Tryz.func85 (body := b85) (by kernel_rfl) (by kernel_rfl) e85
noncomputable def d85 : Nat × Callee := (85, .sem i85 o85 fun x => g_freq_last x)
abbrev i49 : List (Bool × Ty) := [(false, y8)]
abbrev o49 : List (Bool × Ty) := [(true, y8), (false, yI)]
noncomputable def s49 : List (Nat × Callee) := [d85]
theorem h49 : HOK P (handler tab s49 8) := handler_sound tabOK mixed (callsOK_get (l := s49) ⟨c85, trivial⟩) 8
def n49 : Ann := (.seq .no (.seq .no (.seq .no (.seq (.seq .no (.blk (.loop [.slot 0 false y8, .keep 2 2, .keep 4 4, .slot 16 false y8, .slot 17 false yI, .slot 18 false yI, .obj 2 y15, .obj 4 y15] [(.exit 0, [.slot 0 false y8, .keep 2 2, .keep 4 4, .obj 2 y15, .obj 4 y15]), (.ret, [.keep 2 2, .slot 3 false yI, .obj 2 y15])] (.seq .no (.seq .no (.seq (.blk (.seq .no (.seq (.seq (.join [(.normal, [.slot 0 false y8, .keep 2 2, .keep 4 4, .slot 6 false yI, .slot 16 false y8, .slot 17 false yI, .slot 18 false yI, .slot 30 false .bool, .obj 2 y15, .obj 4 y15])] .no) .no) (.draw [0, 1, 2, 3, 4, 5, 6, 7, 8, 9])))) .no)))))) .no))))
noncomputable abbrev b49 : Code := Tryz.f49.body.getD .skip
theorem e49 (x : denL i49) : evalF tab s49 8 Tryz.f49 b49 n49 i49 o49 x = g_freq_New x := by kernel_rfl
theorem c49 : Contract P 49 i49 o49 (fun x => g_freq_New x) := evalF_contract tabOK mixed h49 Tryz.func49 (body := b49) (by kernel_rfl) (by kernel_rfl) e49
noncomputable def d49 : Nat × Callee := (49, .sem i49 o49 fun x => g_freq_New x)
abbrev i30 : List (Bool × Ty) := []
abbrev o30 : List (Bool × Ty) := [(true, y8)]
noncomputable def s30 : List (Nat × Callee) := [d49]
theorem h30 : HOK P (handler tab s30 8) := handler_sound tabOK mixed (callsOK_get (l := s30) ⟨c49, trivial⟩) 8
def n30 : Ann := .no
noncomputable abbrev b30 : Code := Tryz.f30.body.getD .skip
theorem e30 (x : denL i30) : evalF tab s30 8 Tryz.f30 b30 n30 i30 o30 x = g_frame_kinds := by kernel_rfl
theorem c30 : Contract P 30 i30 o30 (fun x => g_frame_kinds) := evalF_contract tabOK mixed h30 Tryz.func30 (body := b30) (by kernel_rfl) (by kernel_rfl) e30
noncomputable def d30 : Nat × Callee := (30, .sem i30 o30 fun x => g_frame_kinds)
abbrev i172 : List (Bool × Ty) := [(false, yU), (false, yU)]
abbrev o172 : List (Bool × Ty) := [(false, yU), (false, yU)]
noncomputable def s172 : List (Nat × Callee) := []
theorem h172 : HOK P (handler tab s172 8) := handler_sound tabOK mixed (callsOK_get (l := s172) trivial) 8
def n172 : Ann := .no
noncomputable abbrev b172 : Code := Tryz.f172.body.getD .skip
theorem e172 (x : denL i172) : evalF tab s172 8 Tryz.f172 b172 n172 i172 o172 x = g_math_bits_Mul64 x.1 x.2 := by kernel_rfl
theorem c172 : Contract P 172 i172 o172 (fun x => g_math_bits_Mul64 x.1 x.2) := evalF_contract tabOK mixed h172 Tryz.func172 (body := b172) (by kernel_rfl) (by kernel_rfl) e172
noncomputable def d172 : Nat × Callee := (172, .sem i172 o172 fun x => g_math_bits_Mul64 x.1 x.2)
abbrev i171 : List (Bool × Ty) := [(false, yW), (false, yW)]
abbrev o171 : List (Bool × Ty) := [(false, yW), (false, yW)]
noncomputable def s171 : List (Nat × Callee) := []
theorem h171 : HOK P (handler tab s171 8) := handler_sound tabOK mixed (callsOK_get (l := s171) trivial) 8
def n171 : Ann := .no
noncomputable abbrev b171 : Code := Tryz.f171.body.getD .skip
theorem e171 (x : denL i171) : evalF tab s171 8 Tryz.f171 b171 n171 i171 o171 x = g_math_bits_Mul32 x.1 x.2 := by kernel_rfl
theorem c171 : Contract P 171 i171 o171 (fun x => g_math_bits_Mul32 x.1 x.2) := evalF_contract tabOK mixed h171 Tryz.func171 (body := b171) (by kernel_rfl) (by kernel_rfl) e171
noncomputable def d171 : Nat × Callee := (171, .sem i171 o171 fun x => g_math_bits_Mul32 x.1 x.2)
abbrev i164 : List (Bool × Ty) := [(false, yU), (false, yU)]
abbrev o164 : List (Bool × Ty) := [(false, yU), (false, yU)]
noncomputable def s164 : List (Nat × Callee) := [d171, d172]
theorem h164 : HOK P (handler tab s164 8) := handler_sound tabOK mixed (callsOK_get (l := s164) ⟨c171, c172, trivial⟩) 8
def n164 : Ann := .no
noncomputable abbrev b164 : Code := Tryz.f164.body.getD .skip
theorem e164 (x : denL i164) : evalF tab s164 8 Tryz.f164 b164 n164 i164 o164 x = g_math_bits_Mul x.1 x.2 := by kernel_rfl
theorem c164 : Contract P 164 i164 o164 (fun x => g_math_bits_Mul x.1 x.2) := evalF_contract tabOK mixed h164 Tryz.func164 (body := b164) (by kernel_rfl) (by kernel_rfl) e164
noncomputable def d164 : Nat × Callee := (164, .sem i164 o164 fun x => g_math_bits_Mul x.1 x.2)
abbrev i150 : List (Bool × Ty) := [(false, y8), (false, yI)]
abbrev o150 : List (Bool × Ty) := [(false, y8)]
noncomputable def s150 : List (Nat × Callee) := [d164]
theorem h150 : HOK P (handler tab s150 8) := handler_sound tabOK mixed (callsOK_get (l := s150) ⟨c164, trivial⟩) 8
def n150 : Ann := (.seq .no (.seq .no (.seq .no (.seq (.seq (.join [(.normal, [.slot 0 false y8, .slot 6 false yU, .slot 26 false .bool])] .no) .no) (.seq .no (.seq .no (.seq (.blk (.loop [.slot 7 false y15, .slot 8 false yI] [(.exit 0, [.slot 7 false y15])] (.seq .no (.blk (.draw [0, 1, 2, 3, 4, 5, 6, 7, 8, 9]))))) .no)))))))
noncomputable abbrev b150 : Code := Tryz.f150.body.getD .skip
theorem e150 (x : denL i150) : evalF tab s150 8 Tryz.f150 b150 n150 i150 o150 x = g_slices_Repeat_Sint_int x.1 x.2 := by kernel_rfl
theorem c150 : Contract P 150 i150 o150 (fun x => g_slices_Repeat_Sint_int x.1 x.2) := evalF_contract tabOK mixed h150 Tryz.func150 (body := b150) (by kernel_rfl) (by kernel_rfl) e150
noncomputable def d150 : Nat × Callee := (150, .sem i150 o150 fun x => g_slices_Repeat_Sint_int x.1 x.2)
abbrev i122 : List (Bool × Ty) := [(false, yI)]
abbrev o122 : List (Bool × Ty) := [(true, y8), (false, yI)]
noncomputable def s122 : List (Nat × Callee) := [d49, d150]
theorem h122 : HOK P (handler tab s122 8) := handler_sound tabOK mixed (callsOK_get (l := s122) ⟨c49, c150, trivial⟩) 8
def n122 : Ann := (.seq .no (.seq (.seq (.join [(.normal, [.slot 0 false yI, .keep 2 2, .slot 9 false .bool, .obj 2 y15])] .no) .no) .no))
noncomputable abbrev b122 : Code := Tryz.f122.body.getD .skip
theorem e122 (x : denL i122) : evalF tab s122 8 Tryz.f122 b122 n122 i122 o122 x = g_freq_Even x := by kernel_rfl
theorem c122 : Contract P 122 i122 o122 (fun x => g_freq_Even x) := evalF_contract tabOK mixed h122 Tryz.func122 (body := b122) (by kernel_rfl) (by kernel_rfl) e122
noncomputable def d122 : Nat × Callee := (122, .sem i122 o122 fun x => g_freq_Even x)
abbrev i86 : List (Bool × Ty) := []
abbrev o86 : List (Bool × Ty) := [(true, y8)]
noncomputable def s86 : List (Nat × Callee) := [d122]
theorem h86 : HOK P (handler tab s86 8) := handler_sound tabOK mixed (callsOK_get (l := s86) ⟨c122, trivial⟩) 8
def n86 : Ann := .no
noncomputable abbrev b86 : Code := Tryz.f86.body.getD .skip
theorem e86 (x : denL i86) : evalF tab s86 8 Tryz.f86 b86 n86 i86 o86 x = g_frame_levels := by kernel_rfl
theorem c86 : Contract P 86 i86 o86 (fun x => g_frame_levels) := evalF_contract tabOK mixed h86 Tryz.func86 (body := b86) (by kernel_rfl) (by kernel_rfl) e86
noncomputable def d86 : Nat × Callee := (86, .sem i86 o86 fun x => g_frame_levels)
abbrev i87 : List (Bool × Ty) := []
abbrev o87 : List (Bool × Ty) := [(true, y8)]
noncomputable def s87 : List (Nat × Callee) := [d49]
theorem h87 : HOK P (handler tab s87 8) := handler_sound tabOK mixed (callsOK_get (l := s87) ⟨c49, trivial⟩) 8
def n87 : Ann := .no
noncomputable abbrev b87 : Code := Tryz.f87.body.getD .skip
theorem e87 (x : denL i87) : evalF tab s87 8 Tryz.f87 b87 n87 i87 o87 x = g_frame_changes := by kernel_rfl
theorem c87 : Contract P 87 i87 o87 (fun x => g_frame_changes) := evalF_contract tabOK mixed h87 Tryz.func87 (body := b87) (by kernel_rfl) (by kernel_rfl) e87
noncomputable def d87 : Nat × Callee := (87, .sem i87 o87 fun x => g_frame_changes)
abbrev i90 : List (Bool × Ty) := [(false, yI)]
abbrev o90 : List (Bool × Ty) := [(true, y8)]
noncomputable def s90 : List (Nat × Callee) := [d49]
theorem h90 : HOK P (handler tab s90 8) := handler_sound tabOK mixed (callsOK_get (l := s90) ⟨c49, trivial⟩) 8
def n90 : Ann := (.seq .no (.seq .no (.seq (.seq .no (.blk (.loop [.slot 0 false yI, .keep 2 2, .slot 3 false y15, .slot 12 false yI, .slot 13 false yI, .obj 2 y15] [(.exit 0, [.keep 2 2, .slot 3 false y15, .obj 2 y15])] .no))) .no)))
noncomputable abbrev b90 : Code := Tryz.f90.body.getD .skip
theorem e90 (x : denL i90) : evalF tab s90 8 Tryz.f90 b90 n90 i90 o90 x = g_frame_smalls x := by kernel_rfl
theorem c90 : Contract P 90 i90 o90 (fun x => g_frame_smalls x) := evalF_contract tabOK mixed h90 Tryz.func90 (body := b90) (by kernel_rfl) (by kernel_rfl) e90
noncomputable def d90 : Nat × Callee := (90, .sem i90 o90 fun x => g_frame_smalls x)
abbrev i36 : List (Bool × Ty) := [(true, y22), (true, y2)]
abbrev o36 : List (Bool × Ty) := [(false, y8), (false, y23)]
def n50_36 : Ann := (.seq .no (.seq (.seq (.draw [0, 1, 2, 3, 4, 5, 6]) .no) (.seq .no (.seq .no (.seq (.join [(.normal, [.keep 0 0, .slot 1 true y2, .keep 2 2, .keep 7 7, .keep 8 8, .keep 20 20, .keep 21 21, .keep 22 22, .obj 22 y22, .obj 7 y8, .obj 8 y2, .obj 1002 y15, .obj 2002 y24])] (.seq .no (.cond (.seq (.draw [0, 1, 2, 3]) (.seq .no (.blk (.loop [.keep 0 0, .slot 1 true y2, .keep 2 2, .keep 7 7, .keep 8 8, .keep 20 20, .keep 21 21, .keep 22 22, .keep 27 27, .keep 28 28, .keep 29 29, .slot 34 false yI, .obj 29 y22, .obj 7 y8, .obj 8 y2, .obj 1002 y15, .obj 2002 y24] [(.exit 0, [.keep 0 0, .slot 1 true y2, .keep 2 2, .keep 7 7, .keep 8 8, .keep 20 20, .keep 21 21, .keep 22 22, .keep 27 27, .keep 28 28, .keep 29 29, .obj 29 y22, .obj 7 y8, .obj 8 y2, .obj 1002 y15, .obj 2002 y24])] .no)))) .no))) (.seq (.seq .no (.blk (.loop [.keep 0 0, .slot 1 true y2, .keep 2 2, .keep 7 7, .keep 8 8, .keep 20 20, .keep 21 21, .keep 22 22, .slot 43 false yI, .obj 22 y22, .obj 7 y8, .obj 8 y2, .obj 1002 y15, .obj 2002 y24] [(.exit 2, [.keep 0 0, .slot 1 true y2, .keep 2 2, .keep 20 20, .keep 21 21, .keep 22 22, .obj 22 y22, .obj 1002 y15, .obj 2002 y24])] (.seq .no (.seq .no (.seq (.blk (.seq .no (.seq (.draw [0, 1, 2, 3, 4, 5, 6, 7, 8, 9, 10, 11]) (.seq .no (.draw [0, 1, 2, 3, 4, 5, 6, 7, 8, 9, 10]))))) .no)))))) (.seq .no (.seq .no (.seq .no (.seq (.seq .no (.blk (.loop [.keep 0 0, .slot 1 true y2, .keep 2 2, .keep 12 12, .keep 20 20, .keep 21 21, .keep 22 22, .keep 71 71, .keep 72 72, .keep 73 73, .keep 77 77, .keep 78 78, .keep 79 79, .slot 86 false yI, .obj 78 y22, .obj 12 y2, .obj 1002 y15, .obj 2002 y24] [(.exit 4, [.keep 0 0, .slot 1 true y2, .keep 2 2, .keep 20 20, .keep 21 21, .keep 22 22, .keep 71 71, .keep 72 72, .keep 73 73, .keep 77 77, .keep 78 78, .keep 79 79, .obj 78 y22, .obj 1002 y15, .obj 2002 y24])] (.seq .no (.seq .no (.seq (.join [(.normal, [.keep 0 0, .slot 1 true y2, .keep 2 2, .keep 12 12, .keep 20 20, .keep 21 21, .keep 22 22, .keep 71 71, .keep 72 72, .keep 73 73, .keep 77 77, .keep 78 78, .keep 79 79, .slot 86 false yI, .obj 78 y22, .obj 12 y2, .obj 1002 y15, .obj 2002 y24])] (.blk (.seq .no (.seq .no (.seq .no (.seq .no (.seq .no (.seq .no (.draw [0, 1, 2, 3, 4, 5, 6, 7, 8]))))))))) .no)))))) .no))))))))))
def n58_36 : Ann := (.seq .no (.seq (.draw [0, 1, 2, 3, 4, 5, 6, 7, 8, 9, 10, 11]) .no))
noncomputable def s36 : List (Nat × Callee) := [d30, (50, .inl Tryz.f50 b50 n50_36), (58, .inl Tryz.f58 b58 n58_36), d72, d86, d87, d88, d89, d90]
theorem h36 : HOK P (handler tab s36 8) := handler_sound tabOK mixed (callsOK_get (l := s36) ⟨c30, ⟨Tryz.func50, by kernel_rfl, by kernel_rfl⟩, ⟨Tryz.func58, by kernel_rfl, by kernel_rfl⟩, c72, c86, c87, c88, c89, c90, trivial⟩) 8
def n36 : Ann := (.seq .no (.seq (.join [(.normal, [.keep 4 4, .keep 5 5, .obj 4 y15, .obj 5 y24])] .no) (.seq (.draw [0, 1, 2, 3]) .no)))
noncomputable abbrev b36 : Code := Tryz.f36.body.getD .skip
theorem e36 (x : denL i36) : evalF tab s36 8 Tryz.f36 b36 n36 i36 o36 x = g_frame_symbols x.1 x.2 := by kernel_rfl
theorem c36 : Contract P 36 i36 o36 (fun x => g_frame_symbols x.1 x.2) := evalF_contract tabOK mixed h36 Tryz.func36 (body := b36) (by kernel_rfl) (by kernel_rfl) e36
noncomputable def d36 : Nat × Callee := (36, .sem i36 o36 fun x => g_frame_symbols x.1 x.2)
abbrev i59 : List (Bool × Ty) := []
abbrev o59 : List (Bool × Ty) := [(true, y30)]
noncomputable def s59 : List (Nat × Callee) := []
theorem h59 : HOK P (handler tab s59 8) := handler_sound tabOK mixed (callsOK_get (l := s59) trivial) 8
def n59 : Ann := .no
noncomputable abbrev b59 : Code := Tryz.f59.body.getD .skip
theorem e59 (x : denL i59) : evalF tab s59 8 Tryz.f59 b59 n59 i59 o59 x = g_coder_Begin := by kernel_rfl
theorem c59 : Contract P 59 i59 o59 (fun x => g_coder_Begin) := evalF_contract tabOK mixed h59 Tryz.func59 (body := b59) (by kernel_rfl) (by kernel_rfl) e59
noncomputable def d59 : Nat × Callee := (59, .sem i59 o59 fun x => g_coder_Begin)
abbrev i83 : List (Bool × Ty) := [(true, y31)]
abbrev o83 : List (Bool × Ty) := [(false, yU), (false, yI)]
noncomputable def s83 : List (Nat × Callee) := []
theorem h83 : HOK P (handler tab s83 8) := handler_sound tabOK mixed (callsOK_get (l := s83) trivial) 8
def n83 : Ann := (.seq .no (.seq (.blk (.seq .no (.cond .no (.seq .no (.cond .no (.seq (.join [(.normal, [.slot 12 false .bool])] .no) .no)))))) .no))
noncomputable abbrev b83 : Code := Tryz.f83.body.getD .skip
theorem e83 (x : denL i83) : evalF tab s83 8 Tryz.f83 b83 n83 i83 o83 x = g_coder_interval_move x := by kernel_rfl
theorem c83 : Contract P 83 i83 o83 (fun x => g_coder_interval_move x) := evalF_contract tabOK mixed h83 Tryz.func83 (body := b83) (by kernel_rfl) (by kernel_rfl) e83
noncomputable def d83 : Nat × Callee := (83, .sem i83 o83 fun x => g_coder_interval_move x)
abbrev i78 : List (Bool × Ty) := [(true, y31)]
abbrev o78 : List (Bool × Ty) := [(false, .bool)]
noncomputable def s78 : List (Nat × Callee) := [d83]
theorem h78 : HOK P (handler tab s78 8) := handler_sound tabOK mixed (callsOK_get (l := s78) ⟨c83, trivial⟩) 8
def n78 : Ann := .no
noncomputable abbrev b78 : Code := Tryz.f78.body.getD .skip
theorem e78 (x : denL i78) : evalF tab s78 8 Tryz.f78 b78 n78 i78 o78 x = g_coder_interval_good x := by kernel_rfl
theorem c78 : Contract P 78 i78 o78 (fun x => g_coder_interval_good x) := evalF_contract tabOK mixed h78 Tryz.func78 (body := b78) (by kernel_rfl) (by kernel_rfl) e78
noncomputable def d78 : Nat × Callee := (78, .sem i78 o78 fun x => g_coder_interval_good x)
abbrev i74 : List (Bool × Ty) := [(true, y27)]
abbrev o74 : List (Bool × Ty) := [(false, yI)]
noncomputable def s74 : List (Nat × Callee) := []
theorem h74 : HOK P (handler tab s74 8) := handler_sound tabOK mixed (callsOK_get (l := s74) trivial) 8
def n74 : Ann := (.seq .no (.seq (.seq (.join [(.normal, [.keep 1 1, .slot 21 false .bool, .obj 1 y27])] .no) .no) (.seq (.seq .no (.seq (.join [(.normal, [.slot 39 false .bool])] .no) .no)) .no)))
noncomputable abbrev b74 : Code := Tryz.f74.body.getD .skip
theorem e74 (x : denL i74) : evalF tab s74 8 Tryz.f74 b74 n74 i74 o74 x = g_bits_Check x := by kernel_rfl
theorem c74 : Contract P 74 i74 o74 (fun x => g_bits_Check x) := evalF_contract tabOK mixed h74 Tryz.func74 (body := b74) (by kernel_rfl) (by kernel_rfl) e74
noncomputable def d74 : Nat × Callee := (74, .sem i74 o74 fun x => g_bits_Check x)
abbrev i79 : List (Bool × Ty) := [(true, y8)]
abbrev o79 : List (Bool × Ty) := [(false, yI)]
noncomputable def s79 : List (Nat × Callee) := [d85]
theorem h79 : HOK P (handler tab s79 8) := handler_sound tabOK mixed (callsOK_get (l := s79) ⟨c85, trivial⟩) 8
def n79 : Ann := (.seq .no (.seq (.seq (.join [(.normal, [.keep 1 1, .slot 26 false .bool, .obj 1 y8])] .no) .no) (.seq (.seq .no (.blk (.loop [.keep 1 1, .keep 27 27, .slot 29 false y8, .slot 30 false yI, .slot 31 false yI, .obj 27 y8] [(.exit 0, []), (.ret, [.slot 2 false yI])] .no))) .no)))
noncomputable abbrev b79 : Code := Tryz.f79.body.getD .skip
theorem e79 (x : denL i79) : evalF tab s79 8 Tryz.f79 b79 n79 i79 o79 x = g_freq_Check x := by kernel_rfl
theorem c79 : Contract P 79 i79 o79 (fun x => g_freq_Check x) := evalF_contract tabOK mixed h79 Tryz.func79 (body := b79) (by kernel_rfl) (by kernel_rfl) e79
noncomputable def d79 : Nat × Callee := (79, .sem i79 o79 fun x => g_freq_Check x)
abbrev i95 : List (Bool × Ty) := [(true, y8), (false, yI)]
abbrev o95 : List (Bool × Ty) := [(false, yI), (false, yI), (false, yI)]
noncomputable def s95 : List (Nat × Callee) := [d79]
theorem h95 : HOK P (handler tab s95 8) := handler_sound tabOK mixed (callsOK_get (l := s95) ⟨c79, trivial⟩) 8
def n95 : Ann := (.seq .no (.seq (.seq (.join [(.normal, [.slot 1 false yI, .keep 2 2, .slot 21 false .bool, .obj 2 y8])] .no) .no) (.seq (.draw [0, 1, 2, 3, 4, 5, 6, 7, 8, 9, 10, 11, 12, 13]) .no)))
noncomputable abbrev b95 : Code := Tryz.f95.body.getD .skip
theorem e95 (x : denL i95) : evalF tab s95 8 Tryz.f95 b95 n95 i95 o95 x = g_freq_Span x.1 x.2 := by kernel_rfl
theorem c95 : Contract P 95 i95 o95 (fun x => g_freq_Span x.1 x.2) := evalF_contract tabOK mixed h95 Tryz.func95 (body := b95) (by kernel_rfl) (by kernel_rfl) e95
noncomputable def d95 : Nat × Callee := (95, .sem i95 o95 fun x => g_freq_Span x.1 x.2)
abbrev i80 : List (Bool × Ty) := [(true, y8)]
abbrev o80 : List (Bool × Ty) := [(false, yI)]
noncomputable def s80 : List (Nat × Callee) := [d79, d85]
theorem h80 : HOK P (handler tab s80 8) := handler_sound tabOK mixed (callsOK_get (l := s80) ⟨c79, c85, trivial⟩) 8
def n80 : Ann := .no
noncomputable abbrev b80 : Code := Tryz.f80.body.getD .skip
theorem e80 (x : denL i80) : evalF tab s80 8 Tryz.f80 b80 n80 i80 o80 x = g_freq_Total x := by kernel_rfl
theorem c80 : Contract P 80 i80 o80 (fun x => g_freq_Total x) := evalF_contract tabOK mixed h80 Tryz.func80 (body := b80) (by kernel_rfl) (by kernel_rfl) e80
noncomputable def d80 : Nat × Callee := (80, .sem i80 o80 fun x => g_freq_Total x)
abbrev i155 : List (Bool × Ty) := [(false, yU), (false, yI)]
abbrev o155 : List (Bool × Ty) := [(false, .bool)]
noncomputable def s155 : List (Nat × Callee) := [d168]
theorem h155 : HOK P (handler tab s155 8) := handler_sound tabOK mixed (callsOK_get (l := s155) ⟨c168, trivial⟩) 8
def n155 : Ann := .no
noncomputable abbrev b155 : Code := Tryz.f155.body.getD .skip
theorem e155 (x : denL i155) : evalF tab s155 8 Tryz.f155 b155 n155 i155 o155 x = g_bits_fits x.1 x.2 := by kernel_rfl
theorem c155 : Contract P 155 i155 o155 (fun x => g_bits_fits x.1 x.2) := evalF_contract tabOK mixed h155 Tryz.func155 (body := b155) (by kernel_rfl) (by kernel_rfl) e155
noncomputable def d155 : Nat × Callee := (155, .sem i155 o155 fun x => g_bits_fits x.1 x.2)
abbrev i77 : List (Bool × Ty) := [(false, y26)]
abbrev o77 : List (Bool × Ty) := [(false, y32)]
noncomputable def s77 : List (Nat × Callee) := []
theorem h77 : HOK P (handler tab s77 8) := handler_sound tabOK mixed (callsOK_get (l := s77) trivial) 8
def n77 : Ann := .no
noncomputable abbrev b77 : Code := Tryz.f77.body.getD .skip
theorem e77n : evalA tab s77 8 Tryz.f77 b77 n77 [.nilsl] o77 = g_slices_Clone_Sbyte_byte [] := by kernel_rfl
theorem e77v (l : List Int) : evalA tab s77 8 Tryz.f77 b77 n77 [.slv yB l] o77 = g_slices_Clone_Sbyte_byte l := by kernel_rfl
theorem c77 : Contract P 77 i77 o77 g_slices_Clone_Sbyte_byte := evalA_contract tabOK mixed h77 Tryz.func77 (body := b77) (by kernel_rfl) (by kernel_rfl) rfl e77n e77v
noncomputable def d77 : Nat × Callee := (77, .sem i77 o77 fun x => g_slices_Clone_Sbyte_byte x)
abbrev i156 : List (Bool × Ty) := [(true, y33), (false, yU), (false, yI)]
abbrev o156 : List (Bool × Ty) := [(true, y33)]
noncomputable def s156 : List (Nat × Callee) := []
theorem h156 : HOK P (handler tab s156 8) := handler_sound tabOK mixed (callsOK_get (l := s156) trivial) 8
def n156 : Ann := (.seq .no (.seq (.blk (.loop [.slot 1 false yU, .slot 2 false yI, .keep 3 3, .keep 6 6, .obj 3 y33, .obj 6 y33] [(.exit 0, [.keep 3 3, .keep 6 6, .obj 3 y33, .obj 6 y33])] (.seq .no (.blk (.seq .no (.seq (.join [(.normal, [.slot 1 false yU, .slot 2 false yI, .keep 3 3, .keep 6 6, .slot 7 false yI, .keep 12 12, .obj 3 y33, .obj 6 y33])] .no) (.seq .no (.seq (.draw [0, 1, 2, 3, 4, 5, 6, 7, 8, 9, 10]) (.seq (.draw [0, 1, 2, 3, 4, 5, 6, 7, 8, 9, 10, 11, 12, 13, 14, 15]) .no))))))))) .no))
noncomputable abbrev b156 : Code := Tryz.f156.body.getD .skip
theorem e156 (x : denL i156) : evalF tab s156 8 Tryz.f156 b156 n156 i156 o156 x = g_bits_add x.1 x.2.1 x.2.2 := by kernel_rfl
theorem c156 : Contract P 156 i156 o156 (fun x => g_bits_add x.1 x.2.1 x.2.2) := evalF_contract tabOK mixed h156 Tryz.func156 (body := b156) (by kernel_rfl) (by kernel_rfl) e156
noncomputable def d156 : Nat × Callee := (156, .sem i156 o156 fun x => g_bits_add x.1 x.2.1 x.2.2)
abbrev i128 : List (Bool × Ty) := [(true, y27), (false, yU), (false, yI)]
abbrev o128 : List (Bool × Ty) := [(true, y33), (false, yI)]
noncomputable def s128 : List (Nat × Callee) := [d74, d77, d155, d156]
theorem h128 : HOK P (handler tab s128 8) := handler_sound tabOK mixed (callsOK_get (l := s128) ⟨c74, c77, c155, c156, trivial⟩) 8
def n128 : Ann := (.seq .no (.seq (.blk (.seq (.join [(.normal, [.slot 1 false yU, .slot 2 false yI, .keep 3 3, .keep 6 6, .slot 8 false .bool, .obj 3 y27, .obj 6 y33])] .no) .no)) .no))
noncomputable abbrev b128 : Code := Tryz.f128.body.getD .skip
theorem e128 (x : denL i128) : evalF tab s128 8 Tryz.f128 b128 n128 i128 o128 x = g_bits_Put x.1 x.2.1 x.2.2 := by kernel_rfl
theorem c128 : Contract P 128 i128 o128 (fun x => g_bits_Put x.1 x.2.1 x.2.2) := evalF_contract tabOK mixed h128 Tryz.func128 (body := b128) (by kernel_rfl) (by kernel_rfl) e128
noncomputable def d128 : Nat × Callee := (128, .sem i128 o128 fun x => g_bits_Put x.1 x.2.1 x.2.2)
abbrev i76 : List (Bool × Ty) := [(true, y27)]
abbrev o76 : List (Bool × Ty) := [(true, y33)]
noncomputable def s76 : List (Nat × Callee) := [d77]
theorem h76 : HOK P (handler tab s76 8) := handler_sound tabOK mixed (callsOK_get (l := s76) ⟨c77, trivial⟩) 8
def n76 : Ann := (.seq .no (.seq (.draw [0, 1, 2, 3, 4, 5, 6]) .no))
noncomputable abbrev b76 : Code := Tryz.f76.body.getD .skip
theorem e76 (x : denL i76) : evalF tab s76 8 Tryz.f76 b76 n76 i76 o76 x = g_coder_owned x := by kernel_rfl
theorem c76 : Contract P 76 i76 o76 (fun x => g_coder_owned x) := evalF_contract tabOK mixed h76 Tryz.func76 (body := b76) (by kernel_rfl) (by kernel_rfl) e76
noncomputable def d76 : Nat × Callee := (76, .sem i76 o76 fun x => g_coder_owned x)
abbrev i60 : List (Bool × Ty) := [(true, y30), (true, y8), (false, yI)]
abbrev o60 : List (Bool × Ty) := [(true, y36), (false, yI)]
def n82_60 : Ann := (.seq (.draw [0, 1, 2, 3, 4, 5, 6, 7, 8, 9, 10]) (.seq (.draw [0, 1, 2, 3, 4, 5, 6, 7, 8, 9, 10, 11, 12, 13, 14, 15, 16]) (.draw [0, 1, 2, 3, 4, 5, 6, 7, 8, 9, 10, 11, 12, 13, 14])))
def n84_60 : Ann := (.draw [0, 1, 2, 3, 4, 5, 6, 7, 8, 9, 10, 11, 12, 13, 14, 15, 16, 17, 18, 19, 20, 21, 22])
def n94_60 : Ann := (.seq .no (.seq .no (.seq (.join [(.normal, [.slot 0 true y30, .keep 2 4, .slot 3 false .bool, .keep 4 4, .keep 17 17, .obj 17 y39])] .no) .no)))
def n96_60 : Ann := (.blk (.loop [.keep 0 0, .obj 0 y39] [(.exit 0, [.keep 0 0, .obj 0 y39]), (.ret, [.keep 0 0, .obj 0 y39])] (.seq .no (.blk (.seq .no (.seq (.join [(.normal, [.keep 0 0, .slot 2 false yU, .keep 4 4, .keep 5 5, .keep 6 6, .keep 10 10, .keep 11 11, .keep 12 12, .obj 12 y39]), (.ret, [.keep 0 0, .keep 4 4, .keep 5 5, .keep 6 6, .keep 10 10, .keep 11 11, .keep 12 12, .obj 12 y39])] .no) .no))))))
def n97_60 : Ann := (.seq (.seq (.draw [0, 1, 2, 3, 4, 5, 6, 7, 8, 9, 10, 11]) .no) (.seq .no (.seq (.seq .no (.blk (.loop [.keep 0 0, .slot 1 false yU, .slot 4 false yI, .keep 6 6, .keep 7 7, .keep 8 8, .keep 11 11, .keep 12 12, .keep 13 13, .keep 14 14, .keep 22 22, .keep 23 23, .keep 24 24, .keep 25 25, .keep 26 26, .keep 32 32, .keep 33 33, .keep 34 34, .keep 35 35, .keep 36 36, .keep 37 37, .keep 38 38, .obj 37 y42] [(.exit 0, [.keep 0 0, .slot 1 false yU, .keep 6 6, .keep 7 7, .keep 8 8, .keep 11 11, .keep 12 12, .keep 13 13, .keep 14 14, .keep 22 22, .keep 23 23, .keep 24 24, .keep 25 25, .keep 26 26, .keep 32 32, .keep 33 33, .keep 34 34, .keep 35 35, .keep 36 36, .keep 37 37, .keep 38 38, .obj 37 y42])] (.seq (.seq (.join [(.normal, [.keep 0 0, .slot 1 false yU, .slot 4 false yI, .keep 6 6, .keep 7 7, .keep 8 8, .keep 11 11, .keep 12 12, .keep 13 13, .keep 14 14, .keep 22 22, .keep 23 23, .keep 24 24, .keep 25 25, .keep 26 26, .keep 32 32, .keep 33 33, .keep 34 34, .keep 35 35, .keep 36 36, .keep 37 37, .keep 38 38, .slot 48 false .bool, .obj 37 y42])] .no) .no) (.seq (.blk (.seq .no (.draw [0, 1, 2, 3, 4, 5, 6, 7, 8, 9, 10, 11, 12, 13, 14, 15, 16, 17, 18, 19, 20, 21, 22]))) .no))))) .no)))
noncomputable def s60 : List (Nat × Callee) := [d74, d76, d78, d80, (82, .inl Tryz.f82 b82 n82_60), d83, (84, .inl Tryz.f84 b84 n84_60), (94, .inl Tryz.f94 b94 n94_60), d95, (96, .inl Tryz.f96 b96 n96_60), (97, .inl Tryz.f97 b97 n97_60), d128]
theorem h60 : HOK P (handler tab s60 8) := handler_sound tabOK mixed (callsOK_get (l := s60) ⟨c74, c76, c78, c80, ⟨Tryz.func82, by kernel_rfl, by kernel_rfl⟩, c83, ⟨Tryz.func84, by kernel_rfl, by kernel_rfl⟩, ⟨Tryz.func94, by kernel_rfl, by kernel_rfl⟩, c95, ⟨Tryz.func96, by kernel_rfl, by kernel_rfl⟩, ⟨Tryz.func97, by kernel_rfl, by kernel_rfl⟩, c128, trivial⟩) 8
def n60 : Ann := (.seq .no (.seq .no (.seq .no (.seq (.seq (.join [(.normal, [.keep 4 4, .keep 6 6, .keep 8 8, .slot 10 false yI, .slot 11 false yI, .keep 16 16, .slot 30 false .bool, .obj 4 y8, .obj 6 y36, .obj 16 y39])] .no) .no) (.seq (.draw [0, 1, 2, 3, 4, 5, 6, 7]) (.seq (.join [(.normal, [.keep 6 6, .keep 8 8, .keep 16 16, .keep 32 32, .keep 33 33, .keep 34 34, .obj 6 y36, .obj 34 y39])] .no) (.seq (.join [(.normal, [.keep 6 6, .keep 8 8, .keep 16 16, .keep 32 32, .keep 33 33, .keep 34 34, .obj 6 y36, .obj 34 y39])] (.seq (.join [(.normal, [.keep 6 6, .keep 8 8, .keep 16 16, .keep 32 32, .keep 33 33, .keep 34 34, .slot 53 false .bool, .obj 6 y36, .obj 34 y39])] .no) .no)) (.seq (.seq .no (.cond (.seq (.draw [0, 1, 2, 3, 4, 5, 6]) .no) .no)) (.seq (.draw [0, 1, 2, 3, 4, 5, 6, 7, 8, 9, 10, 11, 12, 13, 14, 15, 16, 17, 18, 19, 20, 21, 22, 23]) .no)))))))))
noncomputable abbrev b60 : Code := Tryz.f60.body.getD .skip
theorem e60 (x : denL i60) : evalF tab s60 8 Tryz.f60 b60 n60 i60 o60 x = g_coder_Put x.1 x.2.1 x.2.2 := by kernel_rfl
theorem c60 : Contract P 60 i60 o60 (fun x => g_coder_Put x.1 x.2.1 x.2.2) := evalF_contract tabOK mixed h60 Tryz.func60 (body := b60) (by kernel_rfl) (by kernel_rfl) e60
noncomputable def d60 : Nat × Callee := (60, .sem i60 o60 fun x => g_coder_Put x.1 x.2.1 x.2.2)
abbrev i61 : List (Bool × Ty) := [(true, y30)]
abbrev o61 : List (Bool × Ty) := [(true, y33), (false, yI)]
def n94_61 : Ann := (.seq .no (.seq .no (.seq (.join [(.normal, [.slot 0 true y30, .keep 2 4, .slot 3 false .bool, .keep 4 4, .keep 17 17, .obj 17 y39])] .no) .no)))
def n97_61 : Ann := (.seq (.seq (.draw [0, 1, 2, 3, 4, 5, 6, 7, 8, 9, 10, 11]) .no) (.seq .no (.seq (.seq .no (.blk (.loop [.keep 0 0, .slot 1 false yU, .slot 4 false yI, .keep 6 6, .keep 7 7, .keep 8 8, .keep 11 11, .keep 12 12, .keep 13 13, .keep 14 14, .keep 22 22, .keep 23 23, .keep 24 24, .keep 25 25, .keep 26 26, .keep 32 32, .keep 33 33, .keep 34 34, .keep 35 35, .keep 36 36, .keep 37 37, .keep 38 38, .obj 37 y42] [(.exit 0, [.keep 0 0, .slot 1 false yU, .keep 6 6, .keep 7 7, .keep 8 8, .keep 11 11, .keep 12 12, .keep 13 13, .keep 14 14, .keep 22 22, .keep 23 23, .keep 24 24, .keep 25 25, .keep 26 26, .keep 32 32, .keep 33 33, .keep 34 34, .keep 35 35, .keep 36 36, .keep 37 37, .keep 38 38, .obj 37 y42])] (.seq (.seq (.join [(.normal, [.keep 0 0, .slot 1 false yU, .slot 4 false yI, .keep 6 6, .keep 7 7, .keep 8 8, .keep 11 11, .keep 12 12, .keep 13 13, .keep 14 14, .keep 22 22, .keep 23 23, .keep 24 24, .keep 25 25, .keep 26 26, .keep 32 32, .keep 33 33, .keep 34 34, .keep 35 35, .keep 36 36, .keep 37 37, .keep 38 38, .slot 48 false .bool, .obj 37 y42])] .no) .no) (.seq (.blk (.seq .no (.draw [0, 1, 2, 3, 4, 5, 6, 7, 8, 9, 10, 11, 12, 13, 14, 15, 16, 17, 18, 19, 20, 21, 22]))) .no))))) .no)))
noncomputable def s61 : List (Nat × Callee) := [d74, d78, (94, .inl Tryz.f94 b94 n94_61), (97, .inl Tryz.f97 b97 n97_61), d128]
theorem h61 : HOK P (handler tab s61 8) := handler_sound tabOK mixed (callsOK_get (l := s61) ⟨c74, c78, ⟨Tryz.func94, by kernel_rfl, by kernel_rfl⟩, ⟨Tryz.func97, by kernel_rfl, by kernel_rfl⟩, c128, trivial⟩) 8
def n61 : Ann := (.seq .no (.seq .no (.seq .no (.seq .no (.seq .no (.seq .no (.seq .no (.seq (.seq .no (.cond (.seq (.draw [0, 1, 2, 3, 4, 5, 6]) .no) .no)) .no))))))))
noncomputable abbrev b61 : Code := Tryz.f61.body.getD .skip
theorem e61 (x : denL i61) : evalF tab s61 8 Tryz.f61 b61 n61 i61 o61 x = g_coder_End x := by kernel_rfl
theorem c61 : Contract P 61 i61 o61 (fun x => g_coder_End x) := evalF_contract tabOK mixed h61 Tryz.func61 (body := b61) (by kernel_rfl) (by kernel_rfl) e61
noncomputable def d61 : Nat × Callee := (61, .sem i61 o61 fun x => g_coder_End x)
abbrev i37 : List (Bool × Ty) := [(false, y8), (false, y23)]
abbrev o37 : List (Bool × Ty) := [(true, y27), (false, yI)]
noncomputable def s37 : List (Nat × Callee) := [d59, d60, d61]
theorem h37 : HOK P (handler tab s37 8) := handler_sound tabOK mixed (callsOK_get (l := s37) ⟨c59, c60, c61, trivial⟩) 8
def n37 : Ann := (.seq .no (.seq .no (.seq .no (.seq (.seq .no (.blk (.loop [.slot 1 false y23, .keep 4 4, .keep 6 6, .slot 17 false y8, .slot 18 false yI, .slot 19 false yI, .obj 4 y33, .obj 6 y30] [(.exit 0, [.keep 4 4, .keep 6 6, .obj 4 y33, .obj 6 y30]), (.ret, [.keep 4 4, .slot 5 false yI, .obj 4 y33])] (.seq .no (.seq .no (.seq (.blk (.seq .no (.seq .no (.seq (.draw [0, 1, 2, 3, 4, 5, 6, 7, 8, 9, 10, 11]) .no)))) .no)))))) .no))))
noncomputable abbrev b37 : Code := Tryz.f37.body.getD .skip
theorem e37 (x : denL i37) : evalF tab s37 8 Tryz.f37 b37 n37 i37 o37 x = g_coder_All x.1 x.2 := by kernel_rfl
theorem c37 : Contract P 37 i37 o37 (fun x => g_coder_All x.1 x.2) := evalF_contract tabOK mixed h37 Tryz.func37 (body := b37) (by kernel_rfl) (by kernel_rfl) e37
noncomputable def d37 : Nat × Callee := (37, .sem i37 o37 fun x => g_coder_All x.1 x.2)
abbrev i18 : List (Bool × Ty) := [(true, y22), (true, y2)]
abbrev o18 : List (Bool × Ty) := [(false, y26), (false, yI)]
noncomputable def s18 : List (Nat × Callee) := [d35, d36, d37]
theorem h18 : HOK P (handler tab s18 8) := handler_sound tabOK mixed (callsOK_get (l := s18) ⟨c35, c36, c37, trivial⟩) 8
def n18 : Ann := .no
noncomputable abbrev b18 : Code := Tryz.f18.body.getD .skip
theorem e18 (x : denL i18) : evalF tab s18 8 Tryz.f18 b18 n18 i18 o18 x = g_frame_Write x.1 x.2 := by kernel_rfl
theorem c18 : Contract P 18 i18 o18 (fun x => g_frame_Write x.1 x.2) := evalF_contract tabOK mixed h18 Tryz.func18 (body := b18) (by kernel_rfl) (by kernel_rfl) e18
noncomputable def d18 : Nat × Callee := (18, .sem i18 o18 fun x => g_frame_Write x.1 x.2)
abbrev i47 : List (Bool × Ty) := [(false, y26)]
abbrev o47 : List (Bool × Ty) := [(true, y27)]
noncomputable def s47 : List (Nat × Callee) := [d77]
theorem h47 : HOK P (handler tab s47 8) := handler_sound tabOK mixed (callsOK_get (l := s47) ⟨c77, trivial⟩) 8
def n47 : Ann := .no
noncomputable abbrev b47 : Code := Tryz.f47.body.getD .skip
theorem e47 (x : denL i47) : evalF tab s47 8 Tryz.f47 b47 n47 i47 o47 x = g_bits_Of x := by kernel_rfl
theorem c47 : Contract P 47 i47 o47 (fun x => g_bits_Of x) := evalF_contract tabOK mixed h47 Tryz.func47 (body := b47) (by kernel_rfl) (by kernel_rfl) e47
noncomputable def d47 : Nat × Callee := (47, .sem i47 o47 fun x => g_bits_Of x)
abbrev i75 : List (Bool × Ty) := [(true, y27), (false, yI)]
abbrev o75 : List (Bool × Ty) := [(false, yU)]
noncomputable def s75 : List (Nat × Callee) := []
theorem h75 : HOK P (handler tab s75 8) := handler_sound tabOK mixed (callsOK_get (l := s75) trivial) 8
def n75 : Ann := .no
noncomputable abbrev b75 : Code := Tryz.f75.body.getD .skip
theorem e75 (x : denL i75) : evalF tab s75 8 Tryz.f75 b75 n75 i75 o75 x = g_coder_bit x.1 x.2 := by kernel_rfl
theorem c75 : Contract P 75 i75 o75 (fun x => g_coder_bit x.1 x.2) := evalF_contract tabOK mixed h75 Tryz.func75 (body := b75) (by kernel_rfl) (by kernel_rfl) e75
noncomputable def d75 : Nat × Callee := (75, .sem i75 o75 fun x => g_coder_bit x.1 x.2)
abbrev i46 : List (Bool × Ty) := [(true, y27)]
abbrev o46 : List (Bool × Ty) := [(true, y45), (false, yI)]
noncomputable def s46 : List (Nat × Callee) := [d74, d75, d76]
theorem h46 : HOK P (handler tab s46 8) := handler_sound tabOK mixed (callsOK_get (l := s46) ⟨c74, c75, c76, trivial⟩) 8
def n46 : Ann := (.seq .no (.seq .no (.seq .no (.seq (.seq .no (.blk (.loop [.keep 1 1, .keep 2 2, .slot 5 false yU, .slot 13 false yI, .obj 1 y27, .obj 2 y48] [(.exit 0, [.keep 1 1, .keep 2 2, .slot 5 false yU, .obj 1 y27, .obj 2 y48])] .no))) .no))))
noncomputable abbrev b46 : Code := Tryz.f46.body.getD .skip
theorem e46 (x : denL i46) : evalF tab s46 8 Tryz.f46 b46 n46 i46 o46 x = g_coder_Start x := by kernel_rfl
theorem c46 : Contract P 46 i46 o46 (fun x => g_coder_Start x) := evalF_contract tabOK mixed h46 Tryz.func46 (body := b46) (by kernel_rfl) (by kernel_rfl) e46
noncomputable def d46 : Nat × Callee := (46, .sem i46 o46 fun x => g_coder_Start x)
abbrev i163 : List (Bool × Ty) := [(false, yI)]
abbrev o163 : List (Bool × Ty) := [(false, .bool)]
noncomputable def s163 : List (Nat × Callee) := []
theorem h163 : HOK P (handler tab s163 8) := handler_sound tabOK mixed (callsOK_get (l := s163) trivial) 8
def n163 : Ann := .no
noncomputable abbrev b163 : Code := Tryz.f163.body.getD .skip
theorem e163 (x : denL i163) : evalF tab s163 8 Tryz.f163 b163 n163 i163 o163 x = g_cmp_isNaN_int x := by kernel_rfl
theorem c163 : Contract P 163 i163 o163 (fun x => g_cmp_isNaN_int x) := evalF_contract tabOK mixed h163 Tryz.func163 (body := b163) (by kernel_rfl) (by kernel_rfl) e163
noncomputable def d163 : Nat × Callee := (163, .sem i163 o163 fun x => g_cmp_isNaN_int x)
abbrev i148 : List (Bool × Ty) := [(false, yI), (false, yI)]
abbrev o148 : List (Bool × Ty) := [(false, .bool)]
noncomputable def s148 : List (Nat × Callee) := [d163]
theorem h148 : HOK P (handler tab s148 8) := handler_sound tabOK mixed (callsOK_get (l := s148) ⟨c163, trivial⟩) 8
def n148 : Ann := .no
noncomputable abbrev b148 : Code := Tryz.f148.body.getD .skip
theorem e148 (x : denL i148) : evalF tab s148 8 Tryz.f148 b148 n148 i148 o148 x = g_cmp_Less_int x.1 x.2 := by kernel_rfl
theorem c148 : Contract P 148 i148 o148 (fun x => g_cmp_Less_int x.1 x.2) := evalF_contract tabOK mixed h148 Tryz.func148 (body := b148) (by kernel_rfl) (by kernel_rfl) e148
noncomputable def d148 : Nat × Callee := (148, .sem i148 o148 fun x => g_cmp_Less_int x.1 x.2)
abbrev i149 : List (Bool × Ty) := [(false, yI)]
abbrev o149 : List (Bool × Ty) := [(false, .bool)]
noncomputable def s149 : List (Nat × Callee) := []
theorem h149 : HOK P (handler tab s149 8) := handler_sound tabOK mixed (callsOK_get (l := s149) trivial) 8
def n149 : Ann := .no
noncomputable abbrev b149 : Code := Tryz.f149.body.getD .skip
theorem e149 (x : denL i149) : evalF tab s149 8 Tryz.f149 b149 n149 i149 o149 x = g_slices_isNaN_int x := by kernel_rfl
theorem c149 : Contract P 149 i149 o149 (fun x => g_slices_isNaN_int x) := evalF_contract tabOK mixed h149 Tryz.func149 (body := b149) (by kernel_rfl) (by kernel_rfl) e149
noncomputable def d149 : Nat × Callee := (149, .sem i149 o149 fun x => g_slices_isNaN_int x)
abbrev i121 : List (Bool × Ty) := [(false, y8), (false, yI)]
abbrev o121 : List (Bool × Ty) := [(false, yI), (false, .bool)]
noncomputable def s121 : List (Nat × Callee) := [d148, d149]
theorem h121 : HOK P (handler tab s121 8) := handler_sound tabOK mixed (callsOK_get (l := s121) ⟨c148, c149, trivial⟩) 8
def n121 : Ann := (.seq .no (.seq .no (.seq .no (.seq (.blk (.loop [.slot 0 false y8, .slot 1 false yI, .slot 6 false yI, .slot 7 false yI, .slot 8 false yI] [(.exit 0, [.slot 0 false y8, .slot 1 false yI, .slot 6 false yI, .slot 7 false yI])] .no)) .no))))
noncomputable abbrev b121 : Code := Tryz.f121.body.getD .skip
theorem e121 (x : denL i121) : evalF tab s121 8 Tryz.f121 b121 n121 i121 o121 x = g_slices_BinarySearch_Sint_int x.1 x.2 := by kernel_rfl
theorem c121 : Contract P 121 i121 o121 (fun x => g_slices_BinarySearch_Sint_int x.1 x.2) := evalF_contract tabOK mixed h121 Tryz.func121 (body := b121) (by kernel_rfl) (by kernel_rfl) e121
noncomputable def d121 : Nat × Callee := (121, .sem i121 o121 fun x => g_slices_BinarySearch_Sint_int x.1 x.2)
abbrev i81 : List (Bool × Ty) := [(true, y8), (false, yI)]
abbrev o81 : List (Bool × Ty) := [(false, yI), (false, yI)]
noncomputable def s81 : List (Nat × Callee) := [d79, d85, d121]
theorem h81 : HOK P (handler tab s81 8) := handler_sound tabOK mixed (callsOK_get (l := s81) ⟨c79, c85, c121, trivial⟩) 8
def n81 : Ann := (.seq .no (.seq (.seq (.join [(.normal, [.slot 1 false yI, .keep 2 2, .slot 20 false .bool, .obj 2 y8])] .no) .no) (.seq .no (.seq (.join [(.normal, [.slot 6 false yI])] .no) .no))))
noncomputable abbrev b81 : Code := Tryz.f81.body.getD .skip
theorem e81 (x : denL i81) : evalF tab s81 8 Tryz.f81 b81 n81 i81 o81 x = g_freq_Find x.1 x.2 := by kernel_rfl
theorem c81 : Contract P 81 i81 o81 (fun x => g_freq_Find x.1 x.2) := evalF_contract tabOK mixed h81 Tryz.func81 (body := b81) (by kernel_rfl) (by kernel_rfl) e81
noncomputable def d81 : Nat × Callee := (81, .sem i81 o81 fun x => g_freq_Find x.1 x.2)
abbrev i48 : List (Bool × Ty) := [(true, y45), (true, y8)]
abbrev o48 : List (Bool × Ty) := [(true, y45), (false, yI), (false, yI)]
def n82_48 : Ann := (.seq (.draw [0, 1, 2, 3, 4, 5, 6, 7, 8, 9, 10]) (.seq (.draw [0, 1, 2, 3, 4, 5, 6, 7, 8, 9, 10, 11, 12, 13, 14, 15, 16]) (.draw [0, 1, 2, 3, 4, 5, 6, 7, 8, 9, 10, 11, 12, 13, 14])))
def n84_48 : Ann := (.draw [0, 1, 2, 3, 4, 5, 6, 7, 8, 9, 10, 11, 12, 13, 14, 15, 16, 17, 18, 19, 20, 21, 22])
noncomputable def s48 : List (Nat × Callee) := [d74, d75, d76, d78, d79, d80, d81, (82, .inl Tryz.f82 b82 n82_48), d83, (84, .inl Tryz.f84 b84 n84_48)]
theorem h48 : HOK P (handler tab s48 8) := handler_sound tabOK mixed (callsOK_get (l := s48) ⟨c74, c75, c76, c78, c79, c80, c81, ⟨Tryz.func82, by kernel_rfl, by kernel_rfl⟩, c83, ⟨Tryz.func84, by kernel_rfl, by kernel_rfl⟩, trivial⟩) 8
def n48 : Ann := (.seq .no (.seq .no (.seq (.draw [0, 1, 2, 3, 4, 5, 6]) (.seq (.blk (.seq (.join [(.normal, [.keep 2 2, .keep 3 3, .keep 4 4, .keep 7 7, .slot 8 false yU, .slot 9 false yI, .keep 16 16, .keep 19 19, .keep 23 23, .keep 26 26, .slot 28 false .bool, .obj 16 y45, .obj 3 y8, .obj 4 y48, .obj 7 y31])] .no) .no)) (.seq .no (.seq .no (.seq .no (.seq .no (.seq (.draw [0, 1, 2, 3, 4, 5, 6, 7, 8, 9, 10, 11, 12]) (.seq (.blk (.loop [.keep 2 2, .keep 4 4, .keep 7 7, .slot 8 false yU, .slot 9 false yI, .slot 12 false yI, .keep 16 16, .keep 19 19, .keep 23 23, .keep 26 26, .keep 54 54, .keep 55 55, .keep 63 63, .keep 71 71, .keep 73 73, .obj 16 y45, .obj 4 y48, .obj 73 y31] [(.exit 1, [.keep 2 2, .keep 4 4, .keep 7 7, .slot 8 false yU, .slot 9 false yI, .slot 12 false yI, .keep 16 16, .keep 19 19, .keep 23 23, .keep 26 26, .keep 54 54, .keep 55 55, .keep 63 63, .keep 71 71, .keep 73 73, .obj 16 y45, .obj 4 y48, .obj 73 y31])] .no)) (.seq (.draw [0, 1, 2, 3, 4, 5, 6, 7, 8, 9, 10, 11, 12, 13, 14, 15, 16]) .no)))))))))))
noncomputable abbrev b48 : Code := Tryz.f48.body.getD .skip
theorem e48 (x : denL i48) : evalF tab s48 8 Tryz.f48 b48 n48 i48 o48 x = g_coder_Next x.1 x.2 := by kernel_rfl
theorem c48 : Contract P 48 i48 o48 (fun x => g_coder_Next x.1 x.2) := evalF_contract tabOK mixed h48 Tryz.func48 (body := b48) (by kernel_rfl) (by kernel_rfl) e48
noncomputable def d48 : Nat × Callee := (48, .sem i48 o48 fun x => g_coder_Next x.1 x.2)
abbrev i51 : List (Bool × Ty) := [(false, y26), (false, y26)]
abbrev o51 : List (Bool × Ty) := [(false, .bool)]
noncomputable def s51 : List (Nat × Callee) := []
theorem h51 : HOK P (handler tab s51 8) := handler_sound tabOK mixed (callsOK_get (l := s51) trivial) 8
def n51 : Ann := (.seq .no (.seq .no (.seq (.seq .no (.blk (.loop [.slot 0 false y26, .slot 1 false y26, .slot 12 false yI, .slot 13 false yI] [(.exit 0, []), (.ret, [.slot 4 false .bool])] (.seq .no (.seq .no (.seq (.blk (.seq .no (.seq (.draw [0, 1, 2, 3, 4, 5, 6, 7, 8]) .no))) .no)))))) .no)))
noncomputable abbrev b51 : Code := Tryz.f51.body.getD .skip
theorem e51 (x : denL i51) : evalF tab s51 8 Tryz.f51 b51 n51 i51 o51 x = g_slices_Equal_Sbyte_byte x.1 x.2 := by kernel_rfl
theorem c51 : Contract P 51 i51 o51 (fun x => g_slices_Equal_Sbyte_byte x.1 x.2) := evalF_contract tabOK mixed h51 Tryz.func51 (body := b51) (by kernel_rfl) (by kernel_rfl) e51
noncomputable def d51 : Nat × Callee := (51, .sem i51 o51 fun x => g_slices_Equal_Sbyte_byte x.1 x.2)
abbrev i31 : List (Bool × Ty) := [(false, y26), (true, y2)]
abbrev o31 : List (Bool × Ty) := [(true, y22), (false, yI)]
def n28_31 : Ann := (.join [(.ret, [.slot 0 false y26, .nbox 2 y49])] .no)
def n29_31 : Ann := (.seq .no (.seq (.seq .no (.cond (.draw [0, 1, 2, 3, 4, 5, 6, 7, 8, 9, 10, 11, 12, 13, 14, 15, 16, 17, 18, 19, 20]) .no)) .no))
def n50_31 : Ann := (.seq .no (.seq (.seq (.join [(.normal, [.keep 0 0, .slot 1 true y2, .keep 2 2, .keep 4 4, .slot 25 false .bool, .obj 0 y22, .obj 4 y2, .obj 1002 y49])] (.draw [0, 1, 2, 3, 4, 5, 6])) .no) (.seq .no (.seq .no (.seq (.join [(.normal, [.keep 0 0, .slot 1 true y2, .keep 2 2, .keep 7 7, .keep 8 8, .obj 0 y22, .obj 7 y8, .obj 8 y2, .obj 1002 y49])] (.seq .no (.cond (.seq (.draw [0, 1, 2, 3]) (.seq .no (.blk (.loop [.keep 0 0, .slot 1 true y2, .keep 2 2, .keep 7 7, .keep 8 8, .keep 27 27, .keep 28 28, .keep 29 29, .slot 34 false yI, .obj 29 y22, .obj 7 y8, .obj 8 y2, .obj 1002 y49] [(.exit 0, [.keep 0 0, .slot 1 true y2, .keep 2 2, .keep 7 7, .keep 8 8, .keep 27 27, .keep 28 28, .keep 29 29, .obj 29 y22, .obj 7 y8, .obj 8 y2, .obj 1002 y49])] .no)))) .no))) (.seq (.seq .no (.blk (.loop [.keep 0 0, .slot 1 true y2, .keep 2 2, .keep 7 7, .keep 8 8, .slot 43 false yI, .obj 0 y22, .obj 7 y8, .obj 8 y2, .obj 1002 y49] [(.exit 2, [.keep 0 0, .slot 1 true y2, .keep 2 2, .obj 0 y22, .obj 1002 y49]), (.ret, [.keep 0 0, .slot 1 true y2, .keep 2 2, .slot 6 false .bool, .obj 0 y22, .obj 1002 y49])] (.seq .no (.seq .no (.seq (.blk (.seq .no (.seq (.draw [0, 1, 2, 3, 4, 5, 6, 7, 8, 9, 10, 11]) (.seq (.seq (.join [(.normal, [.keep 0 0, .slot 1 true y2, .keep 2 2, .keep 7 7, .keep 8 8, .slot 10 false yI, .keep 11 11, .slot 43 false yI, .keep 46 46, .keep 48 48, .keep 49 49, .slot 59 false .bool, .obj 48 y22, .obj 7 y8, .obj 8 y2, .obj 11 yI, .obj 1002 y49])] .no) .no) (.draw [0, 1, 2, 3, 4, 5, 6, 7, 8, 9, 10]))))) .no)))))) (.seq .no (.seq .no (.seq .no (.seq (.seq .no (.blk (.loop [.keep 0 0, .slot 1 true y2, .keep 2 2, .keep 12 12, .keep 71 71, .keep 72 72, .keep 73 73, .keep 77 77, .keep 78 78, .keep 79 79, .slot 86 false yI, .obj 78 y22, .obj 12 y2, .obj 1002 y49] [(.exit 4, [.keep 0 0, .slot 1 true y2, .keep 2 2, .keep 71 71, .keep 72 72, .keep 73 73, .keep 77 77, .keep 78 78, .keep 79 79, .obj 78 y22, .obj 1002 y49]), (.ret, [.keep 0 0, .slot 1 true y2, .keep 2 2, .slot 6 false .bool, .keep 71 71, .keep 72 72, .keep 73 73, .keep 77 77, .keep 78 78, .keep 79 79, .obj 78 y22, .obj 1002 y49])] (.seq .no (.seq .no (.seq (.join [(.normal, [.keep 0 0, .slot 1 true y2, .keep 2 2, .keep 12 12, .keep 71 71, .keep 72 72, .keep 73 73, .keep 77 77, .keep 78 78, .keep 79 79, .slot 86 false yI, .obj 78 y22, .obj 12 y2, .obj 1002 y49]), (.ret, [.keep 0 0, .slot 1 true y2, .keep 2 2, .slot 6 false .bool, .keep 71 71, .keep 72 72, .keep 73 73, .keep 77 77, .keep 78 78, .keep 79 79, .obj 78 y22, .obj 1002 y49])] (.blk (.seq .no (.seq .no (.seq .no (.seq .no (.seq .no (.seq (.seq (.join [(.normal, [.keep 0 0, .slot 1 true y2, .keep 2 2, .keep 12 12, .slot 14 false yI, .slot 17 false yI, .keep 18 18, .keep 71 71, .keep 72 72, .keep 73 73, .keep 77 77, .keep 78 78, .keep 79 79, .slot 86 false yI, .keep 102 102, .keep 104 104, .keep 105 105, .slot 114 false .bool, .obj 104 y22, .obj 12 y2, .obj 18 yI, .obj 1002 y49])] .no) .no) (.draw [0, 1, 2, 3, 4, 5, 6, 7, 8]))))))))) .no)))))) .no))))))))))
noncomputable def s31 : List (Nat × Callee) := [d18, (28, .inl Tryz.f28 b28 n28_31), (29, .inl Tryz.f29 b29 n29_31), d30, d39, d46, d47, d48, (50, .inl Tryz.f50 b50 n50_31), d51, d72, d86, d87, d88, d89, d90]
theorem h31 : HOK P (handler tab s31 8) := handler_sound tabOK mixed (callsOK_get (l := s31) ⟨c18, ⟨Tryz.func28, by kernel_rfl, by kernel_rfl⟩, ⟨Tryz.func29, by kernel_rfl, by kernel_rfl⟩, c30, c39, c46, c47, c48, ⟨Tryz.func50, by kernel_rfl, by kernel_rfl⟩, c51, c72, c86, c87, c88, c89, c90, trivial⟩) 8
def n31 : Ann := (.seq .no (.seq .no (.seq (.seq (.join [(.normal, [.slot 0 false y26, .keep 3 3, .keep 4 4, .slot 20 false .bool, .obj 3 y2, .obj 4 y22])] (.draw [0, 1, 2, 3, 4, 5])) .no) (.seq (.seq .no (.seq (.join [(.normal, [.keep 4 4, .slot 35 false .bool, .obj 4 y22])] .no) .no)) .no))))
noncomputable abbrev b31 : Code := Tryz.f31.body.getD .skip
theorem e31 (x : denL i31) : evalF tab s31 8 Tryz.f31 b31 n31 i31 o31 x = g_frame_Read x.1 x.2 := by kernel_rfl
theorem c31 : Contract P 31 i31 o31 (fun x => g_frame_Read x.1 x.2) := evalF_contract tabOK mixed h31 Tryz.func31 (body := b31) (by kernel_rfl) (by kernel_rfl) e31
noncomputable def d31 : Nat × Callee := (31, .sem i31 o31 fun x => g_frame_Read x.1 x.2)
abbrev i33 : List (Bool × Ty) := [(true, y1), (true, y2)]
abbrev o33 : List (Bool × Ty) := [(true, y1), (false, yI)]
noncomputable def s33 : List (Nat × Callee) := [d53, d54, d55]
theorem h33 : HOK P (handler tab s33 8) := handler_sound tabOK mixed (callsOK_get (l := s33) ⟨c53, c54, c55, trivial⟩) 8
def n33 : Ann := (.seq .no (.seq .no (.seq .no (.seq (.seq .no (.blk (.loop [.keep 2 2, .keep 4 4, .slot 5 false yI, .keep 6 6, .slot 20 false yI, .obj 2 y1, .obj 4 y1, .obj 6 y20] [(.exit 0, [.keep 4 4, .slot 5 false yI, .obj 4 y1])] (.seq .no (.seq .no (.seq (.blk (.seq .no (.draw [0, 1, 2, 3, 4, 5, 6, 7, 8, 9, 10, 11]))) .no)))))) .no))))
noncomputable abbrev b33 : Code := Tryz.f33.body.getD .skip
theorem e33 (x : denL i33) : evalF tab s33 8 Tryz.f33 b33 n33 i33 o33 x = g_quant_Great x.1 x.2 := by kernel_rfl
theorem c33 : Contract P 33 i33 o33 (fun x => g_quant_Great x.1 x.2) := evalF_contract tabOK mixed h33 Tryz.func33 (body := b33) (by kernel_rfl) (by kernel_rfl) e33
noncomputable def d33 : Nat × Callee := (33, .sem i33 o33 fun x => g_quant_Great x.1 x.2)
abbrev i14 : List (Bool × Ty) := [(true, y7), (false, y26)]
abbrev o14 : List (Bool × Ty) := [(true, y7), (true, y1), (false, yI)]
def n24_14 : Ann := (.seq .no (.seq (.draw [0, 1, 2, 3, 4, 5]) .no))
def n25_14 : Ann := (.seq .no (.seq (.join [(.normal, [.keep 0 0, .slot 1 false yI, .obj 0 y19])] .no) .no))
def n26_14 : Ann := (.seq .no (.seq (.seq .no (.cond (.seq (.draw [0, 1, 2, 3, 4, 5, 6, 7, 8]) .no) .no)) (.seq (.draw [0, 1, 2, 3, 4, 5, 6, 7, 8, 9, 10]) .no)))
def n27_14 : Ann := (.seq (.draw [0, 1, 2, 3, 4, 5, 6, 7, 8, 9, 10, 11, 12, 13, 14, 15, 16, 17, 18]) .no)
def n32_14 : Ann := (.seq .no (.seq .no (.seq .no (.seq .no (.seq (.draw [0, 1, 2, 3, 4, 5, 6, 7, 8, 9, 10, 11, 12, 13, 14, 15, 16, 17, 18, 19, 20]) .no)))))
noncomputable def s14 : List (Nat × Callee) := [d19, (24, .inl Tryz.f24 b24 n24_14), (25, .inl Tryz.f25 b25 n25_14), (26, .inl Tryz.f26 b26 n26_14), (27, .inl Tryz.f27 b27 n27_14), d31, (32, .inl Tryz.f32 b32 n32_14), d33, d38, d45, d52]
theorem h14 : HOK P (handler tab s14 8) := handler_sound tabOK mixed (callsOK_get (l := s14) ⟨c19, ⟨Tryz.func24, by kernel_rfl, by kernel_rfl⟩, ⟨Tryz.func25, by kernel_rfl, by kernel_rfl⟩, ⟨Tryz.func26, by kernel_rfl, by kernel_rfl⟩, ⟨Tryz.func27, by kernel_rfl, by kernel_rfl⟩, c31, ⟨Tryz.func32, by kernel_rfl, by kernel_rfl⟩, c33, c38, c45, c52, trivial⟩) 8
def n14 : Ann := (.seq .no (.seq .no (.seq .no (.seq .no (.seq (.join [(.normal, [.keep 4 4, .keep 5 5, .keep 7 7, .keep 8 8, .slot 9 false yI, .keep 11 11, .keep 12 12, .keep 13 13, .keep 14 14, .obj 4 y7, .obj 5 y1, .obj 13 y19, .obj 8 y22])] (.seq (.join [(.normal, [.keep 4 4, .keep 5 5, .keep 7 7, .keep 8 8, .slot 9 false yI, .keep 11 11, .keep 12 12, .keep 13 13, .keep 14 14, .slot 40 false .bool, .obj 4 y7, .obj 5 y1, .obj 13 y19, .obj 8 y22])] .no) .no)) (.seq .no (.seq (.draw [0, 1, 2, 3, 4, 5, 6, 7, 8, 9, 10, 11, 12, 13, 14, 15, 16, 17, 18, 19, 20, 21, 22]) (.seq (.join [(.normal, [.keep 4 4, .keep 5 5, .keep 7 7, .keep 11 11, .keep 12 12, .keep 13 13, .keep 14 14, .keep 41 41, .keep 49 49, .keep 50 50, .keep 51 51, .keep 60 60, .keep 61 61, .keep 62 62, .keep 63 63, .keep 64 64, .keep 65 65, .keep 66 66, .keep 67 67, .keep 68 68, .obj 4 y7, .obj 5 y1, .obj 67 y19])] .no) .no))))))))
noncomputable abbrev b14 : Code := Tryz.f14.body.getD .skip
theorem e14 (x : denL i14) : evalF tab s14 8 Tryz.f14 b14 n14 i14 o14 x = g_decoder_Step x.1 x.2 := by kernel_rfl
theorem c14 : Contract P 14 i14 o14 (fun x => g_decoder_Step x.1 x.2) := evalF_contract tabOK mixed h14 Tryz.func14 (body := b14) (by kernel_rfl) (by kernel_rfl) e14
noncomputable def d14 : Nat × Callee := (14, .sem i14 o14 fun x => g_decoder_Step x.1 x.2)
abbrev i6 : List (Bool × Ty) := []
abbrev o6 : List (Bool × Ty) := [(false, .bool)]
noncomputable def s6 : List (Nat × Callee) := [d14, d15, d17, d18]
theorem h6 : HOK P (handler tab s6 8) := handler_sound tabOK mixed (callsOK_get (l := s6) ⟨c14, c15, c17, c18, trivial⟩) 8
def n6 : Ann := .no
noncomputable abbrev b6 : Code := Tryz.f6.body.getD .skip
theorem e6 (x : denL i6) : evalF tab s6 8 Tryz.f6 b6 n6 i6 o6 x = g_law11_live := by kernel_rfl
theorem c6 : Contract P 6 i6 o6 (fun x => g_law11_live) := evalF_contract tabOK mixed h6 Tryz.func6 (body := b6) (by kernel_rfl) (by kernel_rfl) e6
noncomputable def d6 : Nat × Callee := (6, .sem i6 o6 fun x => g_law11_live)
abbrev i7 : List (Bool × Ty) := [(false, y50)]
abbrev o7 : List (Bool × Ty) := [(false, .bool)]
noncomputable def s7 : List (Nat × Callee) := []
theorem h7 : HOK P (handler tab s7 8) := handler_sound tabOK mixed (callsOK_get (l := s7) trivial) 8
def n7 : Ann := (.seq .no (.seq (.seq .no (.blk (.loop [.slot 0 false y50, .slot 5 false y50, .slot 6 false yI, .slot 7 false yI] [(.exit 0, [.slot 0 false y50]), (.ret, [.slot 2 false .bool])] .no))) .no))
noncomputable abbrev b7 : Code := Tryz.f7.body.getD .skip
theorem e7 (x : denL i7) : evalF tab s7 8 Tryz.f7 b7 n7 i7 o7 x = g_law11_few x := by kernel_rfl
theorem c7 : Contract P 7 i7 o7 (fun x => g_law11_few x) := evalF_contract tabOK mixed h7 Tryz.func7 (body := b7) (by kernel_rfl) (by kernel_rfl) e7
noncomputable def d7 : Nat × Callee := (7, .sem i7 o7 fun x => g_law11_few x)
abbrev i44 : List (Bool × Ty) := [(false, yI), (false, yI)]
abbrev o44 : List (Bool × Ty) := [(false, .bool)]
noncomputable def s44 : List (Nat × Callee) := []
theorem h44 : HOK P (handler tab s44 8) := handler_sound tabOK mixed (callsOK_get (l := s44) trivial) 8
def n44 : Ann := .no
noncomputable abbrev b44 : Code := Tryz.f44.body.getD .skip
theorem e44 (x : denL i44) : evalF tab s44 8 Tryz.f44 b44 n44 i44 o44 x = g_r07_within x.1 x.2 := by kernel_rfl
theorem c44 : Contract P 44 i44 o44 (fun x => g_r07_within x.1 x.2) := evalF_contract tabOK mixed h44 Tryz.func44 (body := b44) (by kernel_rfl) (by kernel_rfl) e44
noncomputable def d44 : Nat × Callee := (44, .sem i44 o44 fun x => g_r07_within x.1 x.2)
abbrev i22 : List (Bool × Ty) := [(true, y1)]
abbrev o22 : List (Bool × Ty) := [(false, .bool)]
noncomputable def s22 : List (Nat × Callee) := [d44]
theorem h22 : HOK P (handler tab s22 8) := handler_sound tabOK mixed (callsOK_get (l := s22) ⟨c44, trivial⟩) 8
def n22 : Ann := (.seq .no (.seq (.seq .no (.blk (.loop [.slot 5 true y1, .slot 6 false yI] [(.exit 0, []), (.ret, [.slot 2 false .bool])] .no))) .no))
noncomputable abbrev b22 : Code := Tryz.f22.body.getD .skip
theorem e22 (x : denL i22) : evalF tab s22 8 Tryz.f22 b22 n22 i22 o22 x = g_r07_MayTail x := by kernel_rfl
theorem c22 : Contract P 22 i22 o22 (fun x => g_r07_MayTail x) := evalF_contract tabOK mixed h22 Tryz.func22 (body := b22) (by kernel_rfl) (by kernel_rfl) e22
noncomputable def d22 : Nat × Callee := (22, .sem i22 o22 fun x => g_r07_MayTail x)
abbrev i23 : List (Bool × Ty) := [(true, y2)]
abbrev o23 : List (Bool × Ty) := [(false, yI)]
noncomputable def s23 : List (Nat × Callee) := []
theorem h23 : HOK P (handler tab s23 8) := handler_sound tabOK mixed (callsOK_get (l := s23) trivial) 8
def n23 : Ann := (.seq .no (.seq (.seq .no (.blk (.loop [.slot 5 true y2, .slot 6 false yI] [(.exit 0, []), (.ret, [.slot 2 false yI])] (.seq .no (.seq .no (.seq (.blk (.seq .no (.seq (.join [(.normal, [.slot 5 true y2, .slot 6 false yI, .slot 14 false .bool])] .no) .no))) .no)))))) .no))
noncomputable abbrev b23 : Code := Tryz.f23.body.getD .skip
theorem e23 (x : denL i23) : evalF tab s23 8 Tryz.f23 b23 n23 i23 o23 x = g_r08_Check x := by kernel_rfl
theorem c23 : Contract P 23 i23 o23 (fun x => g_r08_Check x) := evalF_contract tabOK mixed h23 Tryz.func23 (body := b23) (by kernel_rfl) (by kernel_rfl) e23
noncomputable def d23 : Nat × Callee := (23, .sem i23 o23 fun x => g_r08_Check x)
abbrev i11 : List (Bool × Ty) := [(true, y7)]
abbrev o11 : List (Bool × Ty) := [(false, yI)]
noncomputable def s11 : List (Nat × Callee) := [d22, d23]
theorem h11 : HOK P (handler tab s11 8) := handler_sound tabOK mixed (callsOK_get (l := s11) ⟨c22, c23, trivial⟩) 8
def n11 : Ann := (.seq .no (.seq (.seq (.join [(.normal, [.slot 20 false .bool])] .no) .no) .no))
noncomputable abbrev b11 : Code := Tryz.f11.body.getD .skip
theorem e11 (x : denL i11) : evalF tab s11 8 Tryz.f11 b11 n11 i11 o11 x = g_r11_Check x := by kernel_rfl
theorem c11 : Contract P 11 i11 o11 (fun x => g_r11_Check x) := evalF_contract tabOK mixed h11 Tryz.func11 (body := b11) (by kernel_rfl) (by kernel_rfl) e11
noncomputable def d11 : Nat × Callee := (11, .sem i11 o11 fun x => g_r11_Check x)
abbrev i64 : List (Bool × Ty) := [(false, y26), (true, y2)]
abbrev i12 : List (Bool × Ty) := [(true, y7), (false, yI)]
abbrev o12 : List (Bool × Ty) := [(true, y7), (true, y1), (false, yI)]
def n24_12 : Ann := (.seq .no (.seq (.draw [0, 1, 2, 3, 4, 5]) .no))
def n25_12 : Ann := (.seq .no (.seq (.join [(.normal, [.keep 0 0, .slot 1 false yI, .obj 0 y19])] .no) .no))
def n26_12 : Ann := (.seq .no (.seq (.seq .no (.cond (.seq (.draw [0, 1, 2, 3, 4, 5, 6, 7, 8]) .no) .no)) (.seq (.draw [0, 1, 2, 3, 4, 5, 6, 7, 8, 9, 10]) .no)))
def n27_12 : Ann := (.seq (.draw [0, 1, 2, 3, 4, 5, 6, 7, 8, 9, 10, 11, 12, 13, 14, 15, 16, 17, 18]) .no)
def n32_12 : Ann := (.seq .no (.seq .no (.seq .no (.seq .no (.seq (.draw [0, 1, 2, 3, 4, 5, 6, 7, 8, 9, 10, 11, 12, 13, 14, 15, 16, 17, 18, 19, 20]) .no)))))
noncomputable def s12 : List (Nat × Callee) := [d19, (24, .inl Tryz.f24 b24 n24_12), (25, .inl Tryz.f25 b25 n25_12), (26, .inl Tryz.f26 b26 n26_12), (27, .inl Tryz.f27 b27 n27_12), (32, .inl Tryz.f32 b32 n32_12), d38, d45, d52]
theorem h12 : HOK P (handler tab s12 8) := handler_sound tabOK mixed (callsOK_get (l := s12) ⟨c19, ⟨Tryz.func24, by kernel_rfl, by kernel_rfl⟩, ⟨Tryz.func25, by kernel_rfl, by kernel_rfl⟩, ⟨Tryz.func26, by kernel_rfl, by kernel_rfl⟩, ⟨Tryz.func27, by kernel_rfl, by kernel_rfl⟩, ⟨Tryz.func32, by kernel_rfl, by kernel_rfl⟩, c38, c45, c52, trivial⟩) 8
def n12 : Ann := (.seq .no (.seq .no (.seq (.join [(.normal, [.slot 1 false yI, .keep 4 4, .keep 5 5, .keep 7 7, .keep 10 10, .obj 4 y7, .obj 5 y1, .obj 10 y19])] .no) (.seq .no (.seq .no (.seq (.seq .no (.blk (.loop [.slot 1 false yI, .keep 4 4, .keep 5 5, .keep 7 7, .keep 10 10, .keep 15 15, .keep 16 16, .keep 17 17, .slot 27 false yI, .obj 4 y7, .obj 5 y1, .obj 16 y19] [(.exit 0, [.keep 4 4, .keep 5 5, .keep 7 7, .keep 10 10, .keep 15 15, .keep 16 16, .keep 17 17, .obj 4 y7, .obj 5 y1, .obj 16 y19])] (.seq .no (.seq .no (.seq (.blk (.seq .no (.draw [0, 1, 2, 3, 4, 5, 6, 7, 8, 9, 10, 11, 12, 13, 14, 15, 16]))) .no)))))) (.seq .no (.seq (.join [(.normal, [.keep 4 4, .keep 5 5, .keep 7 7, .keep 10 10, .keep 15 15, .keep 16 16, .keep 17 17, .keep 47 47, .keep 48 48, .keep 49 49, .keep 50 50, .obj 4 y7, .obj 5 y1, .obj 49 y19])] .no) .no))))))))
noncomputable abbrev b12 : Code := Tryz.f12.body.getD .skip
theorem e12 (x : denL i12) : evalF tab s12 8 Tryz.f12 b12 n12 i12 o12 x = g_decoder_Fade x.1 x.2 := by kernel_rfl
theorem c12 : Contract P 12 i12 o12 (fun x => g_decoder_Fade x.1 x.2) := evalF_contract tabOK mixed h12 Tryz.func12 (body := b12) (by kernel_rfl) (by kernel_rfl) e12
noncomputable def d12 : Nat × Callee := (12, .sem i12 o12 fun x => g_decoder_Fade x.1 x.2)
abbrev i16 : List (Bool × Ty) := [(true, y1)]
abbrev o16 : List (Bool × Ty) := [(false, yI)]
noncomputable def s16 : List (Nat × Callee) := [d34]
theorem h16 : HOK P (handler tab s16 8) := handler_sound tabOK mixed (callsOK_get (l := s16) ⟨c34, trivial⟩) 8
def n16 : Ann := (.seq .no (.seq (.seq .no (.blk (.loop [.slot 5 true y1, .slot 6 false yI] [(.exit 0, []), (.ret, [.slot 2 false yI])] .no))) .no))
noncomputable abbrev b16 : Code := Tryz.f16.body.getD .skip
theorem e16 (x : denL i16) : evalF tab s16 8 Tryz.f16 b16 n16 i16 o16 x = g_lapped_Check x := by kernel_rfl
theorem c16 : Contract P 16 i16 o16 (fun x => g_lapped_Check x) := evalF_contract tabOK mixed h16 Tryz.func16 (body := b16) (by kernel_rfl) (by kernel_rfl) e16
noncomputable def d16 : Nat × Callee := (16, .sem i16 o16 fun x => g_lapped_Check x)
abbrev i5 : List (Bool × Ty) := [(false, y50), (false, y8)]
abbrev o5 : List (Bool × Ty) := [(false, .bool)]
noncomputable def s5 : List (Nat × Callee) := [d6, d7, d11, d12, d14, d15, d16]
theorem h5 : HOK P (handler tab s5 8) := handler_sound tabOK mixed (callsOK_get (l := s5) ⟨c6, c7, c11, c12, c14, c15, c16, trivial⟩) 8
def n5 : Ann := (.seq .no (.seq .no (.seq (.seq (.join [(.normal, [.slot 0 false y50, .slot 1 false y8, .slot 5 false .bool, .slot 26 false .bool])] .no) .no) (.seq .no (.seq (.seq .no (.blk (.loop [.slot 1 false y8, .slot 5 false .bool, .keep 6 6, .slot 29 false y50, .slot 30 false yI, .slot 31 false yI, .obj 6 y7] [(.exit 0, [.slot 5 false .bool]), (.ret, [.slot 4 false .bool])] (.seq .no (.seq .no (.seq (.join [(.normal, [.slot 1 false y8, .slot 5 false .bool, .keep 6 6, .slot 29 false y50, .slot 30 false yI, .slot 31 false yI, .obj 6 y7]), (.ret, [.slot 4 false .bool])] (.blk (.seq .no (.seq (.join [(.normal, [.slot 1 false y8, .slot 5 false .bool, .keep 6 6, .slot 8 false y26, .slot 29 false y50, .slot 30 false yI, .slot 31 false yI, .obj 6 y7]), (.ret, [.slot 4 false .bool])] (.seq (.join [(.normal, [.slot 1 false y8, .slot 5 false .bool, .keep 6 6, .slot 7 false yI, .slot 8 false y26, .slot 29 false y50, .slot 30 false yI, .slot 31 false yI, .slot 47 false .bool, .obj 6 y7])] .no) (.cond (.seq .no (.seq (.seq (.join [(.normal, [.slot 1 false y8, .slot 5 false .bool, .keep 6 6, .slot 8 false y26, .keep 9 9, .slot 29 false y50, .slot 30 false yI, .slot 31 false yI, .slot 71 false .bool, .obj 6 y7, .obj 9 y7])] .no) .no) .no)) .no))) (.seq .no (.seq .no (.seq (.seq (.join [(.normal, [.slot 1 false y8, .slot 5 false .bool, .keep 6 6, .keep 12 12, .keep 13 13, .slot 14 false yI, .slot 29 false y50, .slot 30 false yI, .slot 31 false yI, .slot 99 false .bool, .obj 6 y7, .obj 12 y7, .obj 13 y1])] .no) .no) (.seq (.seq .no (.cond (.seq (.seq (.join [(.normal, [.slot 1 false y8, .slot 5 false .bool, .keep 6 6, .slot 29 false y50, .slot 30 false yI, .slot 31 false yI, .slot 117 false .bool, .obj 6 y7])] .no) .no) .no) .no)) (.seq (.seq (.join [(.normal, [.slot 1 false y8, .slot 5 false .bool, .keep 6 6, .keep 12 12, .slot 29 false y50, .slot 30 false yI, .slot 31 false yI, .slot 132 false .bool, .obj 6 y7, .obj 12 y7])] .no) .no) .no))))))))) .no)))))) .no)))))
noncomputable abbrev b5 : Code := Tryz.f5.body.getD .skip
theorem e5 (x : denL i5) : evalF tab s5 8 Tryz.f5 b5 n5 i5 o5 x = g_law11_DecoderTotal x.1 x.2 := by kernel_rfl
theorem c5 : Contract P 5 i5 o5 (fun x => g_law11_DecoderTotal x.1 x.2) := evalF_contract tabOK mixed h5 Tryz.func5 (body := b5) (by kernel_rfl) (by kernel_rfl) e5
end Go.Rx
