/- Parts of a proof: evaluation of Go code over typed values, and what it computes. -/
import Derived.Test.YthnpjelnibnmlaaX4
import Derived.Test.YthnpjelnibnmlaaF
import Derived.KernelRfl
import Derived.Test.YthnpjelnibnmlaaChecked
set_option linter.unusedSimpArgs false
set_option linter.unusedVariables false
set_option linter.unusedSectionVars false
/- Each function does what its function of plain values says: checked by the kernel. Printed by a program of ours. -/
set_option linter.unusedVariables false
set_option maxRecDepth 100000
namespace Go.Rx
open Go.Proofs Go.Sq

def tab : Tab := [
  (3, { td := .int .i64, size := 1, bytes := 8, ty := some (.int .i64), zc := [.int .i64 0] }),
  (4, { td := .bool, size := 1, bytes := 1, ty := some .bool, zc := [.bool false] }),
  (5, { td := .int .u8, size := 1, bytes := 1, ty := some (.int .u8), zc := [.int .u8 0] }),
  (9, { td := .str, size := 1, bytes := 16, ty := some .str, zc := [.str ByteArray.empty] }),
  (22, { td := .sl 5, size := 1, bytes := 24, ty := some (.sl (.int .u8)), zc := [.nilsl] }),
  (24, { td := .arr 6 3, size := 6, bytes := 48, ty := some (.arr 6 (.int .i64)), zc := [.arr 6 (.int .i64) (List.replicate 6 (dflt (.int .i64)))], eq := true }),
  (26, { td := .arr 16 3, size := 16, bytes := 128, ty := some (.arr 16 (.int .i64)), zc := [.arr 16 (.int .i64) (List.replicate 16 (dflt (.int .i64)))], eq := true }),
  (28, { td := .st [(0, 3), (1, 24), (7, 26)], size := 23, bytes := 184, ty := some (.pair (.int .i64) (.pair (.arr 6 (.int .i64)) (.arr 16 (.int .i64)))), zc := [.int .i64 0, .arr 6 (.int .i64) (List.replicate 6 (dflt (.int .i64))), .arr 16 (.int .i64) (List.replicate 16 (dflt (.int .i64)))], eq := true }),
  (29, { td := .int .i64, size := 1, bytes := 8, ty := some (.int .i64), zc := [.int .i64 0] }),
  (43, { td := .sl 54, size := 1, bytes := 24, ty := some (.sl (.sl (.int .i64))), zc := [.nilsl] }),
  (44, { td := .sl 3, size := 1, bytes := 24, ty := some (.sl (.int .i64)), zc := [.nilsl] }),
  (48, { td := .st [(0, 22), (1, 3)], size := 2, bytes := 32, ty := some (.pair (.sl (.int .u8)) (.int .i64)), zc := [.nilsl, .int .i64 0] }),
  (54, { td := .st [(0, 44)], size := 1, bytes := 24, ty := some (.sl (.int .i64)), zc := [.nilsl] }),
  (58, { td := .ptr 28, size := 1, bytes := 8, ty := none, zc := [.nilp] }),
  (59, { td := .other, size := 1, bytes := 8, ty := none, zc := [.nilf] }),
  (60, { td := .ptr 89, size := 1, bytes := 8, ty := none, zc := [.nilp] }),
  (66, { td := .st [(0, 3), (1, 3)], size := 2, bytes := 16, ty := some (.pair (.int .i64) (.int .i64)), zc := [.int .i64 0, .int .i64 0] }),
  (67, { td := .arr 16 66, size := 32, bytes := 256, ty := some (.arr 16 (.pair (.int .i64) (.int .i64))), zc := [.arr 16 (.pair (.int .i64) (.int .i64)) (List.replicate 16 (dflt (.pair (.int .i64) (.int .i64))))] }),
  (68, { td := .arr 6 3, size := 6, bytes := 48, ty := some (.arr 6 (.int .i64)), zc := [.arr 6 (.int .i64) (List.replicate 6 (dflt (.int .i64)))] }),
  (71, { td := .ptr 3, size := 1, bytes := 8, ty := none, zc := [.nilp] }),
  (73, { td := .int .u32, size := 1, bytes := 4, ty := some (.int .u32), zc := [.int .u32 0] }),
  (75, { td := .st [(0, 73), (1, 73), (2, 3), (3, 48)], size := 5, bytes := 48, ty := some (.pair (.int .u32) (.pair (.int .u32) (.pair (.int .i64) (.pair (.sl (.int .u8)) (.int .i64))))), zc := [.int .u32 0, .int .u32 0, .int .i64 0, .nilsl, .int .i64 0] }),
  (87, { td := .st [(0, 73), (1, 73), (2, 73), (3, 48), (5, 3)], size := 6, bytes := 56, ty := some (.pair (.int .u32) (.pair (.int .u32) (.pair (.int .u32) (.pair (.pair (.sl (.int .u8)) (.int .i64)) (.int .i64))))), zc := [.int .u32 0, .int .u32 0, .int .u32 0, .nilsl, .int .i64 0, .int .i64 0] }),
  (89, { td := .st [(0, 87), (6, 29)], size := 7, bytes := 64, ty := some (.pair (.pair (.int .u32) (.pair (.int .u32) (.pair (.int .u32) (.pair (.pair (.sl (.int .u8)) (.int .i64)) (.int .i64))))) (.int .i64)), zc := [.int .u32 0, .int .u32 0, .int .u32 0, .nilsl, .int .i64 0, .int .i64 0, .int .i64 0] }),
  (99, { td := .ptr 107, size := 1, bytes := 8, ty := none, zc := [.nilp] }),
  (103, { td := .int .u64, size := 1, bytes := 8, ty := some (.int .u64), zc := [.int .u64 0] }),
  (105, { td := .st [(0, 103), (1, 103)], size := 2, bytes := 16, ty := some (.pair (.int .u64) (.int .u64)), zc := [.int .u64 0, .int .u64 0] }),
  (107, { td := .st [(0, 105), (2, 3), (3, 48), (5, 29)], size := 6, bytes := 64, ty := some (.pair (.pair (.int .u64) (.int .u64)) (.pair (.int .i64) (.pair (.pair (.sl (.int .u8)) (.int .i64)) (.int .i64)))), zc := [.int .u64 0, .int .u64 0, .int .i64 0, .nilsl, .int .i64 0, .int .i64 0] }),
  (115, { td := .other, size := 1, bytes := 8, ty := none, zc := [.nilf] }),
  (118, { td := .arr 7 3, size := 7, bytes := 56, ty := some (.arr 7 (.int .i64)), zc := [.arr 7 (.int .i64) (List.replicate 7 (dflt (.int .i64)))] }),
  (121, { td := .int .u64, size := 1, bytes := 8, ty := some (.int .u64), zc := [.int .u64 0] }),
  (127, { td := .ptr 105, size := 1, bytes := 8, ty := none, zc := [.nilp] }),
  (130, { td := .other, size := 1, bytes := 8, ty := none, zc := [.nilf] })]

theorem tabOK : TabOK Try.prog tab := chkTab_sound (by kernel_rfl)
theorem mixed : Try.prog.follows .mixedOrders = true := by kernel_rfl

noncomputable def bd65 : BackD := ⟨15, 0, 1, 2, 3, 0, 1, 8, 18, 11, 12, 16, 17, rO (cF (Try.f65.body.getD .skip)), rO (cF (cF (bkL (Try.f65.body.getD .skip)))), rO (cS (cS (bkL (Try.f65.body.getD .skip)))), (bkO (Try.f65.body.getD .skip)).take 6, (bkO (Try.f65.body.getD .skip)).drop 7, hdO ((bkO (Try.f65.body.getD .skip)).drop 6), atO (hdO ((bkO (Try.f65.body.getD .skip)).drop 6))⟩
theorem bk65 : BackOK Try.prog tab 65 6 bd65 := ⟨⟨Try.f65, Try.func65, by kernel_rfl, by kernel_rfl, by kernel_rfl, by kernel_rfl⟩, fun y l => by kernel_rfl, fun y i => by kernel_rfl, fun y l i => tk_bif (c := within i 6) (S := bkS 6 15 y l i) (by kernel_rfl) (by kernel_rfl), ⟨by kernel_rfl, by kernel_rfl, by kernel_rfl⟩, by decide, fun y i b => by kernel_rfl, fun y i => by kernel_rfl⟩

noncomputable def s18 : List (Nat × Callee) := []
theorem h18 : HOK Try.prog (handler tab s18 8) := handler_sound tabOK mixed (callsOK_get (l := s18) trivial) 8
def n18 : Ann := (.seq .no (.seq .no (.seq (.seq .no (.blk (.loop [.keep 1 1, .keep 3 3, .slot 7 true (.arr 6 (.int .i64)), .slot 8 false (.int .i64), .obj 1 (.arr 6 (.int .i64)), .obj 3 (.arr 6 (.int .i64))] [(.exit 0, [.keep 1 1, .keep 3 3, .obj 1 (.arr 6 (.int .i64)), .obj 3 (.arr 6 (.int .i64))])] .no))) .no)))
theorem e18 (x : denL [(true, (.arr 6 (.int .i64)))]) : evalF tab s18 8 Try.f18 (Try.f18.body.getD .skip) n18 [(true, (.arr 6 (.int .i64)))] [(false, (.int .i64))] x = g_bands_Check x := by kernel_rfl
theorem c18 : Contract Try.prog 18 [(true, (.arr 6 (.int .i64)))] [(false, (.int .i64))] (fun x => g_bands_Check x) := evalF_contract tabOK mixed h18 Try.func18 (body := Try.f18.body.getD .skip) (by kernel_rfl) (by kernel_rfl) e18

def n52_51 : Ann := .no
noncomputable def s51 : List (Nat × Callee) := [(18, .sem [(true, (.arr 6 (.int .i64)))] [(false, (.int .i64))] fun x => g_bands_Check x),
  (52, .inl Try.f52 (Try.f52.body.getD .skip) n52_51),
  (65, .back 6)]
theorem h51 : HOK Try.prog (handler tab s51 8) := handler_sound tabOK mixed (callsOK_get (l := s51) ⟨c18, ⟨Try.func52, by kernel_rfl, by kernel_rfl⟩, ⟨by decide, by decide, bd65, tab, tabOK, bk65⟩, trivial⟩) 8
def n51 : Ann := (.seq .no (.seq .no (.seq .no (.seq (.seq .no (.blk (.loop [.keep 1 1, .keep 2 2, .slot 3 false (.int .i64), .keep 5 5, .slot 15 false (.int .i64), .obj 1 (.arr 6 (.int .i64)), .obj 2 (.arr 6 (.int .i64)), .obj 5 (.int .i64)] [(.exit 0, [.keep 1 1, .keep 2 2, .slot 3 false (.int .i64), .keep 5 5, .obj 1 (.arr 6 (.int .i64)), .obj 2 (.arr 6 (.int .i64)), .obj 5 (.int .i64)])] (.seq .no (.seq .no (.seq (.blk (.seq .no (.seq (.draw [0, 1, 2, 3, 4, 5, 6, 7, 8]) (.draw [0, 1, 2, 3, 4, 5, 6])))) .no)))))) (.seq .no (.seq (.seq .no (.blk (.loop [.obj 1 (.arr 6 (.int .i64)), .obj 2 (.arr 6 (.int .i64)), .obj 5 (.int .i64)] [] (.blk (.seq (.draw [0, 1, 2, 3, 4, 5, 6, 7, 8]) .no))))) .no))))))
theorem e51 (x : denL [(true, (.arr 6 (.int .i64)))]) : evalF tab s51 8 Try.f51 (Try.f51.body.getD .skip) n51 [(true, (.arr 6 (.int .i64)))] [(true, (.arr 6 (.int .i64))), (false, (.int .i64))] x = g_bands_Mask x := by kernel_rfl
theorem c51 : Contract Try.prog 51 [(true, (.arr 6 (.int .i64)))] [(true, (.arr 6 (.int .i64))), (false, (.int .i64))] (fun x => g_bands_Mask x) := evalF_contract tabOK mixed h51 Try.func51 (body := Try.f51.body.getD .skip) (by kernel_rfl) (by kernel_rfl) e51

noncomputable def s54 : List (Nat × Callee) := []
theorem h54 : HOK Try.prog (handler tab s54 8) := handler_sound tabOK mixed (callsOK_get (l := s54) trivial) 8
def n54 : Ann := .no
theorem e54 (x : denL []) : evalF tab s54 8 Try.f54 (Try.f54.body.getD .skip) n54 [] [(true, (.arr 7 (.int .i64)))] x = g_bands_edges := by kernel_rfl
theorem c54 : Contract Try.prog 54 [] [(true, (.arr 7 (.int .i64)))] (fun x => g_bands_edges) := evalF_contract tabOK mixed h54 Try.func54 (body := Try.f54.body.getD .skip) (by kernel_rfl) (by kernel_rfl) e54

noncomputable def s53 : List (Nat × Callee) := [(54, .sem [] [(true, (.arr 7 (.int .i64)))] fun x => g_bands_edges)]
theorem h53 : HOK Try.prog (handler tab s53 8) := handler_sound tabOK mixed (callsOK_get (l := s53) ⟨c54, trivial⟩) 8
def n53 : Ann := (.seq .no (.seq .no (.seq .no (.seq (.seq .no (.blk (.loop [.keep 1 1, .keep 3 3, .slot 4 false (.int .i64), .slot 7 false (.int .i64), .obj 1 (.arr 6 (.int .i64)), .obj 3 (.arr 7 (.int .i64))] [(.exit 0, [.slot 4 false (.int .i64)])] (.seq .no (.seq .no (.seq (.blk (.seq .no (.draw [0, 1, 2, 3, 4, 5, 6, 7, 8, 9, 10, 11, 12, 13, 14]))) .no)))))) .no))))
theorem e53 (x : denL [(true, (.arr 6 (.int .i64)))]) : evalF tab s53 8 Try.f53 (Try.f53.body.getD .skip) n53 [(true, (.arr 6 (.int .i64)))] [(false, (.int .i64))] x = g_bands_Cost x := by kernel_rfl
theorem c53 : Contract Try.prog 53 [(true, (.arr 6 (.int .i64)))] [(false, (.int .i64))] (fun x => g_bands_Cost x) := evalF_contract tabOK mixed h53 Try.func53 (body := Try.f53.body.getD .skip) (by kernel_rfl) (by kernel_rfl) e53

def n52_32 : Ann := .no
noncomputable def s32 : List (Nat × Callee) := [(51, .sem [(true, (.arr 6 (.int .i64)))] [(true, (.arr 6 (.int .i64))), (false, (.int .i64))] fun x => g_bands_Mask x),
  (52, .inl Try.f52 (Try.f52.body.getD .skip) n52_32),
  (53, .sem [(true, (.arr 6 (.int .i64)))] [(false, (.int .i64))] fun x => g_bands_Cost x),
  (65, .back 6)]
theorem h32 : HOK Try.prog (handler tab s32 8) := handler_sound tabOK mixed (callsOK_get (l := s32) ⟨c51, ⟨Try.func52, by kernel_rfl, by kernel_rfl⟩, c53, ⟨by decide, by decide, bd65, tab, tabOK, bk65⟩, trivial⟩) 8
def n32 : Ann := (.seq .no (.blk (.seq .no (.seq (.seq (.join [(.normal, [.keep 2 2, .keep 3 3, .keep 4 4, .slot 5 false (.int .i64), .keep 6 6, .slot 21 false .bool, .obj 2 (.arr 6 (.int .i64)), .obj 3 (.int .i64), .obj 4 (.arr 6 (.int .i64)), .obj 6 (.arr 6 (.int .i64))])] .no) .no) (.seq (.seq .no (.blk (.loop [.keep 2 2, .keep 3 3, .keep 4 4, .slot 5 false (.int .i64), .keep 6 6, .slot 23 false (.int .i64), .obj 2 (.arr 6 (.int .i64)), .obj 3 (.int .i64), .obj 4 (.arr 6 (.int .i64)), .obj 6 (.arr 6 (.int .i64))] [(.exit 0, [.keep 3 3, .keep 4 4, .slot 5 false (.int .i64), .obj 3 (.int .i64), .obj 4 (.arr 6 (.int .i64))])] (.seq .no (.seq .no (.seq (.join [(.normal, [.keep 2 2, .keep 3 3, .keep 4 4, .slot 5 false (.int .i64), .keep 6 6, .slot 23 false (.int .i64), .obj 2 (.arr 6 (.int .i64)), .obj 3 (.int .i64), .obj 4 (.arr 6 (.int .i64)), .obj 6 (.arr 6 (.int .i64))])] (.blk (.seq .no (.seq (.draw [0, 1, 2, 3, 4, 5, 6, 7, 8, 9, 10, 11, 12, 13, 14]) (.seq (.draw [0, 1, 2, 3, 4, 5, 6]) .no))))) .no)))))) (.seq .no (.seq (.seq .no (.blk (.loop [.keep 3 3, .keep 4 4, .slot 5 false (.int .i64), .obj 3 (.int .i64), .obj 4 (.arr 6 (.int .i64)), .nbox 8 (.int .i64)] [(.exit 2, [.keep 4 4, .obj 4 (.arr 6 (.int .i64))])] (.seq .no (.seq (.blk (.seq .no (.blk (.loop [.obj 3 (.int .i64), .obj 4 (.arr 6 (.int .i64)), .obj 8 (.int .i64)] [(.exit 2, [.obj 3 (.int .i64), .obj 4 (.arr 6 (.int .i64)), .obj 8 (.int .i64)])] (.blk (.seq (.seq (.draw [0, 1, 2, 3]) .no) .no)))))) .no))))) .no)))))))
theorem e32 (x : denL [(true, (.arr 6 (.int .i64))), (false, (.int .i64))]) : evalF tab s32 8 Try.f32 (Try.f32.body.getD .skip) n32 [(true, (.arr 6 (.int .i64))), (false, (.int .i64))] [(true, (.arr 6 (.int .i64))), (false, (.int .i64))] x = g_bands_Share x.1 x.2 := by kernel_rfl
theorem c32 : Contract Try.prog 32 [(true, (.arr 6 (.int .i64))), (false, (.int .i64))] [(true, (.arr 6 (.int .i64))), (false, (.int .i64))] (fun x => g_bands_Share x.1 x.2) := evalF_contract tabOK mixed h32 Try.func32 (body := Try.f32.body.getD .skip) (by kernel_rfl) (by kernel_rfl) e32

noncomputable def s40 : List (Nat × Callee) := [(54, .sem [] [(true, (.arr 7 (.int .i64)))] fun x => g_bands_edges)]
theorem h40 : HOK Try.prog (handler tab s40 8) := handler_sound tabOK mixed (callsOK_get (l := s40) ⟨c54, trivial⟩) 8
def n40 : Ann := (.seq .no (.seq (.seq (.join [(.normal, [.slot 0 false (.int .i64), .slot 11 false .bool])] .no) .no) (.seq .no (.seq (.draw [0, 1, 2, 3, 4, 5, 6, 7, 8, 9]) .no))))
theorem e40 (x : denL [(false, (.int .i64))]) : evalF tab s40 8 Try.f40 (Try.f40.body.getD .skip) n40 [(false, (.int .i64))] [(false, (.int .i64)), (false, (.int .i64)), (false, (.int .i64))] x = g_bands_Edge x := by kernel_rfl
theorem c40 : Contract Try.prog 40 [(false, (.int .i64))] [(false, (.int .i64)), (false, (.int .i64)), (false, (.int .i64))] (fun x => g_bands_Edge x) := evalF_contract tabOK mixed h40 Try.func40 (body := Try.f40.body.getD .skip) (by kernel_rfl) (by kernel_rfl) e40

noncomputable def s62 : List (Nat × Callee) := []
theorem h62 : HOK Try.prog (handler tab s62 8) := handler_sound tabOK mixed (callsOK_get (l := s62) trivial) 8
def n62 : Ann := (.seq .no (.seq (.seq (.join [(.normal, [.slot 0 false (.int .i64), .slot 9 false .bool])] .no) .no) .no))
theorem e62 (x : denL [(false, (.int .i64))]) : evalF tab s62 8 Try.f62 (Try.f62.body.getD .skip) n62 [(false, (.int .i64))] [(false, (.int .i64)), (false, (.int .i64))] x = g_quant_Peak x := by kernel_rfl
theorem c62 : Contract Try.prog 62 [(false, (.int .i64))] [(false, (.int .i64)), (false, (.int .i64))] (fun x => g_quant_Peak x) := evalF_contract tabOK mixed h62 Try.func62 (body := Try.f62.body.getD .skip) (by kernel_rfl) (by kernel_rfl) e62

noncomputable def s34 : List (Nat × Callee) := []
theorem h34 : HOK Try.prog (handler tab s34 8) := handler_sound tabOK mixed (callsOK_get (l := s34) trivial) 8
def n34 : Ann := .no
theorem e34 (x : denL [(false, (.int .i64))]) : evalF tab s34 8 Try.f34 (Try.f34.body.getD .skip) n34 [(false, (.int .i64))] [(false, (.int .i64))] x = g_quant_Most x := by kernel_rfl
theorem c34 : Contract Try.prog 34 [(false, (.int .i64))] [(false, (.int .i64))] (fun x => g_quant_Most x) := evalF_contract tabOK mixed h34 Try.func34 (body := Try.f34.body.getD .skip) (by kernel_rfl) (by kernel_rfl) e34

noncomputable def s41 : List (Nat × Callee) := [(34, .sem [(false, (.int .i64))] [(false, (.int .i64))] fun x => g_quant_Most x),
  (62, .sem [(false, (.int .i64))] [(false, (.int .i64)), (false, (.int .i64))] fun x => g_quant_Peak x)]
theorem h41 : HOK Try.prog (handler tab s41 8) := handler_sound tabOK mixed (callsOK_get (l := s41) ⟨c34, c62, trivial⟩) 8
def n41 : Ann := (.seq .no (.seq .no (.seq (.seq (.join [(.normal, [.slot 1 false (.int .i64), .slot 6 false (.int .i64), .slot 22 false .bool])] .no) .no) .no)))
theorem e41 (x : denL [(false, (.int .i64)), (false, (.int .i64))]) : evalF tab s41 8 Try.f41 (Try.f41.body.getD .skip) n41 [(false, (.int .i64)), (false, (.int .i64))] [(false, (.int .i64)), (false, (.int .i64))] x = g_quant_Step x.1 x.2 := by kernel_rfl
theorem c41 : Contract Try.prog 41 [(false, (.int .i64)), (false, (.int .i64))] [(false, (.int .i64)), (false, (.int .i64))] (fun x => g_quant_Step x.1 x.2) := evalF_contract tabOK mixed h41 Try.func41 (body := Try.f41.body.getD .skip) (by kernel_rfl) (by kernel_rfl) e41

noncomputable def s24 : List (Nat × Callee) := [(32, .sem [(true, (.arr 6 (.int .i64))), (false, (.int .i64))] [(true, (.arr 6 (.int .i64))), (false, (.int .i64))] fun x => g_bands_Share x.1 x.2),
  (34, .sem [(false, (.int .i64))] [(false, (.int .i64))] fun x => g_quant_Most x),
  (40, .sem [(false, (.int .i64))] [(false, (.int .i64)), (false, (.int .i64)), (false, (.int .i64))] fun x => g_bands_Edge x),
  (41, .sem [(false, (.int .i64)), (false, (.int .i64))] [(false, (.int .i64)), (false, (.int .i64))] fun x => g_quant_Step x.1 x.2)]
theorem h24 : HOK Try.prog (handler tab s24 8) := handler_sound tabOK mixed (callsOK_get (l := s24) ⟨c32, c34, c40, c41, trivial⟩) 8
def n24 : Ann := (.seq .no (.seq .no (.seq (.seq .no (.blk (.loop [.keep 1 1, .keep 2 2, .keep 3 3, .slot 4 false (.int .i64), .slot 18 true (.arr 6 (.int .i64)), .slot 19 false (.int .i64), .obj 1 (.arr 6 (.int .i64)), .obj 2 (.arr 16 (.pair (.int .i64) (.int .i64))), .obj 3 (.arr 6 (.int .i64))] [(.exit 0, [.keep 2 2, .keep 3 3, .slot 4 false (.int .i64), .obj 2 (.arr 16 (.pair (.int .i64) (.int .i64))), .obj 3 (.arr 6 (.int .i64))])] (.seq .no (.seq .no (.seq (.join [(.normal, [.keep 1 1, .keep 2 2, .keep 3 3, .slot 4 false (.int .i64), .slot 18 true (.arr 6 (.int .i64)), .slot 19 false (.int .i64), .obj 1 (.arr 6 (.int .i64)), .obj 2 (.arr 16 (.pair (.int .i64) (.int .i64))), .obj 3 (.arr 6 (.int .i64))])] (.blk (.seq .no (.seq (.seq (.join [(.normal, [.keep 1 1, .keep 2 2, .keep 3 3, .slot 4 false (.int .i64), .slot 5 false (.int .i64), .slot 6 false (.int .i64), .slot 18 true (.arr 6 (.int .i64)), .slot 19 false (.int .i64), .slot 28 false .bool, .obj 1 (.arr 6 (.int .i64)), .obj 2 (.arr 16 (.pair (.int .i64) (.int .i64))), .obj 3 (.arr 6 (.int .i64))])] .no) .no) (.seq .no (.seq .no (.seq .no (.blk (.loop [.keep 1 1, .keep 2 2, .keep 3 3, .slot 4 false (.int .i64), .slot 6 false (.int .i64), .slot 8 false (.int .i64), .slot 10 false (.int .i64), .slot 12 false (.int .i64), .slot 18 true (.arr 6 (.int .i64)), .slot 19 false (.int .i64), .obj 1 (.arr 6 (.int .i64)), .obj 2 (.arr 16 (.pair (.int .i64) (.int .i64))), .obj 3 (.arr 6 (.int .i64))] [(.exit 2, [.keep 1 1, .keep 2 2, .keep 3 3, .slot 4 false (.int .i64), .slot 18 true (.arr 6 (.int .i64)), .slot 19 false (.int .i64), .obj 1 (.arr 6 (.int .i64)), .obj 2 (.arr 16 (.pair (.int .i64) (.int .i64))), .obj 3 (.arr 6 (.int .i64))])] .no))))))))) .no)))))) (.seq (.draw [0, 1, 2, 3, 4, 5]) .no))))
theorem e24 (x : denL [(true, (.arr 6 (.int .i64)))]) : evalF tab s24 8 Try.f24 (Try.f24.body.getD .skip) n24 [(true, (.arr 6 (.int .i64)))] [(true, (.arr 16 (.pair (.int .i64) (.int .i64)))), (true, (.arr 6 (.int .i64))), (false, (.int .i64))] x = g_quant_scales x := by kernel_rfl
theorem c24 : Contract Try.prog 24 [(true, (.arr 6 (.int .i64)))] [(true, (.arr 16 (.pair (.int .i64) (.int .i64)))), (true, (.arr 6 (.int .i64))), (false, (.int .i64))] (fun x => g_quant_scales x) := evalF_contract tabOK mixed h24 Try.func24 (body := Try.f24.body.getD .skip) (by kernel_rfl) (by kernel_rfl) e24

noncomputable def s12 : List (Nat × Callee) := [(24, .sem [(true, (.arr 6 (.int .i64)))] [(true, (.arr 16 (.pair (.int .i64) (.int .i64)))), (true, (.arr 6 (.int .i64))), (false, (.int .i64))] fun x => g_quant_scales x)]
theorem h12 : HOK Try.prog (handler tab s12 8) := handler_sound tabOK mixed (callsOK_get (l := s12) ⟨c24, trivial⟩) 8
def n12 : Ann := (.seq .no (.seq .no (.seq .no (.seq (.seq .no (.blk (.loop [.keep 2 2, .keep 5 5, .slot 7 false (.int .i64), .keep 8 8, .slot 18 true (.arr 16 (.int .i64)), .slot 19 false (.int .i64), .obj 2 (.arr 16 (.int .i64)), .obj 5 (.arr 16 (.pair (.int .i64) (.int .i64))), .obj 8 (.arr 16 (.int .i64))] [(.exit 0, [.keep 2 2, .slot 7 false (.int .i64), .keep 8 8, .obj 2 (.arr 16 (.int .i64)), .obj 8 (.arr 16 (.int .i64))])] (.seq .no (.seq .no (.seq (.blk (.seq .no (.draw [0, 1, 2, 3, 4, 5, 6, 7, 8, 9, 10, 11, 12, 13, 14]))) .no)))))) .no))))
theorem e12 (x : denL [(true, (.arr 16 (.int .i64))), (true, (.arr 6 (.int .i64)))]) : evalF tab s12 8 Try.f12 (Try.f12.body.getD .skip) n12 [(true, (.arr 16 (.int .i64))), (true, (.arr 6 (.int .i64)))] [(false, .bool)] x = g_quant_May x.1 x.2 := by kernel_rfl
theorem c12 : Contract Try.prog 12 [(true, (.arr 16 (.int .i64))), (true, (.arr 6 (.int .i64)))] [(false, .bool)] (fun x => g_quant_May x.1 x.2) := evalF_contract tabOK mixed h12 Try.func12 (body := Try.f12.body.getD .skip) (by kernel_rfl) (by kernel_rfl) e12

noncomputable def s13 : List (Nat × Callee) := [(18, .sem [(true, (.arr 6 (.int .i64)))] [(false, (.int .i64))] fun x => g_bands_Check x)]
theorem h13 : HOK Try.prog (handler tab s13 8) := handler_sound tabOK mixed (callsOK_get (l := s13) ⟨c18, trivial⟩) 8
def n13 : Ann := (.seq .no (.seq (.seq (.join [(.normal, [.keep 2 2, .keep 3 3, .slot 14 false .bool, .obj 2 (.arr 6 (.int .i64)), .obj 3 (.arr 6 (.int .i64))])] .no) .no) (.seq (.seq .no (.blk (.loop [.keep 2 2, .keep 3 3, .slot 15 false (.int .i64), .obj 2 (.arr 6 (.int .i64)), .obj 3 (.arr 6 (.int .i64))] [(.exit 0, []), (.ret, [.slot 4 false .bool])] (.seq .no (.seq .no (.seq (.blk (.seq .no (.seq (.draw [0, 1, 2, 3, 4, 5, 6, 7]) (.seq (.join [(.normal, [.keep 2 2, .keep 3 3, .slot 15 false (.int .i64), .slot 30 false .bool, .obj 2 (.arr 6 (.int .i64)), .obj 3 (.arr 6 (.int .i64))])] .no) .no)))) .no)))))) .no)))
theorem e13 (x : denL [(true, (.arr 6 (.int .i64))), (true, (.arr 6 (.int .i64)))]) : evalF tab s13 8 Try.f13 (Try.f13.body.getD .skip) n13 [(true, (.arr 6 (.int .i64))), (true, (.arr 6 (.int .i64)))] [(false, .bool)] x = g_frame_Near x.1 x.2 := by kernel_rfl
theorem c13 : Contract Try.prog 13 [(true, (.arr 6 (.int .i64))), (true, (.arr 6 (.int .i64)))] [(false, .bool)] (fun x => g_frame_Near x.1 x.2) := evalF_contract tabOK mixed h13 Try.func13 (body := Try.f13.body.getD .skip) (by kernel_rfl) (by kernel_rfl) e13

noncomputable def s11 : List (Nat × Callee) := [(12, .sem [(true, (.arr 16 (.int .i64))), (true, (.arr 6 (.int .i64)))] [(false, .bool)] fun x => g_quant_May x.1 x.2),
  (13, .sem [(true, (.arr 6 (.int .i64))), (true, (.arr 6 (.int .i64)))] [(false, .bool)] fun x => g_frame_Near x.1 x.2),
  (18, .sem [(true, (.arr 6 (.int .i64)))] [(false, (.int .i64))] fun x => g_bands_Check x)]
theorem h11 : HOK Try.prog (handler tab s11 8) := handler_sound tabOK mixed (callsOK_get (l := s11) ⟨c12, c13, c18, trivial⟩) 8
def n11 : Ann := (.seq .no (.seq .no (.seq (.join [(.normal, [.keep 2 2, .keep 3 3, .keep 5 5, .slot 6 false .bool, .obj 2 (.pair (.int .i64) (.pair (.arr 6 (.int .i64)) (.arr 16 (.int .i64)))), .obj 3 (.arr 6 (.int .i64)), .obj 5 (.arr 16 (.int .i64))])] .no) (.seq (.join [(.normal, [.slot 6 false .bool])] .no) .no))))
theorem e11 (x : denL [(true, (.pair (.int .i64) (.pair (.arr 6 (.int .i64)) (.arr 16 (.int .i64))))), (true, (.arr 6 (.int .i64)))]) : evalF tab s11 8 Try.f11 (Try.f11.body.getD .skip) n11 [(true, (.pair (.int .i64) (.pair (.arr 6 (.int .i64)) (.arr 16 (.int .i64))))), (true, (.arr 6 (.int .i64)))] [(false, (.int .i64))] x = g_frame_Check x.1 x.2 := by kernel_rfl
theorem c11 : Contract Try.prog 11 [(true, (.pair (.int .i64) (.pair (.arr 6 (.int .i64)) (.arr 16 (.int .i64))))), (true, (.arr 6 (.int .i64)))] [(false, (.int .i64))] (fun x => g_frame_Check x.1 x.2) := evalF_contract tabOK mixed h11 Try.func11 (body := Try.f11.body.getD .skip) (by kernel_rfl) (by kernel_rfl) e11

noncomputable def s49 : List (Nat × Callee) := []
theorem h49 : HOK Try.prog (handler tab s49 8) := handler_sound tabOK mixed (callsOK_get (l := s49) trivial) 8
def n49 : Ann := .no
theorem e49 (x : denL [(true, (.sl (.int .i64)))]) : evalF tab s49 8 Try.f49 (Try.f49.body.getD .skip) n49 [(true, (.sl (.int .i64)))] [(false, (.int .i64))] x = g_freq_last x := by kernel_rfl
theorem c49 : Contract Try.prog 49 [(true, (.sl (.int .i64)))] [(false, (.int .i64))] (fun x => g_freq_last x) := evalF_contract tabOK mixed h49 Try.func49 (body := Try.f49.body.getD .skip) (by kernel_rfl) (by kernel_rfl) e49

noncomputable def s42 : List (Nat × Callee) := [(49, .sem [(true, (.sl (.int .i64)))] [(false, (.int .i64))] fun x => g_freq_last x)]
theorem h42 : HOK Try.prog (handler tab s42 8) := handler_sound tabOK mixed (callsOK_get (l := s42) ⟨c49, trivial⟩) 8
def n42 : Ann := (.seq .no (.seq .no (.seq .no (.seq (.seq .no (.blk (.loop [.slot 0 false (.sl (.int .i64)), .keep 2 2, .keep 4 4, .slot 16 false (.sl (.int .i64)), .slot 17 false (.int .i64), .slot 18 false (.int .i64), .obj 2 (.own (.int .i64)), .obj 4 (.own (.int .i64))] [(.exit 0, [.slot 0 false (.sl (.int .i64)), .keep 2 2, .keep 4 4, .obj 2 (.own (.int .i64)), .obj 4 (.own (.int .i64))]), (.ret, [.keep 2 2, .slot 3 false (.int .i64), .obj 2 (.own (.int .i64))])] (.seq .no (.seq .no (.seq (.blk (.seq .no (.seq (.seq (.join [(.normal, [.slot 0 false (.sl (.int .i64)), .keep 2 2, .keep 4 4, .slot 6 false (.int .i64), .slot 16 false (.sl (.int .i64)), .slot 17 false (.int .i64), .slot 18 false (.int .i64), .slot 30 false .bool, .obj 2 (.own (.int .i64)), .obj 4 (.own (.int .i64))])] .no) .no) (.draw [0, 1, 2, 3, 4, 5, 6, 7, 8, 9])))) .no)))))) .no))))
theorem e42 (x : denL [(false, (.sl (.int .i64)))]) : evalF tab s42 8 Try.f42 (Try.f42.body.getD .skip) n42 [(false, (.sl (.int .i64)))] [(true, (.sl (.int .i64))), (false, (.int .i64))] x = g_freq_New x := by kernel_rfl
theorem c42 : Contract Try.prog 42 [(false, (.sl (.int .i64)))] [(true, (.sl (.int .i64))), (false, (.int .i64))] (fun x => g_freq_New x) := evalF_contract tabOK mixed h42 Try.func42 (body := Try.f42.body.getD .skip) (by kernel_rfl) (by kernel_rfl) e42

noncomputable def s25 : List (Nat × Callee) := [(42, .sem [(false, (.sl (.int .i64)))] [(true, (.sl (.int .i64))), (false, (.int .i64))] fun x => g_freq_New x)]
theorem h25 : HOK Try.prog (handler tab s25 8) := handler_sound tabOK mixed (callsOK_get (l := s25) ⟨c42, trivial⟩) 8
def n25 : Ann := .no
theorem e25 (x : denL []) : evalF tab s25 8 Try.f25 (Try.f25.body.getD .skip) n25 [] [(true, (.sl (.int .i64)))] x = g_frame_kinds := by kernel_rfl
theorem c25 : Contract Try.prog 25 [] [(true, (.sl (.int .i64)))] (fun x => g_frame_kinds) := evalF_contract tabOK mixed h25 Try.func25 (body := Try.f25.body.getD .skip) (by kernel_rfl) (by kernel_rfl) e25

noncomputable def s74 : List (Nat × Callee) := []
theorem h74 : HOK Try.prog (handler tab s74 8) := handler_sound tabOK mixed (callsOK_get (l := s74) trivial) 8
def n74 : Ann := .no
theorem e74 (x : denL [(false, (.int .u64)), (false, (.int .u64))]) : evalF tab s74 8 Try.f74 (Try.f74.body.getD .skip) n74 [(false, (.int .u64)), (false, (.int .u64))] [(false, (.int .u64)), (false, (.int .u64))] x = g_math_bits_Mul64 x.1 x.2 := by kernel_rfl
theorem c74 : Contract Try.prog 74 [(false, (.int .u64)), (false, (.int .u64))] [(false, (.int .u64)), (false, (.int .u64))] (fun x => g_math_bits_Mul64 x.1 x.2) := evalF_contract tabOK mixed h74 Try.func74 (body := Try.f74.body.getD .skip) (by kernel_rfl) (by kernel_rfl) e74

noncomputable def s73 : List (Nat × Callee) := []
theorem h73 : HOK Try.prog (handler tab s73 8) := handler_sound tabOK mixed (callsOK_get (l := s73) trivial) 8
def n73 : Ann := .no
theorem e73 (x : denL [(false, (.int .u32)), (false, (.int .u32))]) : evalF tab s73 8 Try.f73 (Try.f73.body.getD .skip) n73 [(false, (.int .u32)), (false, (.int .u32))] [(false, (.int .u32)), (false, (.int .u32))] x = g_math_bits_Mul32 x.1 x.2 := by kernel_rfl
theorem c73 : Contract Try.prog 73 [(false, (.int .u32)), (false, (.int .u32))] [(false, (.int .u32)), (false, (.int .u32))] (fun x => g_math_bits_Mul32 x.1 x.2) := evalF_contract tabOK mixed h73 Try.func73 (body := Try.f73.body.getD .skip) (by kernel_rfl) (by kernel_rfl) e73

noncomputable def s69 : List (Nat × Callee) := [(73, .sem [(false, (.int .u32)), (false, (.int .u32))] [(false, (.int .u32)), (false, (.int .u32))] fun x => g_math_bits_Mul32 x.1 x.2),
  (74, .sem [(false, (.int .u64)), (false, (.int .u64))] [(false, (.int .u64)), (false, (.int .u64))] fun x => g_math_bits_Mul64 x.1 x.2)]
theorem h69 : HOK Try.prog (handler tab s69 8) := handler_sound tabOK mixed (callsOK_get (l := s69) ⟨c73, c74, trivial⟩) 8
def n69 : Ann := .no
theorem e69 (x : denL [(false, (.int .u64)), (false, (.int .u64))]) : evalF tab s69 8 Try.f69 (Try.f69.body.getD .skip) n69 [(false, (.int .u64)), (false, (.int .u64))] [(false, (.int .u64)), (false, (.int .u64))] x = g_math_bits_Mul x.1 x.2 := by kernel_rfl
theorem c69 : Contract Try.prog 69 [(false, (.int .u64)), (false, (.int .u64))] [(false, (.int .u64)), (false, (.int .u64))] (fun x => g_math_bits_Mul x.1 x.2) := evalF_contract tabOK mixed h69 Try.func69 (body := Try.f69.body.getD .skip) (by kernel_rfl) (by kernel_rfl) e69

noncomputable def s64 : List (Nat × Callee) := [(69, .sem [(false, (.int .u64)), (false, (.int .u64))] [(false, (.int .u64)), (false, (.int .u64))] fun x => g_math_bits_Mul x.1 x.2)]
theorem h64 : HOK Try.prog (handler tab s64 8) := handler_sound tabOK mixed (callsOK_get (l := s64) ⟨c69, trivial⟩) 8
def n64 : Ann := (.seq .no (.seq .no (.seq .no (.seq (.seq (.join [(.normal, [.slot 0 false (.sl (.int .i64)), .slot 6 false (.int .u64), .slot 26 false .bool])] .no) .no) (.seq .no (.seq .no (.seq (.blk (.loop [.slot 7 false (.own (.int .i64)), .slot 8 false (.int .i64)] [(.exit 0, [.slot 7 false (.own (.int .i64))])] (.seq .no (.blk (.draw [0, 1, 2, 3, 4, 5, 6, 7, 8, 9]))))) .no)))))))
theorem e64 (x : denL [(false, (.sl (.int .i64))), (false, (.int .i64))]) : evalF tab s64 8 Try.f64 (Try.f64.body.getD .skip) n64 [(false, (.sl (.int .i64))), (false, (.int .i64))] [(false, (.sl (.int .i64)))] x = g_slices_Repeat_Sint_int x.1 x.2 := by kernel_rfl
theorem c64 : Contract Try.prog 64 [(false, (.sl (.int .i64))), (false, (.int .i64))] [(false, (.sl (.int .i64)))] (fun x => g_slices_Repeat_Sint_int x.1 x.2) := evalF_contract tabOK mixed h64 Try.func64 (body := Try.f64.body.getD .skip) (by kernel_rfl) (by kernel_rfl) e64

noncomputable def s50 : List (Nat × Callee) := [(42, .sem [(false, (.sl (.int .i64)))] [(true, (.sl (.int .i64))), (false, (.int .i64))] fun x => g_freq_New x),
  (64, .sem [(false, (.sl (.int .i64))), (false, (.int .i64))] [(false, (.sl (.int .i64)))] fun x => g_slices_Repeat_Sint_int x.1 x.2)]
theorem h50 : HOK Try.prog (handler tab s50 8) := handler_sound tabOK mixed (callsOK_get (l := s50) ⟨c42, c64, trivial⟩) 8
def n50 : Ann := (.seq .no (.seq (.seq (.join [(.normal, [.slot 0 false (.int .i64), .keep 2 2, .slot 9 false .bool, .obj 2 (.own (.int .i64))])] .no) .no) .no))
theorem e50 (x : denL [(false, (.int .i64))]) : evalF tab s50 8 Try.f50 (Try.f50.body.getD .skip) n50 [(false, (.int .i64))] [(true, (.sl (.int .i64))), (false, (.int .i64))] x = g_freq_Even x := by kernel_rfl
theorem c50 : Contract Try.prog 50 [(false, (.int .i64))] [(true, (.sl (.int .i64))), (false, (.int .i64))] (fun x => g_freq_Even x) := evalF_contract tabOK mixed h50 Try.func50 (body := Try.f50.body.getD .skip) (by kernel_rfl) (by kernel_rfl) e50

noncomputable def s30 : List (Nat × Callee) := [(50, .sem [(false, (.int .i64))] [(true, (.sl (.int .i64))), (false, (.int .i64))] fun x => g_freq_Even x)]
theorem h30 : HOK Try.prog (handler tab s30 8) := handler_sound tabOK mixed (callsOK_get (l := s30) ⟨c50, trivial⟩) 8
def n30 : Ann := .no
theorem e30 (x : denL []) : evalF tab s30 8 Try.f30 (Try.f30.body.getD .skip) n30 [] [(true, (.sl (.int .i64)))] x = g_frame_levels := by kernel_rfl
theorem c30 : Contract Try.prog 30 [] [(true, (.sl (.int .i64)))] (fun x => g_frame_levels) := evalF_contract tabOK mixed h30 Try.func30 (body := Try.f30.body.getD .skip) (by kernel_rfl) (by kernel_rfl) e30

noncomputable def s31 : List (Nat × Callee) := [(42, .sem [(false, (.sl (.int .i64)))] [(true, (.sl (.int .i64))), (false, (.int .i64))] fun x => g_freq_New x)]
theorem h31 : HOK Try.prog (handler tab s31 8) := handler_sound tabOK mixed (callsOK_get (l := s31) ⟨c42, trivial⟩) 8
def n31 : Ann := .no
theorem e31 (x : denL []) : evalF tab s31 8 Try.f31 (Try.f31.body.getD .skip) n31 [] [(true, (.sl (.int .i64)))] x = g_frame_changes := by kernel_rfl
theorem c31 : Contract Try.prog 31 [] [(true, (.sl (.int .i64)))] (fun x => g_frame_changes) := evalF_contract tabOK mixed h31 Try.func31 (body := Try.f31.body.getD .skip) (by kernel_rfl) (by kernel_rfl) e31

noncomputable def s33 : List (Nat × Callee) := [(54, .sem [] [(true, (.arr 7 (.int .i64)))] fun x => g_bands_edges)]
theorem h33 : HOK Try.prog (handler tab s33 8) := handler_sound tabOK mixed (callsOK_get (l := s33) ⟨c54, trivial⟩) 8
def n33 : Ann := (.seq .no (.seq (.seq (.join [(.normal, [.slot 0 false (.int .i64), .slot 11 false .bool])] .no) .no) (.seq .no (.seq .no (.seq (.blk (.loop [.slot 0 false (.int .i64), .keep 4 4, .slot 5 false (.int .i64), .obj 4 (.arr 7 (.int .i64))] [(.exit 0, [.slot 5 false (.int .i64)])] .no)) .no)))))
theorem e33 (x : denL [(false, (.int .i64))]) : evalF tab s33 8 Try.f33 (Try.f33.body.getD .skip) n33 [(false, (.int .i64))] [(false, (.int .i64)), (false, (.int .i64))] x = g_bands_Of x := by kernel_rfl
theorem c33 : Contract Try.prog 33 [(false, (.int .i64))] [(false, (.int .i64)), (false, (.int .i64))] (fun x => g_bands_Of x) := evalF_contract tabOK mixed h33 Try.func33 (body := Try.f33.body.getD .skip) (by kernel_rfl) (by kernel_rfl) e33

noncomputable def s35 : List (Nat × Callee) := [(42, .sem [(false, (.sl (.int .i64)))] [(true, (.sl (.int .i64))), (false, (.int .i64))] fun x => g_freq_New x)]
theorem h35 : HOK Try.prog (handler tab s35 8) := handler_sound tabOK mixed (callsOK_get (l := s35) ⟨c42, trivial⟩) 8
def n35 : Ann := (.seq .no (.seq .no (.seq (.seq .no (.blk (.loop [.slot 0 false (.int .i64), .keep 2 2, .slot 3 false (.own (.int .i64)), .slot 12 false (.int .i64), .slot 13 false (.int .i64), .obj 2 (.own (.int .i64))] [(.exit 0, [.keep 2 2, .slot 3 false (.own (.int .i64)), .obj 2 (.own (.int .i64))])] .no))) .no)))
theorem e35 (x : denL [(false, (.int .i64))]) : evalF tab s35 8 Try.f35 (Try.f35.body.getD .skip) n35 [(false, (.int .i64))] [(true, (.sl (.int .i64)))] x = g_frame_smalls x := by kernel_rfl
theorem c35 : Contract Try.prog 35 [(false, (.int .i64))] [(true, (.sl (.int .i64)))] (fun x => g_frame_smalls x) := evalF_contract tabOK mixed h35 Try.func35 (body := Try.f35.body.getD .skip) (by kernel_rfl) (by kernel_rfl) e35

def n19_23 : Ann := (.seq .no (.seq (.seq (.draw [0, 1, 2, 3, 4, 5, 6]) .no) (.seq .no (.seq .no (.seq (.join [(.normal, [.keep 0 0, .slot 1 true (.arr 6 (.int .i64)), .keep 2 2, .keep 7 7, .keep 8 8, .keep 20 20, .keep 21 21, .keep 22 22, .obj 22 (.pair (.int .i64) (.pair (.arr 6 (.int .i64)) (.arr 16 (.int .i64)))), .obj 7 (.sl (.int .i64)), .obj 8 (.arr 6 (.int .i64)), .obj 1002 (.own (.int .i64)), .obj 2002 (.own (.sl (.int .i64)))])] (.seq .no (.cond (.seq (.draw [0, 1, 2, 3]) (.seq .no (.blk (.loop [.keep 0 0, .slot 1 true (.arr 6 (.int .i64)), .keep 2 2, .keep 7 7, .keep 8 8, .keep 20 20, .keep 21 21, .keep 22 22, .keep 27 27, .keep 28 28, .keep 29 29, .slot 34 false (.int .i64), .obj 29 (.pair (.int .i64) (.pair (.arr 6 (.int .i64)) (.arr 16 (.int .i64)))), .obj 7 (.sl (.int .i64)), .obj 8 (.arr 6 (.int .i64)), .obj 1002 (.own (.int .i64)), .obj 2002 (.own (.sl (.int .i64)))] [(.exit 0, [.keep 0 0, .slot 1 true (.arr 6 (.int .i64)), .keep 2 2, .keep 7 7, .keep 8 8, .keep 20 20, .keep 21 21, .keep 22 22, .keep 27 27, .keep 28 28, .keep 29 29, .obj 29 (.pair (.int .i64) (.pair (.arr 6 (.int .i64)) (.arr 16 (.int .i64)))), .obj 7 (.sl (.int .i64)), .obj 8 (.arr 6 (.int .i64)), .obj 1002 (.own (.int .i64)), .obj 2002 (.own (.sl (.int .i64)))])] .no)))) .no))) (.seq (.seq .no (.blk (.loop [.keep 0 0, .slot 1 true (.arr 6 (.int .i64)), .keep 2 2, .keep 7 7, .keep 8 8, .keep 20 20, .keep 21 21, .keep 22 22, .slot 43 false (.int .i64), .obj 22 (.pair (.int .i64) (.pair (.arr 6 (.int .i64)) (.arr 16 (.int .i64)))), .obj 7 (.sl (.int .i64)), .obj 8 (.arr 6 (.int .i64)), .obj 1002 (.own (.int .i64)), .obj 2002 (.own (.sl (.int .i64)))] [(.exit 2, [.keep 0 0, .slot 1 true (.arr 6 (.int .i64)), .keep 2 2, .keep 20 20, .keep 21 21, .keep 22 22, .obj 22 (.pair (.int .i64) (.pair (.arr 6 (.int .i64)) (.arr 16 (.int .i64)))), .obj 1002 (.own (.int .i64)), .obj 2002 (.own (.sl (.int .i64)))])] (.seq .no (.seq .no (.seq (.blk (.seq .no (.seq (.draw [0, 1, 2, 3, 4, 5, 6, 7, 8, 9, 10, 11]) (.seq .no (.draw [0, 1, 2, 3, 4, 5, 6, 7, 8, 9, 10]))))) .no)))))) (.seq .no (.seq .no (.seq .no (.seq (.seq .no (.blk (.loop [.keep 0 0, .slot 1 true (.arr 6 (.int .i64)), .keep 2 2, .keep 12 12, .keep 20 20, .keep 21 21, .keep 22 22, .keep 71 71, .keep 72 72, .keep 73 73, .keep 77 77, .keep 78 78, .keep 79 79, .slot 86 false (.int .i64), .obj 78 (.pair (.int .i64) (.pair (.arr 6 (.int .i64)) (.arr 16 (.int .i64)))), .obj 12 (.arr 6 (.int .i64)), .obj 1002 (.own (.int .i64)), .obj 2002 (.own (.sl (.int .i64)))] [(.exit 4, [.keep 0 0, .slot 1 true (.arr 6 (.int .i64)), .keep 2 2, .keep 20 20, .keep 21 21, .keep 22 22, .keep 71 71, .keep 72 72, .keep 73 73, .keep 77 77, .keep 78 78, .keep 79 79, .obj 78 (.pair (.int .i64) (.pair (.arr 6 (.int .i64)) (.arr 16 (.int .i64)))), .obj 1002 (.own (.int .i64)), .obj 2002 (.own (.sl (.int .i64)))])] (.seq .no (.seq .no (.seq (.join [(.normal, [.keep 0 0, .slot 1 true (.arr 6 (.int .i64)), .keep 2 2, .keep 12 12, .keep 20 20, .keep 21 21, .keep 22 22, .keep 71 71, .keep 72 72, .keep 73 73, .keep 77 77, .keep 78 78, .keep 79 79, .slot 86 false (.int .i64), .obj 78 (.pair (.int .i64) (.pair (.arr 6 (.int .i64)) (.arr 16 (.int .i64)))), .obj 12 (.arr 6 (.int .i64)), .obj 1002 (.own (.int .i64)), .obj 2002 (.own (.sl (.int .i64)))])] (.blk (.seq .no (.seq .no (.seq .no (.seq .no (.seq .no (.seq .no (.draw [0, 1, 2, 3, 4, 5, 6, 7, 8]))))))))) .no)))))) .no))))))))))
def n39_23 : Ann := (.seq .no (.seq (.draw [0, 1, 2, 3, 4, 5, 6, 7, 8, 9, 10, 11]) .no))
noncomputable def s23 : List (Nat × Callee) := [(19, .inl Try.f19 (Try.f19.body.getD .skip) n19_23),
  (25, .sem [] [(true, (.sl (.int .i64)))] fun x => g_frame_kinds),
  (30, .sem [] [(true, (.sl (.int .i64)))] fun x => g_frame_levels),
  (31, .sem [] [(true, (.sl (.int .i64)))] fun x => g_frame_changes),
  (32, .sem [(true, (.arr 6 (.int .i64))), (false, (.int .i64))] [(true, (.arr 6 (.int .i64))), (false, (.int .i64))] fun x => g_bands_Share x.1 x.2),
  (33, .sem [(false, (.int .i64))] [(false, (.int .i64)), (false, (.int .i64))] fun x => g_bands_Of x),
  (34, .sem [(false, (.int .i64))] [(false, (.int .i64))] fun x => g_quant_Most x),
  (35, .sem [(false, (.int .i64))] [(true, (.sl (.int .i64)))] fun x => g_frame_smalls x),
  (39, .inl Try.f39 (Try.f39.body.getD .skip) n39_23)]
theorem h23 : HOK Try.prog (handler tab s23 8) := handler_sound tabOK mixed (callsOK_get (l := s23) ⟨⟨Try.func19, by kernel_rfl, by kernel_rfl⟩, c25, c30, c31, c32, c33, c34, c35, ⟨Try.func39, by kernel_rfl, by kernel_rfl⟩, trivial⟩) 8
def n23 : Ann := (.seq .no (.seq (.join [(.normal, [.keep 4 4, .keep 5 5, .obj 4 (.own (.int .i64)), .obj 5 (.own (.sl (.int .i64)))])] .no) (.seq (.draw [0, 1, 2, 3]) .no)))
theorem e23 (x : denL [(true, (.pair (.int .i64) (.pair (.arr 6 (.int .i64)) (.arr 16 (.int .i64))))), (true, (.arr 6 (.int .i64)))]) : evalF tab s23 8 Try.f23 (Try.f23.body.getD .skip) n23 [(true, (.pair (.int .i64) (.pair (.arr 6 (.int .i64)) (.arr 16 (.int .i64))))), (true, (.arr 6 (.int .i64)))] [(false, (.sl (.int .i64))), (false, (.sl (.sl (.int .i64))))] x = g_frame_symbols x.1 x.2 := by kernel_rfl
theorem c23 : Contract Try.prog 23 [(true, (.pair (.int .i64) (.pair (.arr 6 (.int .i64)) (.arr 16 (.int .i64))))), (true, (.arr 6 (.int .i64)))] [(false, (.sl (.int .i64))), (false, (.sl (.sl (.int .i64))))] (fun x => g_frame_symbols x.1 x.2) := evalF_contract tabOK mixed h23 Try.func23 (body := Try.f23.body.getD .skip) (by kernel_rfl) (by kernel_rfl) e23

noncomputable def s26 : List (Nat × Callee) := []
theorem h26 : HOK Try.prog (handler tab s26 8) := handler_sound tabOK mixed (callsOK_get (l := s26) trivial) 8
def n26 : Ann := .no
theorem e26 (x : denL []) : evalF tab s26 8 Try.f26 (Try.f26.body.getD .skip) n26 [] [(true, (.pair (.int .u32) (.pair (.int .u32) (.pair (.int .i64) (.pair (.sl (.int .u8)) (.int .i64))))))] x = g_coder_Begin := by kernel_rfl
theorem c26 : Contract Try.prog 26 [] [(true, (.pair (.int .u32) (.pair (.int .u32) (.pair (.int .i64) (.pair (.sl (.int .u8)) (.int .i64))))))] (fun x => g_coder_Begin) := evalF_contract tabOK mixed h26 Try.func26 (body := Try.f26.body.getD .skip) (by kernel_rfl) (by kernel_rfl) e26

noncomputable def s60 : List (Nat × Callee) := []
theorem h60 : HOK Try.prog (handler tab s60 8) := handler_sound tabOK mixed (callsOK_get (l := s60) trivial) 8
def n60 : Ann := (.seq .no (.seq (.blk (.seq .no (.cond .no (.seq .no (.cond .no (.seq (.join [(.normal, [.slot 12 false .bool])] .no) .no)))))) .no))
theorem e60 (x : denL [(true, (.pair (.int .u64) (.int .u64)))]) : evalF tab s60 8 Try.f60 (Try.f60.body.getD .skip) n60 [(true, (.pair (.int .u64) (.int .u64)))] [(false, (.int .u64)), (false, (.int .i64))] x = g_coder_interval_move x := by kernel_rfl
theorem c60 : Contract Try.prog 60 [(true, (.pair (.int .u64) (.int .u64)))] [(false, (.int .u64)), (false, (.int .i64))] (fun x => g_coder_interval_move x) := evalF_contract tabOK mixed h60 Try.func60 (body := Try.f60.body.getD .skip) (by kernel_rfl) (by kernel_rfl) e60

noncomputable def s58 : List (Nat × Callee) := [(60, .sem [(true, (.pair (.int .u64) (.int .u64)))] [(false, (.int .u64)), (false, (.int .i64))] fun x => g_coder_interval_move x)]
theorem h58 : HOK Try.prog (handler tab s58 8) := handler_sound tabOK mixed (callsOK_get (l := s58) ⟨c60, trivial⟩) 8
def n58 : Ann := .no
theorem e58 (x : denL [(true, (.pair (.int .u64) (.int .u64)))]) : evalF tab s58 8 Try.f58 (Try.f58.body.getD .skip) n58 [(true, (.pair (.int .u64) (.int .u64)))] [(false, .bool)] x = g_coder_interval_good x := by kernel_rfl
theorem c58 : Contract Try.prog 58 [(true, (.pair (.int .u64) (.int .u64)))] [(false, .bool)] (fun x => g_coder_interval_good x) := evalF_contract tabOK mixed h58 Try.func58 (body := Try.f58.body.getD .skip) (by kernel_rfl) (by kernel_rfl) e58

noncomputable def s55 : List (Nat × Callee) := []
theorem h55 : HOK Try.prog (handler tab s55 8) := handler_sound tabOK mixed (callsOK_get (l := s55) trivial) 8
def n55 : Ann := (.seq .no (.seq (.seq (.join [(.normal, [.keep 1 1, .slot 21 false .bool, .obj 1 (.pair (.sl (.int .u8)) (.int .i64))])] .no) .no) (.seq (.seq .no (.seq (.join [(.normal, [.slot 39 false .bool])] .no) .no)) .no)))
theorem e55 (x : denL [(true, (.pair (.sl (.int .u8)) (.int .i64)))]) : evalF tab s55 8 Try.f55 (Try.f55.body.getD .skip) n55 [(true, (.pair (.sl (.int .u8)) (.int .i64)))] [(false, (.int .i64))] x = g_bits_Check x := by kernel_rfl
theorem c55 : Contract Try.prog 55 [(true, (.pair (.sl (.int .u8)) (.int .i64)))] [(false, (.int .i64))] (fun x => g_bits_Check x) := evalF_contract tabOK mixed h55 Try.func55 (body := Try.f55.body.getD .skip) (by kernel_rfl) (by kernel_rfl) e55

noncomputable def s29 : List (Nat × Callee) := [(49, .sem [(true, (.sl (.int .i64)))] [(false, (.int .i64))] fun x => g_freq_last x)]
theorem h29 : HOK Try.prog (handler tab s29 8) := handler_sound tabOK mixed (callsOK_get (l := s29) ⟨c49, trivial⟩) 8
def n29 : Ann := (.seq .no (.seq (.seq (.join [(.normal, [.keep 1 1, .slot 26 false .bool, .obj 1 (.sl (.int .i64))])] .no) .no) (.seq (.seq .no (.blk (.loop [.keep 1 1, .keep 27 27, .slot 29 false (.sl (.int .i64)), .slot 30 false (.int .i64), .slot 31 false (.int .i64), .obj 27 (.sl (.int .i64))] [(.exit 0, []), (.ret, [.slot 2 false (.int .i64)])] .no))) .no)))
theorem e29 (x : denL [(true, (.sl (.int .i64)))]) : evalF tab s29 8 Try.f29 (Try.f29.body.getD .skip) n29 [(true, (.sl (.int .i64)))] [(false, (.int .i64))] x = g_freq_Check x := by kernel_rfl
theorem c29 : Contract Try.prog 29 [(true, (.sl (.int .i64)))] [(false, (.int .i64))] (fun x => g_freq_Check x) := evalF_contract tabOK mixed h29 Try.func29 (body := Try.f29.body.getD .skip) (by kernel_rfl) (by kernel_rfl) e29

noncomputable def s17 : List (Nat × Callee) := [(29, .sem [(true, (.sl (.int .i64)))] [(false, (.int .i64))] fun x => g_freq_Check x)]
theorem h17 : HOK Try.prog (handler tab s17 8) := handler_sound tabOK mixed (callsOK_get (l := s17) ⟨c29, trivial⟩) 8
def n17 : Ann := (.seq .no (.seq (.seq (.join [(.normal, [.slot 1 false (.int .i64), .keep 2 2, .slot 21 false .bool, .obj 2 (.sl (.int .i64))])] .no) .no) (.seq (.draw [0, 1, 2, 3, 4, 5, 6, 7, 8, 9, 10, 11, 12, 13]) .no)))
theorem e17 (x : denL [(true, (.sl (.int .i64))), (false, (.int .i64))]) : evalF tab s17 8 Try.f17 (Try.f17.body.getD .skip) n17 [(true, (.sl (.int .i64))), (false, (.int .i64))] [(false, (.int .i64)), (false, (.int .i64)), (false, (.int .i64))] x = g_freq_Span x.1 x.2 := by kernel_rfl
theorem c17 : Contract Try.prog 17 [(true, (.sl (.int .i64))), (false, (.int .i64))] [(false, (.int .i64)), (false, (.int .i64)), (false, (.int .i64))] (fun x => g_freq_Span x.1 x.2) := evalF_contract tabOK mixed h17 Try.func17 (body := Try.f17.body.getD .skip) (by kernel_rfl) (by kernel_rfl) e17

noncomputable def s45 : List (Nat × Callee) := [(29, .sem [(true, (.sl (.int .i64)))] [(false, (.int .i64))] fun x => g_freq_Check x),
  (49, .sem [(true, (.sl (.int .i64)))] [(false, (.int .i64))] fun x => g_freq_last x)]
theorem h45 : HOK Try.prog (handler tab s45 8) := handler_sound tabOK mixed (callsOK_get (l := s45) ⟨c29, c49, trivial⟩) 8
def n45 : Ann := .no
theorem e45 (x : denL [(true, (.sl (.int .i64)))]) : evalF tab s45 8 Try.f45 (Try.f45.body.getD .skip) n45 [(true, (.sl (.int .i64)))] [(false, (.int .i64))] x = g_freq_Total x := by kernel_rfl
theorem c45 : Contract Try.prog 45 [(true, (.sl (.int .i64)))] [(false, (.int .i64))] (fun x => g_freq_Total x) := evalF_contract tabOK mixed h45 Try.func45 (body := Try.f45.body.getD .skip) (by kernel_rfl) (by kernel_rfl) e45

noncomputable def s72 : List (Nat × Callee) := []
theorem h72 : HOK Try.prog (handler tab s72 8) := handler_sound tabOK mixed (callsOK_get (l := s72) trivial) 8
def n72 : Ann := (.seq .no (.seq (.join [(.normal, [.slot 0 false (.int .u64), .slot 2 false (.int .i64)])] .no) (.seq (.join [(.normal, [.slot 0 false (.int .u64), .slot 2 false (.int .i64)])] .no) (.seq (.join [(.normal, [.slot 0 false (.int .u64), .slot 2 false (.int .i64)])] .no) .no))))
theorem e72 (x : denL [(false, (.int .u64))]) : evalF tab s72 8 Try.f72 (Try.f72.body.getD .skip) n72 [(false, (.int .u64))] [(false, (.int .i64))] x = g_math_bits_Len64 x := by kernel_rfl
theorem c72 : Contract Try.prog 72 [(false, (.int .u64))] [(false, (.int .i64))] (fun x => g_math_bits_Len64 x) := evalF_contract tabOK mixed h72 Try.func72 (body := Try.f72.body.getD .skip) (by kernel_rfl) (by kernel_rfl) e72

noncomputable def s67 : List (Nat × Callee) := [(72, .sem [(false, (.int .u64))] [(false, (.int .i64))] fun x => g_math_bits_Len64 x)]
theorem h67 : HOK Try.prog (handler tab s67 8) := handler_sound tabOK mixed (callsOK_get (l := s67) ⟨c72, trivial⟩) 8
def n67 : Ann := .no
theorem e67 (x : denL [(false, (.int .u64)), (false, (.int .i64))]) : evalF tab s67 8 Try.f67 (Try.f67.body.getD .skip) n67 [(false, (.int .u64)), (false, (.int .i64))] [(false, .bool)] x = g_bits_fits x.1 x.2 := by kernel_rfl
theorem c67 : Contract Try.prog 67 [(false, (.int .u64)), (false, (.int .i64))] [(false, .bool)] (fun x => g_bits_fits x.1 x.2) := evalF_contract tabOK mixed h67 Try.func67 (body := Try.f67.body.getD .skip) (by kernel_rfl) (by kernel_rfl) e67

noncomputable def s57 : List (Nat × Callee) := []
theorem h57 : HOK Try.prog (handler tab s57 8) := handler_sound tabOK mixed (callsOK_get (l := s57) trivial) 8
def n57 : Ann := .no
theorem e57n : evalA tab s57 8 Try.f57 (Try.f57.body.getD .skip) n57 [.nilsl] [(false, (.own (.int .u8)))] = g_slices_Clone_Sbyte_byte [] := by kernel_rfl
theorem e57v (l : List Int) : evalA tab s57 8 Try.f57 (Try.f57.body.getD .skip) n57 [.slv (.int .u8) l] [(false, (.own (.int .u8)))] = g_slices_Clone_Sbyte_byte l := by kernel_rfl
theorem c57 : Contract Try.prog 57 [(false, (.sl (.int .u8)))] [(false, (.own (.int .u8)))] g_slices_Clone_Sbyte_byte := evalA_contract tabOK mixed h57 Try.func57 (body := Try.f57.body.getD .skip) (by kernel_rfl) (by kernel_rfl) rfl e57n e57v

noncomputable def s68 : List (Nat × Callee) := []
theorem h68 : HOK Try.prog (handler tab s68 8) := handler_sound tabOK mixed (callsOK_get (l := s68) trivial) 8
def n68 : Ann := (.seq .no (.seq (.blk (.loop [.slot 1 false (.int .u64), .slot 2 false (.int .i64), .keep 3 3, .keep 6 6, .obj 3 (.pair (.own (.int .u8)) (.int .i64)), .obj 6 (.pair (.own (.int .u8)) (.int .i64))] [(.exit 0, [.keep 3 3, .keep 6 6, .obj 3 (.pair (.own (.int .u8)) (.int .i64)), .obj 6 (.pair (.own (.int .u8)) (.int .i64))])] (.seq .no (.blk (.seq .no (.seq (.join [(.normal, [.slot 1 false (.int .u64), .slot 2 false (.int .i64), .keep 3 3, .keep 6 6, .slot 7 false (.int .i64), .keep 12 12, .obj 3 (.pair (.own (.int .u8)) (.int .i64)), .obj 6 (.pair (.own (.int .u8)) (.int .i64))])] .no) (.seq .no (.seq (.draw [0, 1, 2, 3, 4, 5, 6, 7, 8, 9, 10]) (.seq (.draw [0, 1, 2, 3, 4, 5, 6, 7, 8, 9, 10, 11, 12, 13, 14, 15]) .no))))))))) .no))
theorem e68 (x : denL [(true, (.pair (.own (.int .u8)) (.int .i64))), (false, (.int .u64)), (false, (.int .i64))]) : evalF tab s68 8 Try.f68 (Try.f68.body.getD .skip) n68 [(true, (.pair (.own (.int .u8)) (.int .i64))), (false, (.int .u64)), (false, (.int .i64))] [(true, (.pair (.own (.int .u8)) (.int .i64)))] x = g_bits_add x.1 x.2.1 x.2.2 := by kernel_rfl
theorem c68 : Contract Try.prog 68 [(true, (.pair (.own (.int .u8)) (.int .i64))), (false, (.int .u64)), (false, (.int .i64))] [(true, (.pair (.own (.int .u8)) (.int .i64)))] (fun x => g_bits_add x.1 x.2.1 x.2.2) := evalF_contract tabOK mixed h68 Try.func68 (body := Try.f68.body.getD .skip) (by kernel_rfl) (by kernel_rfl) e68

noncomputable def s63 : List (Nat × Callee) := [(55, .sem [(true, (.pair (.sl (.int .u8)) (.int .i64)))] [(false, (.int .i64))] fun x => g_bits_Check x),
  (57, .sem [(false, (.sl (.int .u8)))] [(false, (.own (.int .u8)))] fun x => g_slices_Clone_Sbyte_byte x),
  (67, .sem [(false, (.int .u64)), (false, (.int .i64))] [(false, .bool)] fun x => g_bits_fits x.1 x.2),
  (68, .sem [(true, (.pair (.own (.int .u8)) (.int .i64))), (false, (.int .u64)), (false, (.int .i64))] [(true, (.pair (.own (.int .u8)) (.int .i64)))] fun x => g_bits_add x.1 x.2.1 x.2.2)]
theorem h63 : HOK Try.prog (handler tab s63 8) := handler_sound tabOK mixed (callsOK_get (l := s63) ⟨c55, c57, c67, c68, trivial⟩) 8
def n63 : Ann := (.seq .no (.seq (.blk (.seq (.join [(.normal, [.slot 1 false (.int .u64), .slot 2 false (.int .i64), .keep 3 3, .keep 6 6, .slot 8 false .bool, .obj 3 (.pair (.sl (.int .u8)) (.int .i64)), .obj 6 (.pair (.own (.int .u8)) (.int .i64))])] .no) .no)) .no))
theorem e63 (x : denL [(true, (.pair (.sl (.int .u8)) (.int .i64))), (false, (.int .u64)), (false, (.int .i64))]) : evalF tab s63 8 Try.f63 (Try.f63.body.getD .skip) n63 [(true, (.pair (.sl (.int .u8)) (.int .i64))), (false, (.int .u64)), (false, (.int .i64))] [(true, (.pair (.own (.int .u8)) (.int .i64))), (false, (.int .i64))] x = g_bits_Put x.1 x.2.1 x.2.2 := by kernel_rfl
theorem c63 : Contract Try.prog 63 [(true, (.pair (.sl (.int .u8)) (.int .i64))), (false, (.int .u64)), (false, (.int .i64))] [(true, (.pair (.own (.int .u8)) (.int .i64))), (false, (.int .i64))] (fun x => g_bits_Put x.1 x.2.1 x.2.2) := evalF_contract tabOK mixed h63 Try.func63 (body := Try.f63.body.getD .skip) (by kernel_rfl) (by kernel_rfl) e63

noncomputable def s47 : List (Nat × Callee) := [(57, .sem [(false, (.sl (.int .u8)))] [(false, (.own (.int .u8)))] fun x => g_slices_Clone_Sbyte_byte x)]
theorem h47 : HOK Try.prog (handler tab s47 8) := handler_sound tabOK mixed (callsOK_get (l := s47) ⟨c57, trivial⟩) 8
def n47 : Ann := (.seq .no (.seq (.draw [0, 1, 2, 3, 4, 5, 6]) .no))
theorem e47 (x : denL [(true, (.pair (.sl (.int .u8)) (.int .i64)))]) : evalF tab s47 8 Try.f47 (Try.f47.body.getD .skip) n47 [(true, (.pair (.sl (.int .u8)) (.int .i64)))] [(true, (.pair (.own (.int .u8)) (.int .i64)))] x = g_coder_owned x := by kernel_rfl
theorem c47 : Contract Try.prog 47 [(true, (.pair (.sl (.int .u8)) (.int .i64)))] [(true, (.pair (.own (.int .u8)) (.int .i64)))] (fun x => g_coder_owned x) := evalF_contract tabOK mixed h47 Try.func47 (body := Try.f47.body.getD .skip) (by kernel_rfl) (by kernel_rfl) e47

def n43_27 : Ann := (.seq .no (.seq .no (.seq (.join [(.normal, [.slot 0 true (.pair (.int .u32) (.pair (.int .u32) (.pair (.int .i64) (.pair (.sl (.int .u8)) (.int .i64))))), .keep 2 4, .slot 3 false .bool, .keep 4 4, .keep 17 17, .obj 17 (.pair (.pair (.int .u64) (.int .u64)) (.pair (.int .i64) (.pair (.pair (.sl (.int .u8)) (.int .i64)) (.int .i64))))])] .no) .no)))
def n44_27 : Ann := (.seq (.draw [0, 1, 2, 3, 4, 5, 6, 7, 8, 9, 10]) (.seq (.draw [0, 1, 2, 3, 4, 5, 6, 7, 8, 9, 10, 11, 12, 13, 14, 15, 16]) (.draw [0, 1, 2, 3, 4, 5, 6, 7, 8, 9, 10, 11, 12, 13, 14])))
def n46_27 : Ann := (.blk (.loop [.keep 0 0, .obj 0 (.pair (.pair (.int .u64) (.int .u64)) (.pair (.int .i64) (.pair (.pair (.sl (.int .u8)) (.int .i64)) (.int .i64))))] [(.exit 0, [.keep 0 0, .obj 0 (.pair (.pair (.int .u64) (.int .u64)) (.pair (.int .i64) (.pair (.pair (.sl (.int .u8)) (.int .i64)) (.int .i64))))]), (.ret, [.keep 0 0, .obj 0 (.pair (.pair (.int .u64) (.int .u64)) (.pair (.int .i64) (.pair (.pair (.sl (.int .u8)) (.int .i64)) (.int .i64))))])] (.seq .no (.blk (.seq .no (.seq (.join [(.normal, [.keep 0 0, .slot 2 false (.int .u64), .keep 4 4, .keep 5 5, .keep 6 6, .keep 10 10, .keep 11 11, .keep 12 12, .obj 12 (.pair (.pair (.int .u64) (.int .u64)) (.pair (.int .i64) (.pair (.pair (.sl (.int .u8)) (.int .i64)) (.int .i64))))]), (.ret, [.keep 0 0, .keep 4 4, .keep 5 5, .keep 6 6, .keep 10 10, .keep 11 11, .keep 12 12, .obj 12 (.pair (.pair (.int .u64) (.int .u64)) (.pair (.int .i64) (.pair (.pair (.sl (.int .u8)) (.int .i64)) (.int .i64))))])] .no) .no))))))
def n48_27 : Ann := (.seq (.seq (.draw [0, 1, 2, 3, 4, 5, 6, 7, 8, 9, 10, 11]) .no) (.seq .no (.seq (.seq .no (.blk (.loop [.keep 0 0, .slot 1 false (.int .u64), .slot 4 false (.int .i64), .keep 6 6, .keep 7 7, .keep 8 8, .keep 11 11, .keep 12 12, .keep 13 13, .keep 14 14, .keep 22 22, .keep 23 23, .keep 24 24, .keep 25 25, .keep 26 26, .keep 32 32, .keep 33 33, .keep 34 34, .keep 35 35, .keep 36 36, .keep 37 37, .keep 38 38, .obj 37 (.pair (.pair (.int .u64) (.int .u64)) (.pair (.int .i64) (.pair (.pair (.own (.int .u8)) (.int .i64)) (.int .i64))))] [(.exit 0, [.keep 0 0, .slot 1 false (.int .u64), .keep 6 6, .keep 7 7, .keep 8 8, .keep 11 11, .keep 12 12, .keep 13 13, .keep 14 14, .keep 22 22, .keep 23 23, .keep 24 24, .keep 25 25, .keep 26 26, .keep 32 32, .keep 33 33, .keep 34 34, .keep 35 35, .keep 36 36, .keep 37 37, .keep 38 38, .obj 37 (.pair (.pair (.int .u64) (.int .u64)) (.pair (.int .i64) (.pair (.pair (.own (.int .u8)) (.int .i64)) (.int .i64))))])] (.seq (.seq (.join [(.normal, [.keep 0 0, .slot 1 false (.int .u64), .slot 4 false (.int .i64), .keep 6 6, .keep 7 7, .keep 8 8, .keep 11 11, .keep 12 12, .keep 13 13, .keep 14 14, .keep 22 22, .keep 23 23, .keep 24 24, .keep 25 25, .keep 26 26, .keep 32 32, .keep 33 33, .keep 34 34, .keep 35 35, .keep 36 36, .keep 37 37, .keep 38 38, .slot 48 false .bool, .obj 37 (.pair (.pair (.int .u64) (.int .u64)) (.pair (.int .i64) (.pair (.pair (.own (.int .u8)) (.int .i64)) (.int .i64))))])] .no) .no) (.seq (.blk (.seq .no (.draw [0, 1, 2, 3, 4, 5, 6, 7, 8, 9, 10, 11, 12, 13, 14, 15, 16, 17, 18, 19, 20, 21, 22]))) .no))))) .no)))
def n61_27 : Ann := (.draw [0, 1, 2, 3, 4, 5, 6, 7, 8, 9, 10, 11, 12, 13, 14, 15, 16, 17, 18, 19, 20, 21, 22])
noncomputable def s27 : List (Nat × Callee) := [(17, .sem [(true, (.sl (.int .i64))), (false, (.int .i64))] [(false, (.int .i64)), (false, (.int .i64)), (false, (.int .i64))] fun x => g_freq_Span x.1 x.2),
  (43, .inl Try.f43 (Try.f43.body.getD .skip) n43_27),
  (44, .inl Try.f44 (Try.f44.body.getD .skip) n44_27),
  (45, .sem [(true, (.sl (.int .i64)))] [(false, (.int .i64))] fun x => g_freq_Total x),
  (46, .inl Try.f46 (Try.f46.body.getD .skip) n46_27),
  (47, .sem [(true, (.pair (.sl (.int .u8)) (.int .i64)))] [(true, (.pair (.own (.int .u8)) (.int .i64)))] fun x => g_coder_owned x),
  (48, .inl Try.f48 (Try.f48.body.getD .skip) n48_27),
  (55, .sem [(true, (.pair (.sl (.int .u8)) (.int .i64)))] [(false, (.int .i64))] fun x => g_bits_Check x),
  (58, .sem [(true, (.pair (.int .u64) (.int .u64)))] [(false, .bool)] fun x => g_coder_interval_good x),
  (60, .sem [(true, (.pair (.int .u64) (.int .u64)))] [(false, (.int .u64)), (false, (.int .i64))] fun x => g_coder_interval_move x),
  (61, .inl Try.f61 (Try.f61.body.getD .skip) n61_27),
  (63, .sem [(true, (.pair (.sl (.int .u8)) (.int .i64))), (false, (.int .u64)), (false, (.int .i64))] [(true, (.pair (.own (.int .u8)) (.int .i64))), (false, (.int .i64))] fun x => g_bits_Put x.1 x.2.1 x.2.2)]
theorem h27 : HOK Try.prog (handler tab s27 8) := handler_sound tabOK mixed (callsOK_get (l := s27) ⟨c17, ⟨Try.func43, by kernel_rfl, by kernel_rfl⟩, ⟨Try.func44, by kernel_rfl, by kernel_rfl⟩, c45, ⟨Try.func46, by kernel_rfl, by kernel_rfl⟩, c47, ⟨Try.func48, by kernel_rfl, by kernel_rfl⟩, c55, c58, c60, ⟨Try.func61, by kernel_rfl, by kernel_rfl⟩, c63, trivial⟩) 8
def n27 : Ann := (.seq .no (.seq .no (.seq .no (.seq (.seq (.join [(.normal, [.keep 4 4, .keep 6 6, .keep 8 8, .slot 10 false (.int .i64), .slot 11 false (.int .i64), .keep 16 16, .slot 30 false .bool, .obj 4 (.sl (.int .i64)), .obj 6 (.pair (.int .u32) (.pair (.int .u32) (.pair (.int .i64) (.pair (.own (.int .u8)) (.int .i64))))), .obj 16 (.pair (.pair (.int .u64) (.int .u64)) (.pair (.int .i64) (.pair (.pair (.sl (.int .u8)) (.int .i64)) (.int .i64))))])] .no) .no) (.seq (.draw [0, 1, 2, 3, 4, 5, 6, 7]) (.seq (.join [(.normal, [.keep 6 6, .keep 8 8, .keep 16 16, .keep 32 32, .keep 33 33, .keep 34 34, .obj 6 (.pair (.int .u32) (.pair (.int .u32) (.pair (.int .i64) (.pair (.own (.int .u8)) (.int .i64))))), .obj 34 (.pair (.pair (.int .u64) (.int .u64)) (.pair (.int .i64) (.pair (.pair (.sl (.int .u8)) (.int .i64)) (.int .i64))))])] .no) (.seq (.join [(.normal, [.keep 6 6, .keep 8 8, .keep 16 16, .keep 32 32, .keep 33 33, .keep 34 34, .obj 6 (.pair (.int .u32) (.pair (.int .u32) (.pair (.int .i64) (.pair (.own (.int .u8)) (.int .i64))))), .obj 34 (.pair (.pair (.int .u64) (.int .u64)) (.pair (.int .i64) (.pair (.pair (.sl (.int .u8)) (.int .i64)) (.int .i64))))])] (.seq (.join [(.normal, [.keep 6 6, .keep 8 8, .keep 16 16, .keep 32 32, .keep 33 33, .keep 34 34, .slot 53 false .bool, .obj 6 (.pair (.int .u32) (.pair (.int .u32) (.pair (.int .i64) (.pair (.own (.int .u8)) (.int .i64))))), .obj 34 (.pair (.pair (.int .u64) (.int .u64)) (.pair (.int .i64) (.pair (.pair (.sl (.int .u8)) (.int .i64)) (.int .i64))))])] .no) .no)) (.seq (.seq .no (.cond (.seq (.draw [0, 1, 2, 3, 4, 5, 6]) .no) .no)) (.seq (.draw [0, 1, 2, 3, 4, 5, 6, 7, 8, 9, 10, 11, 12, 13, 14, 15, 16, 17, 18, 19, 20, 21, 22, 23]) .no)))))))))
theorem e27 (x : denL [(true, (.pair (.int .u32) (.pair (.int .u32) (.pair (.int .i64) (.pair (.sl (.int .u8)) (.int .i64)))))), (true, (.sl (.int .i64))), (false, (.int .i64))]) : evalF tab s27 8 Try.f27 (Try.f27.body.getD .skip) n27 [(true, (.pair (.int .u32) (.pair (.int .u32) (.pair (.int .i64) (.pair (.sl (.int .u8)) (.int .i64)))))), (true, (.sl (.int .i64))), (false, (.int .i64))] [(true, (.pair (.int .u32) (.pair (.int .u32) (.pair (.int .i64) (.pair (.own (.int .u8)) (.int .i64)))))), (false, (.int .i64))] x = g_coder_Put x.1 x.2.1 x.2.2 := by kernel_rfl
theorem c27 : Contract Try.prog 27 [(true, (.pair (.int .u32) (.pair (.int .u32) (.pair (.int .i64) (.pair (.sl (.int .u8)) (.int .i64)))))), (true, (.sl (.int .i64))), (false, (.int .i64))] [(true, (.pair (.int .u32) (.pair (.int .u32) (.pair (.int .i64) (.pair (.own (.int .u8)) (.int .i64)))))), (false, (.int .i64))] (fun x => g_coder_Put x.1 x.2.1 x.2.2) := evalF_contract tabOK mixed h27 Try.func27 (body := Try.f27.body.getD .skip) (by kernel_rfl) (by kernel_rfl) e27

def n43_28 : Ann := (.seq .no (.seq .no (.seq (.join [(.normal, [.slot 0 true (.pair (.int .u32) (.pair (.int .u32) (.pair (.int .i64) (.pair (.sl (.int .u8)) (.int .i64))))), .keep 2 4, .slot 3 false .bool, .keep 4 4, .keep 17 17, .obj 17 (.pair (.pair (.int .u64) (.int .u64)) (.pair (.int .i64) (.pair (.pair (.sl (.int .u8)) (.int .i64)) (.int .i64))))])] .no) .no)))
def n48_28 : Ann := (.seq (.seq (.draw [0, 1, 2, 3, 4, 5, 6, 7, 8, 9, 10, 11]) .no) (.seq .no (.seq (.seq .no (.blk (.loop [.keep 0 0, .slot 1 false (.int .u64), .slot 4 false (.int .i64), .keep 6 6, .keep 7 7, .keep 8 8, .keep 11 11, .keep 12 12, .keep 13 13, .keep 14 14, .keep 22 22, .keep 23 23, .keep 24 24, .keep 25 25, .keep 26 26, .keep 32 32, .keep 33 33, .keep 34 34, .keep 35 35, .keep 36 36, .keep 37 37, .keep 38 38, .obj 37 (.pair (.pair (.int .u64) (.int .u64)) (.pair (.int .i64) (.pair (.pair (.own (.int .u8)) (.int .i64)) (.int .i64))))] [(.exit 0, [.keep 0 0, .slot 1 false (.int .u64), .keep 6 6, .keep 7 7, .keep 8 8, .keep 11 11, .keep 12 12, .keep 13 13, .keep 14 14, .keep 22 22, .keep 23 23, .keep 24 24, .keep 25 25, .keep 26 26, .keep 32 32, .keep 33 33, .keep 34 34, .keep 35 35, .keep 36 36, .keep 37 37, .keep 38 38, .obj 37 (.pair (.pair (.int .u64) (.int .u64)) (.pair (.int .i64) (.pair (.pair (.own (.int .u8)) (.int .i64)) (.int .i64))))])] (.seq (.seq (.join [(.normal, [.keep 0 0, .slot 1 false (.int .u64), .slot 4 false (.int .i64), .keep 6 6, .keep 7 7, .keep 8 8, .keep 11 11, .keep 12 12, .keep 13 13, .keep 14 14, .keep 22 22, .keep 23 23, .keep 24 24, .keep 25 25, .keep 26 26, .keep 32 32, .keep 33 33, .keep 34 34, .keep 35 35, .keep 36 36, .keep 37 37, .keep 38 38, .slot 48 false .bool, .obj 37 (.pair (.pair (.int .u64) (.int .u64)) (.pair (.int .i64) (.pair (.pair (.own (.int .u8)) (.int .i64)) (.int .i64))))])] .no) .no) (.seq (.blk (.seq .no (.draw [0, 1, 2, 3, 4, 5, 6, 7, 8, 9, 10, 11, 12, 13, 14, 15, 16, 17, 18, 19, 20, 21, 22]))) .no))))) .no)))
noncomputable def s28 : List (Nat × Callee) := [(43, .inl Try.f43 (Try.f43.body.getD .skip) n43_28),
  (48, .inl Try.f48 (Try.f48.body.getD .skip) n48_28),
  (55, .sem [(true, (.pair (.sl (.int .u8)) (.int .i64)))] [(false, (.int .i64))] fun x => g_bits_Check x),
  (58, .sem [(true, (.pair (.int .u64) (.int .u64)))] [(false, .bool)] fun x => g_coder_interval_good x),
  (63, .sem [(true, (.pair (.sl (.int .u8)) (.int .i64))), (false, (.int .u64)), (false, (.int .i64))] [(true, (.pair (.own (.int .u8)) (.int .i64))), (false, (.int .i64))] fun x => g_bits_Put x.1 x.2.1 x.2.2)]
theorem h28 : HOK Try.prog (handler tab s28 8) := handler_sound tabOK mixed (callsOK_get (l := s28) ⟨⟨Try.func43, by kernel_rfl, by kernel_rfl⟩, ⟨Try.func48, by kernel_rfl, by kernel_rfl⟩, c55, c58, c63, trivial⟩) 8
def n28 : Ann := (.seq .no (.seq .no (.seq .no (.seq .no (.seq .no (.seq .no (.seq .no (.seq (.seq .no (.cond (.seq (.draw [0, 1, 2, 3, 4, 5, 6]) .no) .no)) .no))))))))
theorem e28 (x : denL [(true, (.pair (.int .u32) (.pair (.int .u32) (.pair (.int .i64) (.pair (.sl (.int .u8)) (.int .i64))))))]) : evalF tab s28 8 Try.f28 (Try.f28.body.getD .skip) n28 [(true, (.pair (.int .u32) (.pair (.int .u32) (.pair (.int .i64) (.pair (.sl (.int .u8)) (.int .i64))))))] [(true, (.pair (.own (.int .u8)) (.int .i64))), (false, (.int .i64))] x = g_coder_End x := by kernel_rfl
theorem c28 : Contract Try.prog 28 [(true, (.pair (.int .u32) (.pair (.int .u32) (.pair (.int .i64) (.pair (.sl (.int .u8)) (.int .i64))))))] [(true, (.pair (.own (.int .u8)) (.int .i64))), (false, (.int .i64))] (fun x => g_coder_End x) := evalF_contract tabOK mixed h28 Try.func28 (body := Try.f28.body.getD .skip) (by kernel_rfl) (by kernel_rfl) e28

noncomputable def s16 : List (Nat × Callee) := [(26, .sem [] [(true, (.pair (.int .u32) (.pair (.int .u32) (.pair (.int .i64) (.pair (.sl (.int .u8)) (.int .i64))))))] fun x => g_coder_Begin),
  (27, .sem [(true, (.pair (.int .u32) (.pair (.int .u32) (.pair (.int .i64) (.pair (.sl (.int .u8)) (.int .i64)))))), (true, (.sl (.int .i64))), (false, (.int .i64))] [(true, (.pair (.int .u32) (.pair (.int .u32) (.pair (.int .i64) (.pair (.own (.int .u8)) (.int .i64)))))), (false, (.int .i64))] fun x => g_coder_Put x.1 x.2.1 x.2.2),
  (28, .sem [(true, (.pair (.int .u32) (.pair (.int .u32) (.pair (.int .i64) (.pair (.sl (.int .u8)) (.int .i64))))))] [(true, (.pair (.own (.int .u8)) (.int .i64))), (false, (.int .i64))] fun x => g_coder_End x)]
theorem h16 : HOK Try.prog (handler tab s16 8) := handler_sound tabOK mixed (callsOK_get (l := s16) ⟨c26, c27, c28, trivial⟩) 8
def n16 : Ann := (.seq .no (.seq .no (.seq .no (.seq (.seq .no (.blk (.loop [.slot 1 false (.sl (.sl (.int .i64))), .keep 4 4, .keep 6 6, .slot 17 false (.sl (.int .i64)), .slot 18 false (.int .i64), .slot 19 false (.int .i64), .obj 4 (.pair (.own (.int .u8)) (.int .i64)), .obj 6 (.pair (.int .u32) (.pair (.int .u32) (.pair (.int .i64) (.pair (.sl (.int .u8)) (.int .i64)))))] [(.exit 0, [.keep 4 4, .keep 6 6, .obj 4 (.pair (.own (.int .u8)) (.int .i64)), .obj 6 (.pair (.int .u32) (.pair (.int .u32) (.pair (.int .i64) (.pair (.sl (.int .u8)) (.int .i64)))))]), (.ret, [.keep 4 4, .slot 5 false (.int .i64), .obj 4 (.pair (.own (.int .u8)) (.int .i64))])] (.seq .no (.seq .no (.seq (.blk (.seq .no (.seq .no (.seq (.draw [0, 1, 2, 3, 4, 5, 6, 7, 8, 9, 10, 11]) .no)))) .no)))))) .no))))
theorem e16 (x : denL [(false, (.sl (.int .i64))), (false, (.sl (.sl (.int .i64))))]) : evalF tab s16 8 Try.f16 (Try.f16.body.getD .skip) n16 [(false, (.sl (.int .i64))), (false, (.sl (.sl (.int .i64))))] [(true, (.pair (.sl (.int .u8)) (.int .i64))), (false, (.int .i64))] x = g_coder_All x.1 x.2 := by kernel_rfl
theorem c16 : Contract Try.prog 16 [(false, (.sl (.int .i64))), (false, (.sl (.sl (.int .i64))))] [(true, (.pair (.sl (.int .u8)) (.int .i64))), (false, (.int .i64))] (fun x => g_coder_All x.1 x.2) := evalF_contract tabOK mixed h16 Try.func16 (body := Try.f16.body.getD .skip) (by kernel_rfl) (by kernel_rfl) e16

noncomputable def s10 : List (Nat × Callee) := [(11, .sem [(true, (.pair (.int .i64) (.pair (.arr 6 (.int .i64)) (.arr 16 (.int .i64))))), (true, (.arr 6 (.int .i64)))] [(false, (.int .i64))] fun x => g_frame_Check x.1 x.2),
  (16, .sem [(false, (.sl (.int .i64))), (false, (.sl (.sl (.int .i64))))] [(true, (.pair (.sl (.int .u8)) (.int .i64))), (false, (.int .i64))] fun x => g_coder_All x.1 x.2),
  (23, .sem [(true, (.pair (.int .i64) (.pair (.arr 6 (.int .i64)) (.arr 16 (.int .i64))))), (true, (.arr 6 (.int .i64)))] [(false, (.sl (.int .i64))), (false, (.sl (.sl (.int .i64))))] fun x => g_frame_symbols x.1 x.2)]
theorem h10 : HOK Try.prog (handler tab s10 8) := handler_sound tabOK mixed (callsOK_get (l := s10) ⟨c11, c16, c23, trivial⟩) 8
def n10 : Ann := .no
theorem e10 (x : denL [(true, (.pair (.int .i64) (.pair (.arr 6 (.int .i64)) (.arr 16 (.int .i64))))), (true, (.arr 6 (.int .i64)))]) : evalF tab s10 8 Try.f10 (Try.f10.body.getD .skip) n10 [(true, (.pair (.int .i64) (.pair (.arr 6 (.int .i64)) (.arr 16 (.int .i64))))), (true, (.arr 6 (.int .i64)))] [(false, (.sl (.int .u8))), (false, (.int .i64))] x = g_frame_Write x.1 x.2 := by kernel_rfl
theorem c10 : Contract Try.prog 10 [(true, (.pair (.int .i64) (.pair (.arr 6 (.int .i64)) (.arr 16 (.int .i64))))), (true, (.arr 6 (.int .i64)))] [(false, (.sl (.int .u8))), (false, (.int .i64))] (fun x => g_frame_Write x.1 x.2) := evalF_contract tabOK mixed h10 Try.func10 (body := Try.f10.body.getD .skip) (by kernel_rfl) (by kernel_rfl) e10

noncomputable def s37 : List (Nat × Callee) := [(57, .sem [(false, (.sl (.int .u8)))] [(false, (.own (.int .u8)))] fun x => g_slices_Clone_Sbyte_byte x)]
theorem h37 : HOK Try.prog (handler tab s37 8) := handler_sound tabOK mixed (callsOK_get (l := s37) ⟨c57, trivial⟩) 8
def n37 : Ann := .no
theorem e37 (x : denL [(false, (.sl (.int .u8)))]) : evalF tab s37 8 Try.f37 (Try.f37.body.getD .skip) n37 [(false, (.sl (.int .u8)))] [(true, (.pair (.sl (.int .u8)) (.int .i64)))] x = g_bits_Of x := by kernel_rfl
theorem c37 : Contract Try.prog 37 [(false, (.sl (.int .u8)))] [(true, (.pair (.sl (.int .u8)) (.int .i64)))] (fun x => g_bits_Of x) := evalF_contract tabOK mixed h37 Try.func37 (body := Try.f37.body.getD .skip) (by kernel_rfl) (by kernel_rfl) e37

noncomputable def s56 : List (Nat × Callee) := []
theorem h56 : HOK Try.prog (handler tab s56 8) := handler_sound tabOK mixed (callsOK_get (l := s56) trivial) 8
def n56 : Ann := .no
theorem e56 (x : denL [(true, (.pair (.sl (.int .u8)) (.int .i64))), (false, (.int .i64))]) : evalF tab s56 8 Try.f56 (Try.f56.body.getD .skip) n56 [(true, (.pair (.sl (.int .u8)) (.int .i64))), (false, (.int .i64))] [(false, (.int .u64))] x = g_coder_bit x.1 x.2 := by kernel_rfl
theorem c56 : Contract Try.prog 56 [(true, (.pair (.sl (.int .u8)) (.int .i64))), (false, (.int .i64))] [(false, (.int .u64))] (fun x => g_coder_bit x.1 x.2) := evalF_contract tabOK mixed h56 Try.func56 (body := Try.f56.body.getD .skip) (by kernel_rfl) (by kernel_rfl) e56

noncomputable def s36 : List (Nat × Callee) := [(47, .sem [(true, (.pair (.sl (.int .u8)) (.int .i64)))] [(true, (.pair (.own (.int .u8)) (.int .i64)))] fun x => g_coder_owned x),
  (55, .sem [(true, (.pair (.sl (.int .u8)) (.int .i64)))] [(false, (.int .i64))] fun x => g_bits_Check x),
  (56, .sem [(true, (.pair (.sl (.int .u8)) (.int .i64))), (false, (.int .i64))] [(false, (.int .u64))] fun x => g_coder_bit x.1 x.2)]
theorem h36 : HOK Try.prog (handler tab s36 8) := handler_sound tabOK mixed (callsOK_get (l := s36) ⟨c47, c55, c56, trivial⟩) 8
def n36 : Ann := (.seq .no (.seq .no (.seq .no (.seq (.seq .no (.blk (.loop [.keep 1 1, .keep 2 2, .slot 5 false (.int .u64), .slot 13 false (.int .i64), .obj 1 (.pair (.sl (.int .u8)) (.int .i64)), .obj 2 (.pair (.int .u32) (.pair (.int .u32) (.pair (.int .u32) (.pair (.pair (.own (.int .u8)) (.int .i64)) (.int .i64)))))] [(.exit 0, [.keep 1 1, .keep 2 2, .slot 5 false (.int .u64), .obj 1 (.pair (.sl (.int .u8)) (.int .i64)), .obj 2 (.pair (.int .u32) (.pair (.int .u32) (.pair (.int .u32) (.pair (.pair (.own (.int .u8)) (.int .i64)) (.int .i64)))))])] .no))) .no))))
theorem e36 (x : denL [(true, (.pair (.sl (.int .u8)) (.int .i64)))]) : evalF tab s36 8 Try.f36 (Try.f36.body.getD .skip) n36 [(true, (.pair (.sl (.int .u8)) (.int .i64)))] [(true, (.pair (.int .u32) (.pair (.int .u32) (.pair (.int .u32) (.pair (.pair (.sl (.int .u8)) (.int .i64)) (.int .i64)))))), (false, (.int .i64))] x = g_coder_Start x := by kernel_rfl
theorem c36 : Contract Try.prog 36 [(true, (.pair (.sl (.int .u8)) (.int .i64)))] [(true, (.pair (.int .u32) (.pair (.int .u32) (.pair (.int .u32) (.pair (.pair (.sl (.int .u8)) (.int .i64)) (.int .i64)))))), (false, (.int .i64))] (fun x => g_coder_Start x) := evalF_contract tabOK mixed h36 Try.func36 (body := Try.f36.body.getD .skip) (by kernel_rfl) (by kernel_rfl) e36

noncomputable def s75 : List (Nat × Callee) := []
theorem h75 : HOK Try.prog (handler tab s75 8) := handler_sound tabOK mixed (callsOK_get (l := s75) trivial) 8
def n75 : Ann := .no
theorem e75 (x : denL [(false, (.int .i64))]) : evalF tab s75 8 Try.f75 (Try.f75.body.getD .skip) n75 [(false, (.int .i64))] [(false, .bool)] x = g_cmp_isNaN_int x := by kernel_rfl
theorem c75 : Contract Try.prog 75 [(false, (.int .i64))] [(false, .bool)] (fun x => g_cmp_isNaN_int x) := evalF_contract tabOK mixed h75 Try.func75 (body := Try.f75.body.getD .skip) (by kernel_rfl) (by kernel_rfl) e75

noncomputable def s70 : List (Nat × Callee) := [(75, .sem [(false, (.int .i64))] [(false, .bool)] fun x => g_cmp_isNaN_int x)]
theorem h70 : HOK Try.prog (handler tab s70 8) := handler_sound tabOK mixed (callsOK_get (l := s70) ⟨c75, trivial⟩) 8
def n70 : Ann := .no
theorem e70 (x : denL [(false, (.int .i64)), (false, (.int .i64))]) : evalF tab s70 8 Try.f70 (Try.f70.body.getD .skip) n70 [(false, (.int .i64)), (false, (.int .i64))] [(false, .bool)] x = g_cmp_Less_int x.1 x.2 := by kernel_rfl
theorem c70 : Contract Try.prog 70 [(false, (.int .i64)), (false, (.int .i64))] [(false, .bool)] (fun x => g_cmp_Less_int x.1 x.2) := evalF_contract tabOK mixed h70 Try.func70 (body := Try.f70.body.getD .skip) (by kernel_rfl) (by kernel_rfl) e70

noncomputable def s71 : List (Nat × Callee) := []
theorem h71 : HOK Try.prog (handler tab s71 8) := handler_sound tabOK mixed (callsOK_get (l := s71) trivial) 8
def n71 : Ann := .no
theorem e71 (x : denL [(false, (.int .i64))]) : evalF tab s71 8 Try.f71 (Try.f71.body.getD .skip) n71 [(false, (.int .i64))] [(false, .bool)] x = g_slices_isNaN_int x := by kernel_rfl
theorem c71 : Contract Try.prog 71 [(false, (.int .i64))] [(false, .bool)] (fun x => g_slices_isNaN_int x) := evalF_contract tabOK mixed h71 Try.func71 (body := Try.f71.body.getD .skip) (by kernel_rfl) (by kernel_rfl) e71

noncomputable def s66 : List (Nat × Callee) := [(70, .sem [(false, (.int .i64)), (false, (.int .i64))] [(false, .bool)] fun x => g_cmp_Less_int x.1 x.2),
  (71, .sem [(false, (.int .i64))] [(false, .bool)] fun x => g_slices_isNaN_int x)]
theorem h66 : HOK Try.prog (handler tab s66 8) := handler_sound tabOK mixed (callsOK_get (l := s66) ⟨c70, c71, trivial⟩) 8
def n66 : Ann := (.seq .no (.seq .no (.seq .no (.seq (.blk (.loop [.slot 0 false (.sl (.int .i64)), .slot 1 false (.int .i64), .slot 6 false (.int .i64), .slot 7 false (.int .i64), .slot 8 false (.int .i64)] [(.exit 0, [.slot 0 false (.sl (.int .i64)), .slot 1 false (.int .i64), .slot 6 false (.int .i64), .slot 7 false (.int .i64)])] .no)) .no))))
theorem e66 (x : denL [(false, (.sl (.int .i64))), (false, (.int .i64))]) : evalF tab s66 8 Try.f66 (Try.f66.body.getD .skip) n66 [(false, (.sl (.int .i64))), (false, (.int .i64))] [(false, (.int .i64)), (false, .bool)] x = g_slices_BinarySearch_Sint_int x.1 x.2 := by kernel_rfl
theorem c66 : Contract Try.prog 66 [(false, (.sl (.int .i64))), (false, (.int .i64))] [(false, (.int .i64)), (false, .bool)] (fun x => g_slices_BinarySearch_Sint_int x.1 x.2) := evalF_contract tabOK mixed h66 Try.func66 (body := Try.f66.body.getD .skip) (by kernel_rfl) (by kernel_rfl) e66

noncomputable def s59 : List (Nat × Callee) := [(29, .sem [(true, (.sl (.int .i64)))] [(false, (.int .i64))] fun x => g_freq_Check x),
  (49, .sem [(true, (.sl (.int .i64)))] [(false, (.int .i64))] fun x => g_freq_last x),
  (66, .sem [(false, (.sl (.int .i64))), (false, (.int .i64))] [(false, (.int .i64)), (false, .bool)] fun x => g_slices_BinarySearch_Sint_int x.1 x.2)]
theorem h59 : HOK Try.prog (handler tab s59 8) := handler_sound tabOK mixed (callsOK_get (l := s59) ⟨c29, c49, c66, trivial⟩) 8
def n59 : Ann := (.seq .no (.seq (.seq (.join [(.normal, [.slot 1 false (.int .i64), .keep 2 2, .slot 20 false .bool, .obj 2 (.sl (.int .i64))])] .no) .no) (.seq .no (.seq (.join [(.normal, [.slot 6 false (.int .i64)])] .no) .no))))
theorem e59 (x : denL [(true, (.sl (.int .i64))), (false, (.int .i64))]) : evalF tab s59 8 Try.f59 (Try.f59.body.getD .skip) n59 [(true, (.sl (.int .i64))), (false, (.int .i64))] [(false, (.int .i64)), (false, (.int .i64))] x = g_freq_Find x.1 x.2 := by kernel_rfl
theorem c59 : Contract Try.prog 59 [(true, (.sl (.int .i64))), (false, (.int .i64))] [(false, (.int .i64)), (false, (.int .i64))] (fun x => g_freq_Find x.1 x.2) := evalF_contract tabOK mixed h59 Try.func59 (body := Try.f59.body.getD .skip) (by kernel_rfl) (by kernel_rfl) e59

def n44_38 : Ann := (.seq (.draw [0, 1, 2, 3, 4, 5, 6, 7, 8, 9, 10]) (.seq (.draw [0, 1, 2, 3, 4, 5, 6, 7, 8, 9, 10, 11, 12, 13, 14, 15, 16]) (.draw [0, 1, 2, 3, 4, 5, 6, 7, 8, 9, 10, 11, 12, 13, 14])))
def n61_38 : Ann := (.draw [0, 1, 2, 3, 4, 5, 6, 7, 8, 9, 10, 11, 12, 13, 14, 15, 16, 17, 18, 19, 20, 21, 22])
noncomputable def s38 : List (Nat × Callee) := [(29, .sem [(true, (.sl (.int .i64)))] [(false, (.int .i64))] fun x => g_freq_Check x),
  (44, .inl Try.f44 (Try.f44.body.getD .skip) n44_38),
  (45, .sem [(true, (.sl (.int .i64)))] [(false, (.int .i64))] fun x => g_freq_Total x),
  (47, .sem [(true, (.pair (.sl (.int .u8)) (.int .i64)))] [(true, (.pair (.own (.int .u8)) (.int .i64)))] fun x => g_coder_owned x),
  (55, .sem [(true, (.pair (.sl (.int .u8)) (.int .i64)))] [(false, (.int .i64))] fun x => g_bits_Check x),
  (56, .sem [(true, (.pair (.sl (.int .u8)) (.int .i64))), (false, (.int .i64))] [(false, (.int .u64))] fun x => g_coder_bit x.1 x.2),
  (58, .sem [(true, (.pair (.int .u64) (.int .u64)))] [(false, .bool)] fun x => g_coder_interval_good x),
  (59, .sem [(true, (.sl (.int .i64))), (false, (.int .i64))] [(false, (.int .i64)), (false, (.int .i64))] fun x => g_freq_Find x.1 x.2),
  (60, .sem [(true, (.pair (.int .u64) (.int .u64)))] [(false, (.int .u64)), (false, (.int .i64))] fun x => g_coder_interval_move x),
  (61, .inl Try.f61 (Try.f61.body.getD .skip) n61_38)]
theorem h38 : HOK Try.prog (handler tab s38 8) := handler_sound tabOK mixed (callsOK_get (l := s38) ⟨c29, ⟨Try.func44, by kernel_rfl, by kernel_rfl⟩, c45, c47, c55, c56, c58, c59, c60, ⟨Try.func61, by kernel_rfl, by kernel_rfl⟩, trivial⟩) 8
def n38 : Ann := (.seq .no (.seq .no (.seq (.draw [0, 1, 2, 3, 4, 5, 6]) (.seq (.blk (.seq (.join [(.normal, [.keep 2 2, .keep 3 3, .keep 4 4, .keep 7 7, .slot 8 false (.int .u64), .slot 9 false (.int .i64), .keep 16 16, .keep 19 19, .keep 23 23, .keep 26 26, .slot 28 false .bool, .obj 16 (.pair (.int .u32) (.pair (.int .u32) (.pair (.int .u32) (.pair (.pair (.sl (.int .u8)) (.int .i64)) (.int .i64))))), .obj 3 (.sl (.int .i64)), .obj 4 (.pair (.int .u32) (.pair (.int .u32) (.pair (.int .u32) (.pair (.pair (.own (.int .u8)) (.int .i64)) (.int .i64))))), .obj 7 (.pair (.int .u64) (.int .u64))])] .no) .no)) (.seq .no (.seq .no (.seq .no (.seq .no (.seq (.draw [0, 1, 2, 3, 4, 5, 6, 7, 8, 9, 10, 11, 12]) (.seq (.blk (.loop [.keep 2 2, .keep 4 4, .keep 7 7, .slot 8 false (.int .u64), .slot 9 false (.int .i64), .slot 12 false (.int .i64), .keep 16 16, .keep 19 19, .keep 23 23, .keep 26 26, .keep 54 54, .keep 55 55, .keep 63 63, .keep 71 71, .keep 73 73, .obj 16 (.pair (.int .u32) (.pair (.int .u32) (.pair (.int .u32) (.pair (.pair (.sl (.int .u8)) (.int .i64)) (.int .i64))))), .obj 4 (.pair (.int .u32) (.pair (.int .u32) (.pair (.int .u32) (.pair (.pair (.own (.int .u8)) (.int .i64)) (.int .i64))))), .obj 73 (.pair (.int .u64) (.int .u64))] [(.exit 1, [.keep 2 2, .keep 4 4, .keep 7 7, .slot 8 false (.int .u64), .slot 9 false (.int .i64), .slot 12 false (.int .i64), .keep 16 16, .keep 19 19, .keep 23 23, .keep 26 26, .keep 54 54, .keep 55 55, .keep 63 63, .keep 71 71, .keep 73 73, .obj 16 (.pair (.int .u32) (.pair (.int .u32) (.pair (.int .u32) (.pair (.pair (.sl (.int .u8)) (.int .i64)) (.int .i64))))), .obj 4 (.pair (.int .u32) (.pair (.int .u32) (.pair (.int .u32) (.pair (.pair (.own (.int .u8)) (.int .i64)) (.int .i64))))), .obj 73 (.pair (.int .u64) (.int .u64))])] .no)) (.seq (.draw [0, 1, 2, 3, 4, 5, 6, 7, 8, 9, 10, 11, 12, 13, 14, 15, 16]) .no)))))))))))
theorem e38 (x : denL [(true, (.pair (.int .u32) (.pair (.int .u32) (.pair (.int .u32) (.pair (.pair (.sl (.int .u8)) (.int .i64)) (.int .i64)))))), (true, (.sl (.int .i64)))]) : evalF tab s38 8 Try.f38 (Try.f38.body.getD .skip) n38 [(true, (.pair (.int .u32) (.pair (.int .u32) (.pair (.int .u32) (.pair (.pair (.sl (.int .u8)) (.int .i64)) (.int .i64)))))), (true, (.sl (.int .i64)))] [(true, (.pair (.int .u32) (.pair (.int .u32) (.pair (.int .u32) (.pair (.pair (.sl (.int .u8)) (.int .i64)) (.int .i64)))))), (false, (.int .i64)), (false, (.int .i64))] x = g_coder_Next x.1 x.2 := by kernel_rfl
theorem c38 : Contract Try.prog 38 [(true, (.pair (.int .u32) (.pair (.int .u32) (.pair (.int .u32) (.pair (.pair (.sl (.int .u8)) (.int .i64)) (.int .i64)))))), (true, (.sl (.int .i64)))] [(true, (.pair (.int .u32) (.pair (.int .u32) (.pair (.int .u32) (.pair (.pair (.sl (.int .u8)) (.int .i64)) (.int .i64)))))), (false, (.int .i64)), (false, (.int .i64))] (fun x => g_coder_Next x.1 x.2) := evalF_contract tabOK mixed h38 Try.func38 (body := Try.f38.body.getD .skip) (by kernel_rfl) (by kernel_rfl) e38

noncomputable def s22 : List (Nat × Callee) := []
theorem h22 : HOK Try.prog (handler tab s22 8) := handler_sound tabOK mixed (callsOK_get (l := s22) trivial) 8
def n22 : Ann := (.seq .no (.seq .no (.seq (.seq .no (.blk (.loop [.slot 0 false (.sl (.int .u8)), .slot 1 false (.sl (.int .u8)), .slot 12 false (.int .i64), .slot 13 false (.int .i64)] [(.exit 0, []), (.ret, [.slot 4 false .bool])] (.seq .no (.seq .no (.seq (.blk (.seq .no (.seq (.draw [0, 1, 2, 3, 4, 5, 6, 7, 8]) .no))) .no)))))) .no)))
theorem e22 (x : denL [(false, (.sl (.int .u8))), (false, (.sl (.int .u8)))]) : evalF tab s22 8 Try.f22 (Try.f22.body.getD .skip) n22 [(false, (.sl (.int .u8))), (false, (.sl (.int .u8)))] [(false, .bool)] x = g_slices_Equal_Sbyte_byte x.1 x.2 := by kernel_rfl
theorem c22 : Contract Try.prog 22 [(false, (.sl (.int .u8))), (false, (.sl (.int .u8)))] [(false, .bool)] (fun x => g_slices_Equal_Sbyte_byte x.1 x.2) := evalF_contract tabOK mixed h22 Try.func22 (body := Try.f22.body.getD .skip) (by kernel_rfl) (by kernel_rfl) e22

def n19_9 : Ann := (.seq .no (.seq (.seq (.join [(.normal, [.keep 0 0, .slot 1 true (.arr 6 (.int .i64)), .keep 2 2, .keep 4 4, .slot 25 false .bool, .obj 0 (.pair (.int .i64) (.pair (.arr 6 (.int .i64)) (.arr 16 (.int .i64)))), .obj 4 (.arr 6 (.int .i64)), .obj 1002 (.pair (.pair (.int .u32) (.pair (.int .u32) (.pair (.int .u32) (.pair (.pair (.sl (.int .u8)) (.int .i64)) (.int .i64))))) (.int .i64))])] (.draw [0, 1, 2, 3, 4, 5, 6])) .no) (.seq .no (.seq .no (.seq (.join [(.normal, [.keep 0 0, .slot 1 true (.arr 6 (.int .i64)), .keep 2 2, .keep 7 7, .keep 8 8, .obj 0 (.pair (.int .i64) (.pair (.arr 6 (.int .i64)) (.arr 16 (.int .i64)))), .obj 7 (.sl (.int .i64)), .obj 8 (.arr 6 (.int .i64)), .obj 1002 (.pair (.pair (.int .u32) (.pair (.int .u32) (.pair (.int .u32) (.pair (.pair (.sl (.int .u8)) (.int .i64)) (.int .i64))))) (.int .i64))])] (.seq .no (.cond (.seq (.draw [0, 1, 2, 3]) (.seq .no (.blk (.loop [.keep 0 0, .slot 1 true (.arr 6 (.int .i64)), .keep 2 2, .keep 7 7, .keep 8 8, .keep 27 27, .keep 28 28, .keep 29 29, .slot 34 false (.int .i64), .obj 29 (.pair (.int .i64) (.pair (.arr 6 (.int .i64)) (.arr 16 (.int .i64)))), .obj 7 (.sl (.int .i64)), .obj 8 (.arr 6 (.int .i64)), .obj 1002 (.pair (.pair (.int .u32) (.pair (.int .u32) (.pair (.int .u32) (.pair (.pair (.sl (.int .u8)) (.int .i64)) (.int .i64))))) (.int .i64))] [(.exit 0, [.keep 0 0, .slot 1 true (.arr 6 (.int .i64)), .keep 2 2, .keep 7 7, .keep 8 8, .keep 27 27, .keep 28 28, .keep 29 29, .obj 29 (.pair (.int .i64) (.pair (.arr 6 (.int .i64)) (.arr 16 (.int .i64)))), .obj 7 (.sl (.int .i64)), .obj 8 (.arr 6 (.int .i64)), .obj 1002 (.pair (.pair (.int .u32) (.pair (.int .u32) (.pair (.int .u32) (.pair (.pair (.sl (.int .u8)) (.int .i64)) (.int .i64))))) (.int .i64))])] .no)))) .no))) (.seq (.seq .no (.blk (.loop [.keep 0 0, .slot 1 true (.arr 6 (.int .i64)), .keep 2 2, .keep 7 7, .keep 8 8, .slot 43 false (.int .i64), .obj 0 (.pair (.int .i64) (.pair (.arr 6 (.int .i64)) (.arr 16 (.int .i64)))), .obj 7 (.sl (.int .i64)), .obj 8 (.arr 6 (.int .i64)), .obj 1002 (.pair (.pair (.int .u32) (.pair (.int .u32) (.pair (.int .u32) (.pair (.pair (.sl (.int .u8)) (.int .i64)) (.int .i64))))) (.int .i64))] [(.exit 2, [.keep 0 0, .slot 1 true (.arr 6 (.int .i64)), .keep 2 2, .obj 0 (.pair (.int .i64) (.pair (.arr 6 (.int .i64)) (.arr 16 (.int .i64)))), .obj 1002 (.pair (.pair (.int .u32) (.pair (.int .u32) (.pair (.int .u32) (.pair (.pair (.sl (.int .u8)) (.int .i64)) (.int .i64))))) (.int .i64))]), (.ret, [.keep 0 0, .slot 1 true (.arr 6 (.int .i64)), .keep 2 2, .slot 6 false .bool, .obj 0 (.pair (.int .i64) (.pair (.arr 6 (.int .i64)) (.arr 16 (.int .i64)))), .obj 1002 (.pair (.pair (.int .u32) (.pair (.int .u32) (.pair (.int .u32) (.pair (.pair (.sl (.int .u8)) (.int .i64)) (.int .i64))))) (.int .i64))])] (.seq .no (.seq .no (.seq (.blk (.seq .no (.seq (.draw [0, 1, 2, 3, 4, 5, 6, 7, 8, 9, 10, 11]) (.seq (.seq (.join [(.normal, [.keep 0 0, .slot 1 true (.arr 6 (.int .i64)), .keep 2 2, .keep 7 7, .keep 8 8, .slot 10 false (.int .i64), .keep 11 11, .slot 43 false (.int .i64), .keep 46 46, .keep 48 48, .keep 49 49, .slot 59 false .bool, .obj 48 (.pair (.int .i64) (.pair (.arr 6 (.int .i64)) (.arr 16 (.int .i64)))), .obj 7 (.sl (.int .i64)), .obj 8 (.arr 6 (.int .i64)), .obj 11 (.int .i64), .obj 1002 (.pair (.pair (.int .u32) (.pair (.int .u32) (.pair (.int .u32) (.pair (.pair (.sl (.int .u8)) (.int .i64)) (.int .i64))))) (.int .i64))])] .no) .no) (.draw [0, 1, 2, 3, 4, 5, 6, 7, 8, 9, 10]))))) .no)))))) (.seq .no (.seq .no (.seq .no (.seq (.seq .no (.blk (.loop [.keep 0 0, .slot 1 true (.arr 6 (.int .i64)), .keep 2 2, .keep 12 12, .keep 71 71, .keep 72 72, .keep 73 73, .keep 77 77, .keep 78 78, .keep 79 79, .slot 86 false (.int .i64), .obj 78 (.pair (.int .i64) (.pair (.arr 6 (.int .i64)) (.arr 16 (.int .i64)))), .obj 12 (.arr 6 (.int .i64)), .obj 1002 (.pair (.pair (.int .u32) (.pair (.int .u32) (.pair (.int .u32) (.pair (.pair (.sl (.int .u8)) (.int .i64)) (.int .i64))))) (.int .i64))] [(.exit 4, [.keep 0 0, .slot 1 true (.arr 6 (.int .i64)), .keep 2 2, .keep 71 71, .keep 72 72, .keep 73 73, .keep 77 77, .keep 78 78, .keep 79 79, .obj 78 (.pair (.int .i64) (.pair (.arr 6 (.int .i64)) (.arr 16 (.int .i64)))), .obj 1002 (.pair (.pair (.int .u32) (.pair (.int .u32) (.pair (.int .u32) (.pair (.pair (.sl (.int .u8)) (.int .i64)) (.int .i64))))) (.int .i64))]), (.ret, [.keep 0 0, .slot 1 true (.arr 6 (.int .i64)), .keep 2 2, .slot 6 false .bool, .keep 71 71, .keep 72 72, .keep 73 73, .keep 77 77, .keep 78 78, .keep 79 79, .obj 78 (.pair (.int .i64) (.pair (.arr 6 (.int .i64)) (.arr 16 (.int .i64)))), .obj 1002 (.pair (.pair (.int .u32) (.pair (.int .u32) (.pair (.int .u32) (.pair (.pair (.sl (.int .u8)) (.int .i64)) (.int .i64))))) (.int .i64))])] (.seq .no (.seq .no (.seq (.join [(.normal, [.keep 0 0, .slot 1 true (.arr 6 (.int .i64)), .keep 2 2, .keep 12 12, .keep 71 71, .keep 72 72, .keep 73 73, .keep 77 77, .keep 78 78, .keep 79 79, .slot 86 false (.int .i64), .obj 78 (.pair (.int .i64) (.pair (.arr 6 (.int .i64)) (.arr 16 (.int .i64)))), .obj 12 (.arr 6 (.int .i64)), .obj 1002 (.pair (.pair (.int .u32) (.pair (.int .u32) (.pair (.int .u32) (.pair (.pair (.sl (.int .u8)) (.int .i64)) (.int .i64))))) (.int .i64))]), (.ret, [.keep 0 0, .slot 1 true (.arr 6 (.int .i64)), .keep 2 2, .slot 6 false .bool, .keep 71 71, .keep 72 72, .keep 73 73, .keep 77 77, .keep 78 78, .keep 79 79, .obj 78 (.pair (.int .i64) (.pair (.arr 6 (.int .i64)) (.arr 16 (.int .i64)))), .obj 1002 (.pair (.pair (.int .u32) (.pair (.int .u32) (.pair (.int .u32) (.pair (.pair (.sl (.int .u8)) (.int .i64)) (.int .i64))))) (.int .i64))])] (.blk (.seq .no (.seq .no (.seq .no (.seq .no (.seq .no (.seq (.seq (.join [(.normal, [.keep 0 0, .slot 1 true (.arr 6 (.int .i64)), .keep 2 2, .keep 12 12, .slot 14 false (.int .i64), .slot 17 false (.int .i64), .keep 18 18, .keep 71 71, .keep 72 72, .keep 73 73, .keep 77 77, .keep 78 78, .keep 79 79, .slot 86 false (.int .i64), .keep 102 102, .keep 104 104, .keep 105 105, .slot 114 false .bool, .obj 104 (.pair (.int .i64) (.pair (.arr 6 (.int .i64)) (.arr 16 (.int .i64)))), .obj 12 (.arr 6 (.int .i64)), .obj 18 (.int .i64), .obj 1002 (.pair (.pair (.int .u32) (.pair (.int .u32) (.pair (.int .u32) (.pair (.pair (.sl (.int .u8)) (.int .i64)) (.int .i64))))) (.int .i64))])] .no) .no) (.draw [0, 1, 2, 3, 4, 5, 6, 7, 8]))))))))) .no)))))) .no))))))))))
def n20_9 : Ann := (.join [(.ret, [.slot 0 false (.sl (.int .u8)), .nbox 2 (.pair (.pair (.int .u32) (.pair (.int .u32) (.pair (.int .u32) (.pair (.pair (.sl (.int .u8)) (.int .i64)) (.int .i64))))) (.int .i64))])] .no)
def n21_9 : Ann := (.seq .no (.seq (.seq .no (.cond (.draw [0, 1, 2, 3, 4, 5, 6, 7, 8, 9, 10, 11, 12, 13, 14, 15, 16, 17, 18, 19, 20]) .no)) .no))
noncomputable def s9 : List (Nat × Callee) := [(10, .sem [(true, (.pair (.int .i64) (.pair (.arr 6 (.int .i64)) (.arr 16 (.int .i64))))), (true, (.arr 6 (.int .i64)))] [(false, (.sl (.int .u8))), (false, (.int .i64))] fun x => g_frame_Write x.1 x.2),
  (18, .sem [(true, (.arr 6 (.int .i64)))] [(false, (.int .i64))] fun x => g_bands_Check x),
  (19, .inl Try.f19 (Try.f19.body.getD .skip) n19_9),
  (20, .inl Try.f20 (Try.f20.body.getD .skip) n20_9),
  (21, .inl Try.f21 (Try.f21.body.getD .skip) n21_9),
  (22, .sem [(false, (.sl (.int .u8))), (false, (.sl (.int .u8)))] [(false, .bool)] fun x => g_slices_Equal_Sbyte_byte x.1 x.2),
  (25, .sem [] [(true, (.sl (.int .i64)))] fun x => g_frame_kinds),
  (30, .sem [] [(true, (.sl (.int .i64)))] fun x => g_frame_levels),
  (31, .sem [] [(true, (.sl (.int .i64)))] fun x => g_frame_changes),
  (32, .sem [(true, (.arr 6 (.int .i64))), (false, (.int .i64))] [(true, (.arr 6 (.int .i64))), (false, (.int .i64))] fun x => g_bands_Share x.1 x.2),
  (33, .sem [(false, (.int .i64))] [(false, (.int .i64)), (false, (.int .i64))] fun x => g_bands_Of x),
  (34, .sem [(false, (.int .i64))] [(false, (.int .i64))] fun x => g_quant_Most x),
  (35, .sem [(false, (.int .i64))] [(true, (.sl (.int .i64)))] fun x => g_frame_smalls x),
  (36, .sem [(true, (.pair (.sl (.int .u8)) (.int .i64)))] [(true, (.pair (.int .u32) (.pair (.int .u32) (.pair (.int .u32) (.pair (.pair (.sl (.int .u8)) (.int .i64)) (.int .i64)))))), (false, (.int .i64))] fun x => g_coder_Start x),
  (37, .sem [(false, (.sl (.int .u8)))] [(true, (.pair (.sl (.int .u8)) (.int .i64)))] fun x => g_bits_Of x),
  (38, .sem [(true, (.pair (.int .u32) (.pair (.int .u32) (.pair (.int .u32) (.pair (.pair (.sl (.int .u8)) (.int .i64)) (.int .i64)))))), (true, (.sl (.int .i64)))] [(true, (.pair (.int .u32) (.pair (.int .u32) (.pair (.int .u32) (.pair (.pair (.sl (.int .u8)) (.int .i64)) (.int .i64)))))), (false, (.int .i64)), (false, (.int .i64))] fun x => g_coder_Next x.1 x.2)]
theorem h9 : HOK Try.prog (handler tab s9 8) := handler_sound tabOK mixed (callsOK_get (l := s9) ⟨c10, c18, ⟨Try.func19, by kernel_rfl, by kernel_rfl⟩, ⟨Try.func20, by kernel_rfl, by kernel_rfl⟩, ⟨Try.func21, by kernel_rfl, by kernel_rfl⟩, c22, c25, c30, c31, c32, c33, c34, c35, c36, c37, c38, trivial⟩) 8
def n9 : Ann := (.seq .no (.seq .no (.seq (.seq (.join [(.normal, [.slot 0 false (.sl (.int .u8)), .keep 3 3, .keep 4 4, .slot 20 false .bool, .obj 3 (.arr 6 (.int .i64)), .obj 4 (.pair (.int .i64) (.pair (.arr 6 (.int .i64)) (.arr 16 (.int .i64))))])] (.draw [0, 1, 2, 3, 4, 5])) .no) (.seq (.seq .no (.seq (.join [(.normal, [.keep 4 4, .slot 35 false .bool, .obj 4 (.pair (.int .i64) (.pair (.arr 6 (.int .i64)) (.arr 16 (.int .i64))))])] .no) .no)) .no))))
theorem e9 (x : denL [(false, (.sl (.int .u8))), (true, (.arr 6 (.int .i64)))]) : evalF tab s9 8 Try.f9 (Try.f9.body.getD .skip) n9 [(false, (.sl (.int .u8))), (true, (.arr 6 (.int .i64)))] [(true, (.pair (.int .i64) (.pair (.arr 6 (.int .i64)) (.arr 16 (.int .i64))))), (false, (.int .i64))] x = g_frame_Read x.1 x.2 := by kernel_rfl
theorem c9 : Contract Try.prog 9 [(false, (.sl (.int .u8))), (true, (.arr 6 (.int .i64)))] [(true, (.pair (.int .i64) (.pair (.arr 6 (.int .i64)) (.arr 16 (.int .i64))))), (false, (.int .i64))] (fun x => g_frame_Read x.1 x.2) := evalF_contract tabOK mixed h9 Try.func9 (body := Try.f9.body.getD .skip) (by kernel_rfl) (by kernel_rfl) e9

noncomputable def s8 : List (Nat × Callee) := [(9, .sem [(false, (.sl (.int .u8))), (true, (.arr 6 (.int .i64)))] [(true, (.pair (.int .i64) (.pair (.arr 6 (.int .i64)) (.arr 16 (.int .i64))))), (false, (.int .i64))] fun x => g_frame_Read x.1 x.2),
  (10, .sem [(true, (.pair (.int .i64) (.pair (.arr 6 (.int .i64)) (.arr 16 (.int .i64))))), (true, (.arr 6 (.int .i64)))] [(false, (.sl (.int .u8))), (false, (.int .i64))] fun x => g_frame_Write x.1 x.2)]
theorem h8 : HOK Try.prog (handler tab s8 8) := handler_sound tabOK mixed (callsOK_get (l := s8) ⟨c9, c10, trivial⟩) 8
def n8 : Ann := .no
theorem e8 (x : denL []) : evalF tab s8 8 Try.f8 (Try.f8.body.getD .skip) n8 [] [(false, .bool)] x = g_law10_live := by kernel_rfl
theorem c8 : Contract Try.prog 8 [] [(false, .bool)] (fun x => g_law10_live) := evalF_contract tabOK mixed h8 Try.func8 (body := Try.f8.body.getD .skip) (by kernel_rfl) (by kernel_rfl) e8

noncomputable def s3 : List (Nat × Callee) := [(8, .sem [] [(false, .bool)] fun x => g_law10_live),
  (9, .sem [(false, (.sl (.int .u8))), (true, (.arr 6 (.int .i64)))] [(true, (.pair (.int .i64) (.pair (.arr 6 (.int .i64)) (.arr 16 (.int .i64))))), (false, (.int .i64))] fun x => g_frame_Read x.1 x.2),
  (10, .sem [(true, (.pair (.int .i64) (.pair (.arr 6 (.int .i64)) (.arr 16 (.int .i64))))), (true, (.arr 6 (.int .i64)))] [(false, (.sl (.int .u8))), (false, (.int .i64))] fun x => g_frame_Write x.1 x.2),
  (11, .sem [(true, (.pair (.int .i64) (.pair (.arr 6 (.int .i64)) (.arr 16 (.int .i64))))), (true, (.arr 6 (.int .i64)))] [(false, (.int .i64))] fun x => g_frame_Check x.1 x.2),
  (12, .sem [(true, (.arr 16 (.int .i64))), (true, (.arr 6 (.int .i64)))] [(false, .bool)] fun x => g_quant_May x.1 x.2)]
theorem h3 : HOK Try.prog (handler tab s3 8) := handler_sound tabOK mixed (callsOK_get (l := s3) ⟨c8, c9, c10, c11, c12, trivial⟩) 8
def n3 : Ann := .no
theorem e3 (x : denL [(false, (.sl (.int .u8))), (true, (.arr 6 (.int .i64)))]) : evalF tab s3 8 Try.f3 (Try.f3.body.getD .skip) n3 [(false, (.sl (.int .u8))), (true, (.arr 6 (.int .i64)))] [(false, .bool)] x = g_law10_FrameOne x.1 x.2 := by kernel_rfl
theorem c3 : Contract Try.prog 3 [(false, (.sl (.int .u8))), (true, (.arr 6 (.int .i64)))] [(false, .bool)] (fun x => g_law10_FrameOne x.1 x.2) := evalF_contract tabOK mixed h3 Try.func3 (body := Try.f3.body.getD .skip) (by kernel_rfl) (by kernel_rfl) e3

noncomputable def s4 : List (Nat × Callee) := [(8, .sem [] [(false, .bool)] fun x => g_law10_live),
  (10, .sem [(true, (.pair (.int .i64) (.pair (.arr 6 (.int .i64)) (.arr 16 (.int .i64))))), (true, (.arr 6 (.int .i64)))] [(false, (.sl (.int .u8))), (false, (.int .i64))] fun x => g_frame_Write x.1 x.2)]
theorem h4 : HOK Try.prog (handler tab s4 8) := handler_sound tabOK mixed (callsOK_get (l := s4) ⟨c8, c10, trivial⟩) 8
def n4 : Ann := (.seq .no (.seq .no (.seq .no (.seq .no (.seq .no (.seq (.seq (.join [(.normal, [.keep 3 3, .keep 4 4, .slot 7 false .bool, .slot 8 false (.sl (.int .u8)), .slot 10 false (.sl (.int .u8)), .slot 32 false .bool, .obj 3 (.pair (.int .i64) (.pair (.arr 6 (.int .i64)) (.arr 16 (.int .i64)))), .obj 4 (.pair (.int .i64) (.pair (.arr 6 (.int .i64)) (.arr 16 (.int .i64))))])] .no) .no) (.seq (.draw [0, 1, 2, 3, 4, 5, 6, 7, 8, 9, 10, 11, 12]) .no)))))))
theorem e4 (x : denL [(true, (.pair (.int .i64) (.pair (.arr 6 (.int .i64)) (.arr 16 (.int .i64))))), (true, (.pair (.int .i64) (.pair (.arr 6 (.int .i64)) (.arr 16 (.int .i64))))), (true, (.arr 6 (.int .i64)))]) : evalF tab s4 8 Try.f4 (Try.f4.body.getD .skip) n4 [(true, (.pair (.int .i64) (.pair (.arr 6 (.int .i64)) (.arr 16 (.int .i64))))), (true, (.pair (.int .i64) (.pair (.arr 6 (.int .i64)) (.arr 16 (.int .i64))))), (true, (.arr 6 (.int .i64)))] [(false, .bool)] x = g_law10_FrameApart x.1 x.2.1 x.2.2 := by kernel_rfl
theorem c4 : Contract Try.prog 4 [(true, (.pair (.int .i64) (.pair (.arr 6 (.int .i64)) (.arr 16 (.int .i64))))), (true, (.pair (.int .i64) (.pair (.arr 6 (.int .i64)) (.arr 16 (.int .i64))))), (true, (.arr 6 (.int .i64)))] [(false, .bool)] (fun x => g_law10_FrameApart x.1 x.2.1 x.2.2) := evalF_contract tabOK mixed h4 Try.func4 (body := Try.f4.body.getD .skip) (by kernel_rfl) (by kernel_rfl) e4

noncomputable def s5 : List (Nat × Callee) := [(8, .sem [] [(false, .bool)] fun x => g_law10_live),
  (9, .sem [(false, (.sl (.int .u8))), (true, (.arr 6 (.int .i64)))] [(true, (.pair (.int .i64) (.pair (.arr 6 (.int .i64)) (.arr 16 (.int .i64))))), (false, (.int .i64))] fun x => g_frame_Read x.1 x.2),
  (10, .sem [(true, (.pair (.int .i64) (.pair (.arr 6 (.int .i64)) (.arr 16 (.int .i64))))), (true, (.arr 6 (.int .i64)))] [(false, (.sl (.int .u8))), (false, (.int .i64))] fun x => g_frame_Write x.1 x.2),
  (13, .sem [(true, (.arr 6 (.int .i64))), (true, (.arr 6 (.int .i64)))] [(false, .bool)] fun x => g_frame_Near x.1 x.2)]
theorem h5 : HOK Try.prog (handler tab s5 8) := handler_sound tabOK mixed (callsOK_get (l := s5) ⟨c8, c9, c10, c13, trivial⟩) 8
def n5 : Ann := (.seq .no (.seq .no (.seq .no (.seq .no (.seq .no (.seq .no (.seq (.seq (.join [(.normal, [.keep 3 3, .keep 4 4, .keep 5 5, .slot 7 false .bool, .slot 8 false (.sl (.int .u8)), .keep 16 16, .slot 36 false .bool, .obj 16 (.pair (.int .i64) (.pair (.arr 6 (.int .i64)) (.arr 16 (.int .i64)))), .obj 4 (.arr 6 (.int .i64)), .obj 5 (.arr 6 (.int .i64))])] .no) .no) (.seq .no (.seq .no (.seq (.seq .no (.blk (.loop [.keep 3 3, .keep 4 4, .keep 5 5, .slot 7 false .bool, .keep 10 10, .keep 16 16, .slot 51 false (.int .i64), .obj 16 (.pair (.int .i64) (.pair (.arr 6 (.int .i64)) (.arr 16 (.int .i64)))), .obj 4 (.arr 6 (.int .i64)), .obj 5 (.arr 6 (.int .i64)), .obj 10 (.pair (.int .i64) (.pair (.arr 6 (.int .i64)) (.arr 16 (.int .i64))))] [(.exit 0, [.slot 7 false .bool, .keep 10 10, .obj 10 (.pair (.int .i64) (.pair (.arr 6 (.int .i64)) (.arr 16 (.int .i64))))]), (.ret, [.slot 6 false .bool])] (.seq .no (.seq .no (.seq (.blk (.seq .no (.seq (.draw [0, 1, 2, 3, 4, 5, 6, 7, 8, 9, 10, 11, 12, 13, 14, 15, 16]) .no))) .no)))))) .no))))))))))
theorem e5 (x : denL [(true, (.pair (.int .i64) (.pair (.arr 6 (.int .i64)) (.arr 16 (.int .i64))))), (true, (.arr 6 (.int .i64))), (true, (.arr 6 (.int .i64)))]) : evalF tab s5 8 Try.f5 (Try.f5.body.getD .skip) n5 [(true, (.pair (.int .i64) (.pair (.arr 6 (.int .i64)) (.arr 16 (.int .i64))))), (true, (.arr 6 (.int .i64))), (true, (.arr 6 (.int .i64)))] [(false, .bool)] x = g_law10_FrameDeltas x.1 x.2.1 x.2.2 := by kernel_rfl
theorem c5 : Contract Try.prog 5 [(true, (.pair (.int .i64) (.pair (.arr 6 (.int .i64)) (.arr 16 (.int .i64))))), (true, (.arr 6 (.int .i64))), (true, (.arr 6 (.int .i64)))] [(false, .bool)] (fun x => g_law10_FrameDeltas x.1 x.2.1 x.2.2) := evalF_contract tabOK mixed h5 Try.func5 (body := Try.f5.body.getD .skip) (by kernel_rfl) (by kernel_rfl) e5

def n20_14 : Ann := (.join [(.ret, [.slot 0 false (.sl (.int .u8)), .nbox 2 (.pair (.pair (.int .u32) (.pair (.int .u32) (.pair (.int .u32) (.pair (.pair (.sl (.int .u8)) (.int .i64)) (.int .i64))))) (.int .i64))])] .no)
def n21_14 : Ann := (.seq .no (.seq (.seq .no (.cond (.draw [0, 1, 2, 3, 4, 5, 6, 7, 8, 9, 10, 11, 12, 13, 14, 15, 16, 17, 18, 19, 20]) .no)) .no))
noncomputable def s14 : List (Nat × Callee) := [(20, .inl Try.f20 (Try.f20.body.getD .skip) n20_14),
  (21, .inl Try.f21 (Try.f21.body.getD .skip) n21_14),
  (25, .sem [] [(true, (.sl (.int .i64)))] fun x => g_frame_kinds),
  (36, .sem [(true, (.pair (.sl (.int .u8)) (.int .i64)))] [(true, (.pair (.int .u32) (.pair (.int .u32) (.pair (.int .u32) (.pair (.pair (.sl (.int .u8)) (.int .i64)) (.int .i64)))))), (false, (.int .i64))] fun x => g_coder_Start x),
  (37, .sem [(false, (.sl (.int .u8)))] [(true, (.pair (.sl (.int .u8)) (.int .i64)))] fun x => g_bits_Of x),
  (38, .sem [(true, (.pair (.int .u32) (.pair (.int .u32) (.pair (.int .u32) (.pair (.pair (.sl (.int .u8)) (.int .i64)) (.int .i64)))))), (true, (.sl (.int .i64)))] [(true, (.pair (.int .u32) (.pair (.int .u32) (.pair (.int .u32) (.pair (.pair (.sl (.int .u8)) (.int .i64)) (.int .i64)))))), (false, (.int .i64)), (false, (.int .i64))] fun x => g_coder_Next x.1 x.2)]
theorem h14 : HOK Try.prog (handler tab s14 8) := handler_sound tabOK mixed (callsOK_get (l := s14) ⟨⟨Try.func20, by kernel_rfl, by kernel_rfl⟩, ⟨Try.func21, by kernel_rfl, by kernel_rfl⟩, c25, c36, c37, c38, trivial⟩) 8
def n14 : Ann := (.seq .no (.seq .no (.seq (.seq (.join [(.normal, [.keep 4 4, .slot 14 false .bool, .obj 4 (.int .i64)])] .no) .no) .no)))
theorem e14 (x : denL [(false, (.sl (.int .u8)))]) : evalF tab s14 8 Try.f14 (Try.f14.body.getD .skip) n14 [(false, (.sl (.int .u8)))] [(false, (.int .i64)), (false, (.int .i64))] x = g_frame_Kind x := by kernel_rfl
theorem c14 : Contract Try.prog 14 [(false, (.sl (.int .u8)))] [(false, (.int .i64)), (false, (.int .i64))] (fun x => g_frame_Kind x) := evalF_contract tabOK mixed h14 Try.func14 (body := Try.f14.body.getD .skip) (by kernel_rfl) (by kernel_rfl) e14

noncomputable def s6 : List (Nat × Callee) := [(8, .sem [] [(false, .bool)] fun x => g_law10_live),
  (9, .sem [(false, (.sl (.int .u8))), (true, (.arr 6 (.int .i64)))] [(true, (.pair (.int .i64) (.pair (.arr 6 (.int .i64)) (.arr 16 (.int .i64))))), (false, (.int .i64))] fun x => g_frame_Read x.1 x.2),
  (10, .sem [(true, (.pair (.int .i64) (.pair (.arr 6 (.int .i64)) (.arr 16 (.int .i64))))), (true, (.arr 6 (.int .i64)))] [(false, (.sl (.int .u8))), (false, (.int .i64))] fun x => g_frame_Write x.1 x.2),
  (14, .sem [(false, (.sl (.int .u8)))] [(false, (.int .i64)), (false, (.int .i64))] fun x => g_frame_Kind x)]
theorem h6 : HOK Try.prog (handler tab s6 8) := handler_sound tabOK mixed (callsOK_get (l := s6) ⟨c8, c9, c10, c14, trivial⟩) 8
def n6 : Ann := (.seq .no (.seq .no (.seq .no (.seq .no (.seq .no (.seq .no (.seq .no (.seq (.seq (.join [(.normal, [.slot 2 false (.int .u8), .keep 3 3, .keep 4 4, .slot 7 false .bool, .slot 8 false (.sl (.int .u8)), .slot 76 false .bool, .obj 3 (.pair (.int .i64) (.pair (.arr 6 (.int .i64)) (.arr 16 (.int .i64)))), .obj 4 (.arr 6 (.int .i64))])] .no) .no) (.seq (.draw [0, 1, 2, 3, 4, 5, 6, 7, 8, 9, 10, 11, 12]) (.seq (.draw [0, 1, 2, 3, 4, 5, 6, 7, 8, 9, 10, 11, 12]) .no))))))))))
theorem e6 (x : denL [(true, (.pair (.int .i64) (.pair (.arr 6 (.int .i64)) (.arr 16 (.int .i64))))), (true, (.arr 6 (.int .i64))), (false, (.int .u8))]) : evalF tab s6 8 Try.f6 (Try.f6.body.getD .skip) n6 [(true, (.pair (.int .i64) (.pair (.arr 6 (.int .i64)) (.arr 16 (.int .i64))))), (true, (.arr 6 (.int .i64))), (false, (.int .u8))] [(false, .bool)] x = g_law10_FrameBack x.1 x.2.1 x.2.2 := by kernel_rfl
theorem c6 : Contract Try.prog 6 [(true, (.pair (.int .i64) (.pair (.arr 6 (.int .i64)) (.arr 16 (.int .i64))))), (true, (.arr 6 (.int .i64))), (false, (.int .u8))] [(false, .bool)] (fun x => g_law10_FrameBack x.1 x.2.1 x.2.2) := evalF_contract tabOK mixed h6 Try.func6 (body := Try.f6.body.getD .skip) (by kernel_rfl) (by kernel_rfl) e6

noncomputable def s15 : List (Nat × Callee) := [(11, .sem [(true, (.pair (.int .i64) (.pair (.arr 6 (.int .i64)) (.arr 16 (.int .i64))))), (true, (.arr 6 (.int .i64)))] [(false, (.int .i64))] fun x => g_frame_Check x.1 x.2),
  (23, .sem [(true, (.pair (.int .i64) (.pair (.arr 6 (.int .i64)) (.arr 16 (.int .i64))))), (true, (.arr 6 (.int .i64)))] [(false, (.sl (.int .i64))), (false, (.sl (.sl (.int .i64))))] fun x => g_frame_symbols x.1 x.2)]
theorem h15 : HOK Try.prog (handler tab s15 8) := handler_sound tabOK mixed (callsOK_get (l := s15) ⟨c11, c23, trivial⟩) 8
def n15 : Ann := (.seq .no (.seq (.seq (.join [(.normal, [.keep 1 1, .slot 15 false .bool, .obj 1 (.pair (.int .i64) (.pair (.arr 6 (.int .i64)) (.arr 16 (.int .i64))))])] .no) .no) .no))
theorem e15 (x : denL [(true, (.pair (.int .i64) (.pair (.arr 6 (.int .i64)) (.arr 16 (.int .i64)))))]) : evalF tab s15 8 Try.f15 (Try.f15.body.getD .skip) n15 [(true, (.pair (.int .i64) (.pair (.arr 6 (.int .i64)) (.arr 16 (.int .i64)))))] [(false, (.sl (.sl (.int .i64)))), (false, (.sl (.int .i64))), (false, (.int .i64))] x = g_frame_Tables x := by kernel_rfl
theorem c15 : Contract Try.prog 15 [(true, (.pair (.int .i64) (.pair (.arr 6 (.int .i64)) (.arr 16 (.int .i64)))))] [(false, (.sl (.sl (.int .i64)))), (false, (.sl (.int .i64))), (false, (.int .i64))] (fun x => g_frame_Tables x) := evalF_contract tabOK mixed h15 Try.func15 (body := Try.f15.body.getD .skip) (by kernel_rfl) (by kernel_rfl) e15

noncomputable def s7 : List (Nat × Callee) := [(8, .sem [] [(false, .bool)] fun x => g_law10_live),
  (10, .sem [(true, (.pair (.int .i64) (.pair (.arr 6 (.int .i64)) (.arr 16 (.int .i64))))), (true, (.arr 6 (.int .i64)))] [(false, (.sl (.int .u8))), (false, (.int .i64))] fun x => g_frame_Write x.1 x.2),
  (15, .sem [(true, (.pair (.int .i64) (.pair (.arr 6 (.int .i64)) (.arr 16 (.int .i64)))))] [(false, (.sl (.sl (.int .i64)))), (false, (.sl (.int .i64))), (false, (.int .i64))] fun x => g_frame_Tables x),
  (16, .sem [(false, (.sl (.int .i64))), (false, (.sl (.sl (.int .i64))))] [(true, (.pair (.sl (.int .u8)) (.int .i64))), (false, (.int .i64))] fun x => g_coder_All x.1 x.2),
  (17, .sem [(true, (.sl (.int .i64))), (false, (.int .i64))] [(false, (.int .i64)), (false, (.int .i64)), (false, (.int .i64))] fun x => g_freq_Span x.1 x.2)]
theorem h7 : HOK Try.prog (handler tab s7 8) := handler_sound tabOK mixed (callsOK_get (l := s7) ⟨c8, c10, c15, c16, c17, trivial⟩) 8
def n7 : Ann := (.seq .no (.seq .no (.seq .no (.seq .no (.seq .no (.seq .no (.seq .no (.seq (.seq (.join [(.normal, [.keep 1 1, .slot 3 false .bool, .slot 4 false (.sl (.sl (.int .i64))), .slot 5 false (.sl (.int .i64)), .slot 78 false .bool, .obj 1 (.pair (.int .i64) (.pair (.arr 6 (.int .i64)) (.arr 16 (.int .i64))))])] .no) .no) (.seq (.seq .no (.blk (.loop [.keep 1 1, .slot 3 false .bool, .slot 4 false (.sl (.sl (.int .i64))), .slot 5 false (.sl (.int .i64)), .slot 79 false (.sl (.int .i64)), .slot 80 false (.int .i64), .slot 81 false (.int .i64), .obj 1 (.pair (.int .i64) (.pair (.arr 6 (.int .i64)) (.arr 16 (.int .i64))))] [(.exit 0, [.keep 1 1, .slot 3 false .bool, .slot 5 false (.sl (.int .i64)), .obj 1 (.pair (.int .i64) (.pair (.arr 6 (.int .i64)) (.arr 16 (.int .i64))))]), (.ret, [.slot 2 false .bool])] .no))) (.seq (.draw [0, 1, 2, 3, 4, 5, 6, 7, 8, 9]) .no))))))))))
theorem e7 (x : denL [(true, (.pair (.int .i64) (.pair (.arr 6 (.int .i64)) (.arr 16 (.int .i64)))))]) : evalF tab s7 8 Try.f7 (Try.f7.body.getD .skip) n7 [(true, (.pair (.int .i64) (.pair (.arr 6 (.int .i64)) (.arr 16 (.int .i64)))))] [(false, .bool)] x = g_law10_FrameTables x := by kernel_rfl
theorem c7 : Contract Try.prog 7 [(true, (.pair (.int .i64) (.pair (.arr 6 (.int .i64)) (.arr 16 (.int .i64)))))] [(false, .bool)] (fun x => g_law10_FrameTables x) := evalF_contract tabOK mixed h7 Try.func7 (body := Try.f7.body.getD .skip) (by kernel_rfl) (by kernel_rfl) e7

end Go.Rx
