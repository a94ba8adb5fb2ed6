/- Parts of a proof: evaluation of Go code over typed values, and what it computes. -/
import Derived.Test.YtdjhfpaeejpebaaX3
import Derived.Test.YtdjhfpaeejpebaaF
import Derived.KernelRfl
import Derived.Test.YtdjhfpaeejpebaaProg
set_option linter.unusedSimpArgs false
set_option linter.unusedVariables false
set_option linter.unusedSectionVars false
/- Each function does what its function of plain values says: checked by the kernel. Printed by a program of ours. -/
set_option linter.unusedVariables false
set_option maxRecDepth 100000
namespace Go.Rx
open Go.Proofs Go.Sq

def tab : Tab := [
  (3, { td := .int .i64, size := 1, bytes := 8, ty := some (.int .i64), zc := [.int .i64 0] }),
  (4, { td := .bool, size := 1, bytes := 1, ty := some .bool, zc := [.bool false] }),
  (5, { td := .int .u8, size := 1, bytes := 1, ty := some (.int .u8), zc := [.int .u8 0] }),
  (9, { td := .str, size := 1, bytes := 16, ty := some .str, zc := [.str ByteArray.empty] }),
  (22, { td := .int .u32, size := 1, bytes := 4, ty := some (.int .u32), zc := [.int .u32 0] }),
  (23, { td := .sl 5, size := 1, bytes := 24, ty := some (.sl (.int .u8)), zc := [.nilsl] }),
  (25, { td := .st [(0, 23), (1, 3)], size := 2, bytes := 32, ty := some (.pair (.sl (.int .u8)) (.int .i64)), zc := [.nilsl, .int .i64 0] }),
  (27, { td := .st [(0, 22), (1, 22), (2, 3), (3, 25)], size := 5, bytes := 48, ty := some (.pair (.int .u32) (.pair (.int .u32) (.pair (.int .i64) (.pair (.sl (.int .u8)) (.int .i64))))), zc := [.int .u32 0, .int .u32 0, .int .i64 0, .nilsl, .int .i64 0] }),
  (28, { td := .sl 3, size := 1, bytes := 24, ty := some (.sl (.int .i64)), zc := [.nilsl] }),
  (30, { td := .st [(0, 28)], size := 1, bytes := 24, ty := some (.sl (.int .i64)), zc := [.nilsl] }),
  (33, { td := .sl 30, size := 1, bytes := 24, ty := some (.sl (.sl (.int .i64))), zc := [.nilsl] }),
  (35, { td := .int .i64, size := 1, bytes := 8, ty := some (.int .i64), zc := [.int .i64 0] }),
  (45, { td := .st [(0, 22), (1, 22), (2, 22), (3, 25), (5, 3)], size := 6, bytes := 56, ty := some (.pair (.int .u32) (.pair (.int .u32) (.pair (.int .u32) (.pair (.pair (.sl (.int .u8)) (.int .i64)) (.int .i64))))), zc := [.int .u32 0, .int .u32 0, .int .u32 0, .nilsl, .int .i64 0, .int .i64 0] }),
  (62, { td := .int .u64, size := 1, bytes := 8, ty := some (.int .u64), zc := [.int .u64 0] }),
  (70, { td := .ptr 78, size := 1, bytes := 8, ty := none, zc := [.nilp] }),
  (74, { td := .int .u64, size := 1, bytes := 8, ty := some (.int .u64), zc := [.int .u64 0] }),
  (76, { td := .st [(0, 74), (1, 74)], size := 2, bytes := 16, ty := some (.pair (.int .u64) (.int .u64)), zc := [.int .u64 0, .int .u64 0] }),
  (78, { td := .st [(0, 76), (2, 3), (3, 25), (5, 35)], size := 6, bytes := 64, ty := some (.pair (.pair (.int .u64) (.int .u64)) (.pair (.int .i64) (.pair (.pair (.sl (.int .u8)) (.int .i64)) (.int .i64)))), zc := [.int .u64 0, .int .u64 0, .int .i64 0, .nilsl, .int .i64 0, .int .i64 0] }),
  (90, { td := .sl 25, size := 1, bytes := 24, ty := some (.sl (.pair (.sl (.int .u8)) (.int .i64))), zc := [.nilsl] }),
  (94, { td := .ptr 76, size := 1, bytes := 8, ty := none, zc := [.nilp] })]

theorem tabOK : TabOK Try.prog tab := chkTab_sound (by kernel_rfl)
theorem mixed : Try.prog.follows .mixedOrders = true := by kernel_rfl

def n38 : Ann := (.seq .no (.seq .no (.seq (.join [(.normal, [.slot 0 true (.pair (.int .u32) (.pair (.int .u32) (.pair (.int .i64) (.pair (.sl (.int .u8)) (.int .i64))))), .keep 2 4, .slot 3 false .bool, .keep 4 4, .keep 17 17, .obj 17 (.pair (.pair (.int .u64) (.int .u64)) (.pair (.int .i64) (.pair (.pair (.sl (.int .u8)) (.int .i64)) (.int .i64))))])] .no) .no)))

def n39 : Ann := (.seq (.draw [0, 1, 2, 3, 4, 5, 6, 7, 8, 9, 10]) (.seq (.draw [0, 1, 2, 3, 4, 5, 6, 7, 8, 9, 10, 11, 12, 13, 14, 15, 16]) (.draw [0, 1, 2, 3, 4, 5, 6, 7, 8, 9, 10, 11, 12, 13, 14])))

def n40 : Ann := (.blk (.loop [.keep 0 0, .obj 0 (.pair (.pair (.int .u64) (.int .u64)) (.pair (.int .i64) (.pair (.pair (.sl (.int .u8)) (.int .i64)) (.int .i64))))] [(.exit 0, [.keep 0 0, .obj 0 (.pair (.pair (.int .u64) (.int .u64)) (.pair (.int .i64) (.pair (.pair (.sl (.int .u8)) (.int .i64)) (.int .i64))))]), (.ret, [.keep 0 0, .obj 0 (.pair (.pair (.int .u64) (.int .u64)) (.pair (.int .i64) (.pair (.pair (.sl (.int .u8)) (.int .i64)) (.int .i64))))])] (.seq .no (.blk (.seq .no (.seq (.join [(.normal, [.keep 0 0, .slot 2 false (.int .u64), .keep 4 4, .keep 5 5, .keep 10 10, .keep 11 11, .keep 12 12, .obj 12 (.pair (.pair (.int .u64) (.int .u64)) (.pair (.int .i64) (.pair (.pair (.sl (.int .u8)) (.int .i64)) (.int .i64))))]), (.ret, [.keep 0 0, .keep 4 4, .keep 5 5, .keep 10 10, .keep 11 11, .keep 12 12, .obj 12 (.pair (.pair (.int .u64) (.int .u64)) (.pair (.int .i64) (.pair (.pair (.sl (.int .u8)) (.int .i64)) (.int .i64))))])] .no) .no))))))

def n47 : Ann := (.seq (.seq (.draw [0, 1, 2, 3, 4, 5, 6, 7, 8, 9, 10, 11]) .no) (.seq .no (.seq (.seq .no (.blk (.loop [.keep 0 0, .slot 1 false (.int .u64), .slot 4 false (.int .i64), .keep 6 6, .keep 7 7, .keep 11 11, .keep 12 12, .keep 22 22, .keep 23 23, .keep 24 24, .keep 25 25, .keep 32 32, .keep 34 34, .keep 36 36, .keep 37 37, .obj 37 (.pair (.pair (.int .u64) (.int .u64)) (.pair (.int .i64) (.pair (.pair (.own (.int .u8)) (.int .i64)) (.int .i64))))] [(.exit 0, [.keep 0 0, .slot 1 false (.int .u64), .keep 6 6, .keep 7 7, .keep 11 11, .keep 12 12, .keep 22 22, .keep 23 23, .keep 24 24, .keep 25 25, .keep 32 32, .keep 34 34, .keep 36 36, .keep 37 37, .obj 37 (.pair (.pair (.int .u64) (.int .u64)) (.pair (.int .i64) (.pair (.pair (.own (.int .u8)) (.int .i64)) (.int .i64))))])] (.seq (.seq (.join [(.normal, [.keep 0 0, .slot 1 false (.int .u64), .slot 4 false (.int .i64), .keep 6 6, .keep 7 7, .keep 11 11, .keep 12 12, .keep 22 22, .keep 23 23, .keep 24 24, .keep 25 25, .keep 32 32, .keep 34 34, .keep 36 36, .keep 37 37, .slot 48 false .bool, .obj 37 (.pair (.pair (.int .u64) (.int .u64)) (.pair (.int .i64) (.pair (.pair (.own (.int .u8)) (.int .i64)) (.int .i64))))])] .no) .no) (.seq (.blk (.seq .no (.draw [0, 1, 2, 3, 4, 5, 6, 7, 8, 9, 10, 11, 12, 13, 14, 15, 16, 17, 18, 19, 20, 21, 22]))) .no))))) .no)))

def n51 : Ann := (.draw [0, 1, 2, 3, 4, 5, 6, 7, 8, 9, 10, 11, 12, 13, 14, 15, 16, 17, 18, 19, 20, 21, 22])

noncomputable def s19 : List (Nat × Callee) := []
theorem h19 : HOK Try.prog (handler tab s19 8) := handler_sound tabOK mixed (callsOK_get (l := s19) trivial) 8
def n19 : Ann := .no
theorem e19 (x : denL []) : evalF tab s19 8 Try.f19 (Try.f19.body.getD .skip) n19 [] [(true, (.pair (.int .u32) (.pair (.int .u32) (.pair (.int .i64) (.pair (.sl (.int .u8)) (.int .i64))))))] x = g_coder_Begin := by kernel_rfl
theorem c19 : Contract Try.prog 19 [] [(true, (.pair (.int .u32) (.pair (.int .u32) (.pair (.int .i64) (.pair (.sl (.int .u8)) (.int .i64))))))] (fun x => g_coder_Begin) := evalF_contract tabOK mixed h19 Try.func19 (body := Try.f19.body.getD .skip) (by kernel_rfl) (by kernel_rfl) e19

noncomputable def s50 : List (Nat × Callee) := []
theorem h50 : HOK Try.prog (handler tab s50 8) := handler_sound tabOK mixed (callsOK_get (l := s50) trivial) 8
def n50 : Ann := (.seq .no (.seq (.blk (.seq .no (.cond .no (.seq .no (.cond .no (.seq (.join [(.normal, [.slot 12 false .bool])] .no) .no)))))) .no))
theorem e50 (x : denL [(true, (.pair (.int .u64) (.int .u64)))]) : evalF tab s50 8 Try.f50 (Try.f50.body.getD .skip) n50 [(true, (.pair (.int .u64) (.int .u64)))] [(false, (.int .u64)), (false, (.int .i64))] x = g_coder_interval_move x := by kernel_rfl
theorem c50 : Contract Try.prog 50 [(true, (.pair (.int .u64) (.int .u64)))] [(false, (.int .u64)), (false, (.int .i64))] (fun x => g_coder_interval_move x) := evalF_contract tabOK mixed h50 Try.func50 (body := Try.f50.body.getD .skip) (by kernel_rfl) (by kernel_rfl) e50

noncomputable def s48 : List (Nat × Callee) := [(50, .sem [(true, (.pair (.int .u64) (.int .u64)))] [(false, (.int .u64)), (false, (.int .i64))] fun x => g_coder_interval_move x)]
theorem h48 : HOK Try.prog (handler tab s48 8) := handler_sound tabOK mixed (callsOK_get (l := s48) ⟨c50, trivial⟩) 8
def n48 : Ann := .no
theorem e48 (x : denL [(true, (.pair (.int .u64) (.int .u64)))]) : evalF tab s48 8 Try.f48 (Try.f48.body.getD .skip) n48 [(true, (.pair (.int .u64) (.int .u64)))] [(false, .bool)] x = g_coder_interval_good x := by kernel_rfl
theorem c48 : Contract Try.prog 48 [(true, (.pair (.int .u64) (.int .u64)))] [(false, .bool)] (fun x => g_coder_interval_good x) := evalF_contract tabOK mixed h48 Try.func48 (body := Try.f48.body.getD .skip) (by kernel_rfl) (by kernel_rfl) e48

noncomputable def s31 : List (Nat × Callee) := []
theorem h31 : HOK Try.prog (handler tab s31 8) := handler_sound tabOK mixed (callsOK_get (l := s31) trivial) 8
def n31 : Ann := (.seq .no (.seq (.seq (.join [(.normal, [.keep 1 1, .slot 21 false .bool, .obj 1 (.pair (.sl (.int .u8)) (.int .i64))])] .no) .no) (.seq (.seq .no (.seq (.join [(.normal, [.slot 39 false .bool])] .no) .no)) .no)))
theorem e31 (x : denL [(true, (.pair (.sl (.int .u8)) (.int .i64)))]) : evalF tab s31 8 Try.f31 (Try.f31.body.getD .skip) n31 [(true, (.pair (.sl (.int .u8)) (.int .i64)))] [(false, (.int .i64))] x = g_bits_Check x := by kernel_rfl
theorem c31 : Contract Try.prog 31 [(true, (.pair (.sl (.int .u8)) (.int .i64)))] [(false, (.int .i64))] (fun x => g_bits_Check x) := evalF_contract tabOK mixed h31 Try.func31 (body := Try.f31.body.getD .skip) (by kernel_rfl) (by kernel_rfl) e31

noncomputable def s58 : List (Nat × Callee) := []
theorem h58 : HOK Try.prog (handler tab s58 8) := handler_sound tabOK mixed (callsOK_get (l := s58) trivial) 8
def n58 : Ann := .no
theorem e58 (x : denL [(true, (.sl (.int .i64)))]) : evalF tab s58 8 Try.f58 (Try.f58.body.getD .skip) n58 [(true, (.sl (.int .i64)))] [(false, (.int .i64))] x = g_freq_last x := by kernel_rfl
theorem c58 : Contract Try.prog 58 [(true, (.sl (.int .i64)))] [(false, (.int .i64))] (fun x => g_freq_last x) := evalF_contract tabOK mixed h58 Try.func58 (body := Try.f58.body.getD .skip) (by kernel_rfl) (by kernel_rfl) e58

noncomputable def s32 : List (Nat × Callee) := [(58, .sem [(true, (.sl (.int .i64)))] [(false, (.int .i64))] fun x => g_freq_last x)]
theorem h32 : HOK Try.prog (handler tab s32 8) := handler_sound tabOK mixed (callsOK_get (l := s32) ⟨c58, trivial⟩) 8
def n32 : Ann := (.seq .no (.seq (.seq (.join [(.normal, [.keep 1 1, .slot 26 false .bool, .obj 1 (.sl (.int .i64))])] .no) .no) (.seq (.seq .no (.blk (.loop [.keep 1 1, .keep 27 27, .slot 29 false (.sl (.int .i64)), .slot 30 false (.int .i64), .slot 31 false (.int .i64), .obj 27 (.sl (.int .i64))] [(.exit 0, []), (.ret, [.slot 2 false (.int .i64)])] .no))) .no)))
theorem e32 (x : denL [(true, (.sl (.int .i64)))]) : evalF tab s32 8 Try.f32 (Try.f32.body.getD .skip) n32 [(true, (.sl (.int .i64)))] [(false, (.int .i64))] x = g_freq_Check x := by kernel_rfl
theorem c32 : Contract Try.prog 32 [(true, (.sl (.int .i64)))] [(false, (.int .i64))] (fun x => g_freq_Check x) := evalF_contract tabOK mixed h32 Try.func32 (body := Try.f32.body.getD .skip) (by kernel_rfl) (by kernel_rfl) e32

noncomputable def s33 : List (Nat × Callee) := [(32, .sem [(true, (.sl (.int .i64)))] [(false, (.int .i64))] fun x => g_freq_Check x)]
theorem h33 : HOK Try.prog (handler tab s33 8) := handler_sound tabOK mixed (callsOK_get (l := s33) ⟨c32, trivial⟩) 8
def n33 : Ann := (.seq .no (.seq (.seq (.join [(.normal, [.slot 1 false (.int .i64), .keep 2 2, .slot 21 false .bool, .obj 2 (.sl (.int .i64))])] .no) .no) (.seq (.draw [0, 1, 2, 3, 4, 5, 6, 7, 8, 9, 10, 11, 12, 13]) .no)))
theorem e33 (x : denL [(true, (.sl (.int .i64))), (false, (.int .i64))]) : evalF tab s33 8 Try.f33 (Try.f33.body.getD .skip) n33 [(true, (.sl (.int .i64))), (false, (.int .i64))] [(false, (.int .i64)), (false, (.int .i64)), (false, (.int .i64))] x = g_freq_Span x.1 x.2 := by kernel_rfl
theorem c33 : Contract Try.prog 33 [(true, (.sl (.int .i64))), (false, (.int .i64))] [(false, (.int .i64)), (false, (.int .i64)), (false, (.int .i64))] (fun x => g_freq_Span x.1 x.2) := evalF_contract tabOK mixed h33 Try.func33 (body := Try.f33.body.getD .skip) (by kernel_rfl) (by kernel_rfl) e33

noncomputable def s34 : List (Nat × Callee) := [(32, .sem [(true, (.sl (.int .i64)))] [(false, (.int .i64))] fun x => g_freq_Check x),
  (58, .sem [(true, (.sl (.int .i64)))] [(false, (.int .i64))] fun x => g_freq_last x)]
theorem h34 : HOK Try.prog (handler tab s34 8) := handler_sound tabOK mixed (callsOK_get (l := s34) ⟨c32, c58, trivial⟩) 8
def n34 : Ann := .no
theorem e34 (x : denL [(true, (.sl (.int .i64)))]) : evalF tab s34 8 Try.f34 (Try.f34.body.getD .skip) n34 [(true, (.sl (.int .i64)))] [(false, (.int .i64))] x = g_freq_Total x := by kernel_rfl
theorem c34 : Contract Try.prog 34 [(true, (.sl (.int .i64)))] [(false, (.int .i64))] (fun x => g_freq_Total x) := evalF_contract tabOK mixed h34 Try.func34 (body := Try.f34.body.getD .skip) (by kernel_rfl) (by kernel_rfl) e34

noncomputable def s76 : List (Nat × Callee) := []
theorem h76 : HOK Try.prog (handler tab s76 8) := handler_sound tabOK mixed (callsOK_get (l := s76) trivial) 8
def n76 : Ann := (.seq .no (.seq (.join [(.normal, [.slot 0 false (.int .u64), .slot 2 false (.int .i64)])] .no) (.seq (.join [(.normal, [.slot 0 false (.int .u64), .slot 2 false (.int .i64)])] .no) (.seq (.join [(.normal, [.slot 0 false (.int .u64), .slot 2 false (.int .i64)])] .no) .no))))
theorem e76 (x : denL [(false, (.int .u64))]) : evalF tab s76 8 Try.f76 (Try.f76.body.getD .skip) n76 [(false, (.int .u64))] [(false, (.int .i64))] x = g_math_bits_Len64 x := by kernel_rfl
theorem c76 : Contract Try.prog 76 [(false, (.int .u64))] [(false, (.int .i64))] (fun x => g_math_bits_Len64 x) := evalF_contract tabOK mixed h76 Try.func76 (body := Try.f76.body.getD .skip) (by kernel_rfl) (by kernel_rfl) e76

noncomputable def s71 : List (Nat × Callee) := [(76, .sem [(false, (.int .u64))] [(false, (.int .i64))] fun x => g_math_bits_Len64 x)]
theorem h71 : HOK Try.prog (handler tab s71 8) := handler_sound tabOK mixed (callsOK_get (l := s71) ⟨c76, trivial⟩) 8
def n71 : Ann := .no
theorem e71 (x : denL [(false, (.int .u64)), (false, (.int .i64))]) : evalF tab s71 8 Try.f71 (Try.f71.body.getD .skip) n71 [(false, (.int .u64)), (false, (.int .i64))] [(false, .bool)] x = g_bits_fits x.1 x.2 := by kernel_rfl
theorem c71 : Contract Try.prog 71 [(false, (.int .u64)), (false, (.int .i64))] [(false, .bool)] (fun x => g_bits_fits x.1 x.2) := evalF_contract tabOK mixed h71 Try.func71 (body := Try.f71.body.getD .skip) (by kernel_rfl) (by kernel_rfl) e71

noncomputable def s62 : List (Nat × Callee) := []
theorem h62 : HOK Try.prog (handler tab s62 8) := handler_sound tabOK mixed (callsOK_get (l := s62) trivial) 8
def n62 : Ann := .no
theorem e62n : evalA tab s62 8 Try.f62 (Try.f62.body.getD .skip) n62 [.nilsl] [(false, (.own (.int .u8)))] = g_slices_Clone_Sbyte_byte [] := by kernel_rfl
theorem e62v (l : List Int) : evalA tab s62 8 Try.f62 (Try.f62.body.getD .skip) n62 [.slv (.int .u8) l] [(false, (.own (.int .u8)))] = g_slices_Clone_Sbyte_byte l := by kernel_rfl
theorem c62 : Contract Try.prog 62 [(false, (.sl (.int .u8)))] [(false, (.own (.int .u8)))] g_slices_Clone_Sbyte_byte := evalA_contract tabOK mixed h62 Try.func62 (body := Try.f62.body.getD .skip) (by kernel_rfl) (by kernel_rfl) rfl e62n e62v

noncomputable def s59 : List (Nat × Callee) := []
theorem h59 : HOK Try.prog (handler tab s59 8) := handler_sound tabOK mixed (callsOK_get (l := s59) trivial) 8
def n59 : Ann := (.seq .no (.seq (.blk (.loop [.slot 1 false (.int .u64), .slot 2 false (.int .i64), .keep 3 3, .keep 6 6, .obj 3 (.pair (.own (.int .u8)) (.int .i64)), .obj 6 (.pair (.own (.int .u8)) (.int .i64))] [(.exit 0, [.keep 3 3, .keep 6 6, .obj 3 (.pair (.own (.int .u8)) (.int .i64)), .obj 6 (.pair (.own (.int .u8)) (.int .i64))])] (.seq .no (.blk (.seq .no (.seq (.join [(.normal, [.slot 1 false (.int .u64), .slot 2 false (.int .i64), .keep 3 3, .keep 6 6, .slot 7 false (.int .i64), .obj 3 (.pair (.own (.int .u8)) (.int .i64)), .obj 6 (.pair (.own (.int .u8)) (.int .i64))])] .no) (.seq .no (.seq (.draw [0, 1, 2, 3, 4, 5, 6, 7, 8, 9, 10]) (.seq (.draw [0, 1, 2, 3, 4, 5, 6, 7, 8, 9, 10, 11, 12, 13, 14, 15]) .no))))))))) .no))
theorem e59 (x : denL [(true, (.pair (.own (.int .u8)) (.int .i64))), (false, (.int .u64)), (false, (.int .i64))]) : evalF tab s59 8 Try.f59 (Try.f59.body.getD .skip) n59 [(true, (.pair (.own (.int .u8)) (.int .i64))), (false, (.int .u64)), (false, (.int .i64))] [(true, (.pair (.own (.int .u8)) (.int .i64)))] x = g_bits_add x.1 x.2.1 x.2.2 := by kernel_rfl
theorem c59 : Contract Try.prog 59 [(true, (.pair (.own (.int .u8)) (.int .i64))), (false, (.int .u64)), (false, (.int .i64))] [(true, (.pair (.own (.int .u8)) (.int .i64)))] (fun x => g_bits_add x.1 x.2.1 x.2.2) := evalF_contract tabOK mixed h59 Try.func59 (body := Try.f59.body.getD .skip) (by kernel_rfl) (by kernel_rfl) e59

noncomputable def s65 : List (Nat × Callee) := [(31, .sem [(true, (.pair (.sl (.int .u8)) (.int .i64)))] [(false, (.int .i64))] fun x => g_bits_Check x),
  (59, .sem [(true, (.pair (.own (.int .u8)) (.int .i64))), (false, (.int .u64)), (false, (.int .i64))] [(true, (.pair (.own (.int .u8)) (.int .i64)))] fun x => g_bits_add x.1 x.2.1 x.2.2),
  (62, .sem [(false, (.sl (.int .u8)))] [(false, (.own (.int .u8)))] fun x => g_slices_Clone_Sbyte_byte x),
  (71, .sem [(false, (.int .u64)), (false, (.int .i64))] [(false, .bool)] fun x => g_bits_fits x.1 x.2)]
theorem h65 : HOK Try.prog (handler tab s65 8) := handler_sound tabOK mixed (callsOK_get (l := s65) ⟨c31, c59, c62, c71, trivial⟩) 8
def n65 : Ann := (.seq .no (.seq (.blk (.seq (.join [(.normal, [.slot 1 false (.int .u64), .slot 2 false (.int .i64), .keep 3 3, .keep 6 6, .slot 8 false .bool, .obj 3 (.pair (.sl (.int .u8)) (.int .i64)), .obj 6 (.pair (.own (.int .u8)) (.int .i64))])] .no) .no)) .no))
theorem e65 (x : denL [(true, (.pair (.sl (.int .u8)) (.int .i64))), (false, (.int .u64)), (false, (.int .i64))]) : evalF tab s65 8 Try.f65 (Try.f65.body.getD .skip) n65 [(true, (.pair (.sl (.int .u8)) (.int .i64))), (false, (.int .u64)), (false, (.int .i64))] [(true, (.pair (.own (.int .u8)) (.int .i64))), (false, (.int .i64))] x = g_bits_Put x.1 x.2.1 x.2.2 := by kernel_rfl
theorem c65 : Contract Try.prog 65 [(true, (.pair (.sl (.int .u8)) (.int .i64))), (false, (.int .u64)), (false, (.int .i64))] [(true, (.pair (.own (.int .u8)) (.int .i64))), (false, (.int .i64))] (fun x => g_bits_Put x.1 x.2.1 x.2.2) := evalF_contract tabOK mixed h65 Try.func65 (body := Try.f65.body.getD .skip) (by kernel_rfl) (by kernel_rfl) e65

noncomputable def s41 : List (Nat × Callee) := [(62, .sem [(false, (.sl (.int .u8)))] [(false, (.own (.int .u8)))] fun x => g_slices_Clone_Sbyte_byte x)]
theorem h41 : HOK Try.prog (handler tab s41 8) := handler_sound tabOK mixed (callsOK_get (l := s41) ⟨c62, trivial⟩) 8
def n41 : Ann := (.seq .no (.seq (.draw [0, 1, 2, 3, 4, 5, 6]) .no))
theorem e41 (x : denL [(true, (.pair (.sl (.int .u8)) (.int .i64)))]) : evalF tab s41 8 Try.f41 (Try.f41.body.getD .skip) n41 [(true, (.pair (.sl (.int .u8)) (.int .i64)))] [(true, (.pair (.own (.int .u8)) (.int .i64)))] x = g_coder_owned x := by kernel_rfl
theorem c41 : Contract Try.prog 41 [(true, (.pair (.sl (.int .u8)) (.int .i64)))] [(true, (.pair (.own (.int .u8)) (.int .i64)))] (fun x => g_coder_owned x) := evalF_contract tabOK mixed h41 Try.func41 (body := Try.f41.body.getD .skip) (by kernel_rfl) (by kernel_rfl) e41

noncomputable def s13 : List (Nat × Callee) := [(31, .sem [(true, (.pair (.sl (.int .u8)) (.int .i64)))] [(false, (.int .i64))] fun x => g_bits_Check x),
  (33, .sem [(true, (.sl (.int .i64))), (false, (.int .i64))] [(false, (.int .i64)), (false, (.int .i64)), (false, (.int .i64))] fun x => g_freq_Span x.1 x.2),
  (34, .sem [(true, (.sl (.int .i64)))] [(false, (.int .i64))] fun x => g_freq_Total x),
  (38, .inl Try.f38 (Try.f38.body.getD .skip) n38),
  (39, .inl Try.f39 (Try.f39.body.getD .skip) n39),
  (40, .inl Try.f40 (Try.f40.body.getD .skip) n40),
  (41, .sem [(true, (.pair (.sl (.int .u8)) (.int .i64)))] [(true, (.pair (.own (.int .u8)) (.int .i64)))] fun x => g_coder_owned x),
  (47, .inl Try.f47 (Try.f47.body.getD .skip) n47),
  (48, .sem [(true, (.pair (.int .u64) (.int .u64)))] [(false, .bool)] fun x => g_coder_interval_good x),
  (50, .sem [(true, (.pair (.int .u64) (.int .u64)))] [(false, (.int .u64)), (false, (.int .i64))] fun x => g_coder_interval_move x),
  (51, .inl Try.f51 (Try.f51.body.getD .skip) n51),
  (65, .sem [(true, (.pair (.sl (.int .u8)) (.int .i64))), (false, (.int .u64)), (false, (.int .i64))] [(true, (.pair (.own (.int .u8)) (.int .i64))), (false, (.int .i64))] fun x => g_bits_Put x.1 x.2.1 x.2.2)]
theorem h13 : HOK Try.prog (handler tab s13 8) := handler_sound tabOK mixed (callsOK_get (l := s13) ⟨c31, c33, c34, ⟨Try.func38, by kernel_rfl, by kernel_rfl⟩, ⟨Try.func39, by kernel_rfl, by kernel_rfl⟩, ⟨Try.func40, by kernel_rfl, by kernel_rfl⟩, c41, ⟨Try.func47, by kernel_rfl, by kernel_rfl⟩, c48, c50, ⟨Try.func51, by kernel_rfl, by kernel_rfl⟩, c65, trivial⟩) 8
def n13 : Ann := (.seq .no (.seq .no (.seq .no (.seq (.seq (.join [(.normal, [.keep 4 4, .keep 6 6, .keep 8 8, .slot 10 false (.int .i64), .slot 11 false (.int .i64), .keep 16 16, .slot 30 false .bool, .obj 4 (.sl (.int .i64)), .obj 6 (.pair (.int .u32) (.pair (.int .u32) (.pair (.int .i64) (.pair (.own (.int .u8)) (.int .i64))))), .obj 16 (.pair (.pair (.int .u64) (.int .u64)) (.pair (.int .i64) (.pair (.pair (.sl (.int .u8)) (.int .i64)) (.int .i64))))])] .no) .no) (.seq (.draw [0, 1, 2, 3, 4, 5, 6, 7]) (.seq (.join [(.normal, [.keep 6 6, .keep 8 8, .keep 16 16, .keep 32 32, .keep 33 33, .keep 34 34, .obj 6 (.pair (.int .u32) (.pair (.int .u32) (.pair (.int .i64) (.pair (.own (.int .u8)) (.int .i64))))), .obj 34 (.pair (.pair (.int .u64) (.int .u64)) (.pair (.int .i64) (.pair (.pair (.sl (.int .u8)) (.int .i64)) (.int .i64))))])] .no) (.seq (.join [(.normal, [.keep 6 6, .keep 8 8, .keep 16 16, .keep 32 32, .keep 33 33, .keep 34 34, .obj 6 (.pair (.int .u32) (.pair (.int .u32) (.pair (.int .i64) (.pair (.own (.int .u8)) (.int .i64))))), .obj 34 (.pair (.pair (.int .u64) (.int .u64)) (.pair (.int .i64) (.pair (.pair (.sl (.int .u8)) (.int .i64)) (.int .i64))))])] (.seq (.join [(.normal, [.keep 6 6, .keep 8 8, .keep 16 16, .keep 32 32, .keep 33 33, .keep 34 34, .slot 53 false .bool, .obj 6 (.pair (.int .u32) (.pair (.int .u32) (.pair (.int .i64) (.pair (.own (.int .u8)) (.int .i64))))), .obj 34 (.pair (.pair (.int .u64) (.int .u64)) (.pair (.int .i64) (.pair (.pair (.sl (.int .u8)) (.int .i64)) (.int .i64))))])] .no) .no)) (.seq (.seq .no (.cond (.seq (.draw [0, 1, 2, 3, 4, 5, 6]) .no) .no)) (.seq (.draw [0, 1, 2, 3, 4, 5, 6, 7, 8, 9, 10, 11, 12, 13, 14, 15, 16, 17, 18, 19, 20, 21, 22, 23]) .no)))))))))
theorem e13 (x : denL [(true, (.pair (.int .u32) (.pair (.int .u32) (.pair (.int .i64) (.pair (.sl (.int .u8)) (.int .i64)))))), (true, (.sl (.int .i64))), (false, (.int .i64))]) : evalF tab s13 8 Try.f13 (Try.f13.body.getD .skip) n13 [(true, (.pair (.int .u32) (.pair (.int .u32) (.pair (.int .i64) (.pair (.sl (.int .u8)) (.int .i64)))))), (true, (.sl (.int .i64))), (false, (.int .i64))] [(true, (.pair (.int .u32) (.pair (.int .u32) (.pair (.int .i64) (.pair (.own (.int .u8)) (.int .i64)))))), (false, (.int .i64))] x = g_coder_Put x.1 x.2.1 x.2.2 := by kernel_rfl
theorem c13 : Contract Try.prog 13 [(true, (.pair (.int .u32) (.pair (.int .u32) (.pair (.int .i64) (.pair (.sl (.int .u8)) (.int .i64)))))), (true, (.sl (.int .i64))), (false, (.int .i64))] [(true, (.pair (.int .u32) (.pair (.int .u32) (.pair (.int .i64) (.pair (.own (.int .u8)) (.int .i64)))))), (false, (.int .i64))] (fun x => g_coder_Put x.1 x.2.1 x.2.2) := evalF_contract tabOK mixed h13 Try.func13 (body := Try.f13.body.getD .skip) (by kernel_rfl) (by kernel_rfl) e13

noncomputable def s15 : List (Nat × Callee) := [(31, .sem [(true, (.pair (.sl (.int .u8)) (.int .i64)))] [(false, (.int .i64))] fun x => g_bits_Check x),
  (38, .inl Try.f38 (Try.f38.body.getD .skip) n38),
  (47, .inl Try.f47 (Try.f47.body.getD .skip) n47),
  (48, .sem [(true, (.pair (.int .u64) (.int .u64)))] [(false, .bool)] fun x => g_coder_interval_good x),
  (65, .sem [(true, (.pair (.sl (.int .u8)) (.int .i64))), (false, (.int .u64)), (false, (.int .i64))] [(true, (.pair (.own (.int .u8)) (.int .i64))), (false, (.int .i64))] fun x => g_bits_Put x.1 x.2.1 x.2.2)]
theorem h15 : HOK Try.prog (handler tab s15 8) := handler_sound tabOK mixed (callsOK_get (l := s15) ⟨c31, ⟨Try.func38, by kernel_rfl, by kernel_rfl⟩, ⟨Try.func47, by kernel_rfl, by kernel_rfl⟩, c48, c65, trivial⟩) 8
def n15 : Ann := (.seq .no (.seq .no (.seq .no (.seq .no (.seq .no (.seq .no (.seq .no (.seq (.seq .no (.cond (.seq (.draw [0, 1, 2, 3, 4, 5, 6]) .no) .no)) .no))))))))
theorem e15 (x : denL [(true, (.pair (.int .u32) (.pair (.int .u32) (.pair (.int .i64) (.pair (.sl (.int .u8)) (.int .i64))))))]) : evalF tab s15 8 Try.f15 (Try.f15.body.getD .skip) n15 [(true, (.pair (.int .u32) (.pair (.int .u32) (.pair (.int .i64) (.pair (.sl (.int .u8)) (.int .i64))))))] [(true, (.pair (.own (.int .u8)) (.int .i64))), (false, (.int .i64))] x = g_coder_End x := by kernel_rfl
theorem c15 : Contract Try.prog 15 [(true, (.pair (.int .u32) (.pair (.int .u32) (.pair (.int .i64) (.pair (.sl (.int .u8)) (.int .i64))))))] [(true, (.pair (.own (.int .u8)) (.int .i64))), (false, (.int .i64))] (fun x => g_coder_End x) := evalF_contract tabOK mixed h15 Try.func15 (body := Try.f15.body.getD .skip) (by kernel_rfl) (by kernel_rfl) e15

noncomputable def s26 : List (Nat × Callee) := [(13, .sem [(true, (.pair (.int .u32) (.pair (.int .u32) (.pair (.int .i64) (.pair (.sl (.int .u8)) (.int .i64)))))), (true, (.sl (.int .i64))), (false, (.int .i64))] [(true, (.pair (.int .u32) (.pair (.int .u32) (.pair (.int .i64) (.pair (.own (.int .u8)) (.int .i64)))))), (false, (.int .i64))] fun x => g_coder_Put x.1 x.2.1 x.2.2),
  (15, .sem [(true, (.pair (.int .u32) (.pair (.int .u32) (.pair (.int .i64) (.pair (.sl (.int .u8)) (.int .i64))))))] [(true, (.pair (.own (.int .u8)) (.int .i64))), (false, (.int .i64))] fun x => g_coder_End x),
  (19, .sem [] [(true, (.pair (.int .u32) (.pair (.int .u32) (.pair (.int .i64) (.pair (.sl (.int .u8)) (.int .i64))))))] fun x => g_coder_Begin)]
theorem h26 : HOK Try.prog (handler tab s26 8) := handler_sound tabOK mixed (callsOK_get (l := s26) ⟨c13, c15, c19, trivial⟩) 8
def n26 : Ann := (.seq .no (.seq .no (.seq .no (.seq (.seq .no (.blk (.loop [.slot 1 false (.sl (.sl (.int .i64))), .keep 4 4, .keep 6 6, .slot 17 false (.sl (.int .i64)), .slot 18 false (.int .i64), .slot 19 false (.int .i64), .obj 4 (.pair (.own (.int .u8)) (.int .i64)), .obj 6 (.pair (.int .u32) (.pair (.int .u32) (.pair (.int .i64) (.pair (.sl (.int .u8)) (.int .i64)))))] [(.exit 0, [.keep 4 4, .keep 6 6, .obj 4 (.pair (.own (.int .u8)) (.int .i64)), .obj 6 (.pair (.int .u32) (.pair (.int .u32) (.pair (.int .i64) (.pair (.sl (.int .u8)) (.int .i64)))))]), (.ret, [.keep 4 4, .slot 5 false (.int .i64), .obj 4 (.pair (.own (.int .u8)) (.int .i64))])] (.seq .no (.seq .no (.seq (.blk (.seq .no (.seq .no (.seq (.draw [0, 1, 2, 3, 4, 5, 6, 7, 8, 9, 10, 11]) .no)))) .no)))))) .no))))
theorem e26 (x : denL [(false, (.sl (.int .i64))), (false, (.sl (.sl (.int .i64))))]) : evalF tab s26 8 Try.f26 (Try.f26.body.getD .skip) n26 [(false, (.sl (.int .i64))), (false, (.sl (.sl (.int .i64))))] [(true, (.pair (.sl (.int .u8)) (.int .i64))), (false, (.int .i64))] x = g_coder_All x.1 x.2 := by kernel_rfl
theorem c26 : Contract Try.prog 26 [(false, (.sl (.int .i64))), (false, (.sl (.sl (.int .i64))))] [(true, (.pair (.sl (.int .u8)) (.int .i64))), (false, (.int .i64))] (fun x => g_coder_All x.1 x.2) := evalF_contract tabOK mixed h26 Try.func26 (body := Try.f26.body.getD .skip) (by kernel_rfl) (by kernel_rfl) e26

noncomputable def s37 : List (Nat × Callee) := [(58, .sem [(true, (.sl (.int .i64)))] [(false, (.int .i64))] fun x => g_freq_last x)]
theorem h37 : HOK Try.prog (handler tab s37 8) := handler_sound tabOK mixed (callsOK_get (l := s37) ⟨c58, trivial⟩) 8
def n37 : Ann := (.seq .no (.seq .no (.seq .no (.seq (.seq .no (.blk (.loop [.slot 0 false (.sl (.int .i64)), .keep 2 2, .keep 4 4, .slot 16 false (.sl (.int .i64)), .slot 17 false (.int .i64), .slot 18 false (.int .i64), .obj 2 (.own (.int .i64)), .obj 4 (.own (.int .i64))] [(.exit 0, [.slot 0 false (.sl (.int .i64)), .keep 2 2, .keep 4 4, .obj 2 (.own (.int .i64)), .obj 4 (.own (.int .i64))]), (.ret, [.keep 2 2, .slot 3 false (.int .i64), .obj 2 (.own (.int .i64))])] (.seq .no (.seq .no (.seq (.blk (.seq .no (.seq (.seq (.join [(.normal, [.slot 0 false (.sl (.int .i64)), .keep 2 2, .keep 4 4, .slot 6 false (.int .i64), .slot 16 false (.sl (.int .i64)), .slot 17 false (.int .i64), .slot 18 false (.int .i64), .slot 30 false .bool, .obj 2 (.own (.int .i64)), .obj 4 (.own (.int .i64))])] .no) .no) (.draw [0, 1, 2, 3, 4, 5, 6, 7, 8, 9])))) .no)))))) .no))))
theorem e37 (x : denL [(false, (.sl (.int .i64)))]) : evalF tab s37 8 Try.f37 (Try.f37.body.getD .skip) n37 [(false, (.sl (.int .i64)))] [(true, (.sl (.int .i64))), (false, (.int .i64))] x = g_freq_New x := by kernel_rfl
theorem c37 : Contract Try.prog 37 [(false, (.sl (.int .i64)))] [(true, (.sl (.int .i64))), (false, (.int .i64))] (fun x => g_freq_New x) := evalF_contract tabOK mixed h37 Try.func37 (body := Try.f37.body.getD .skip) (by kernel_rfl) (by kernel_rfl) e37

noncomputable def s52 : List (Nat × Callee) := []
theorem h52 : HOK Try.prog (handler tab s52 8) := handler_sound tabOK mixed (callsOK_get (l := s52) trivial) 8
def n52 : Ann := .no
theorem e52 (x : denL [(true, (.pair (.sl (.int .u8)) (.int .i64))), (false, (.int .i64))]) : evalF tab s52 8 Try.f52 (Try.f52.body.getD .skip) n52 [(true, (.pair (.sl (.int .u8)) (.int .i64))), (false, (.int .i64))] [(false, (.int .u64))] x = g_coder_bit x.1 x.2 := by kernel_rfl
theorem c52 : Contract Try.prog 52 [(true, (.pair (.sl (.int .u8)) (.int .i64))), (false, (.int .i64))] [(false, (.int .u64))] (fun x => g_coder_bit x.1 x.2) := evalF_contract tabOK mixed h52 Try.func52 (body := Try.f52.body.getD .skip) (by kernel_rfl) (by kernel_rfl) e52

noncomputable def s23 : List (Nat × Callee) := [(31, .sem [(true, (.pair (.sl (.int .u8)) (.int .i64)))] [(false, (.int .i64))] fun x => g_bits_Check x),
  (41, .sem [(true, (.pair (.sl (.int .u8)) (.int .i64)))] [(true, (.pair (.own (.int .u8)) (.int .i64)))] fun x => g_coder_owned x),
  (52, .sem [(true, (.pair (.sl (.int .u8)) (.int .i64))), (false, (.int .i64))] [(false, (.int .u64))] fun x => g_coder_bit x.1 x.2)]
theorem h23 : HOK Try.prog (handler tab s23 8) := handler_sound tabOK mixed (callsOK_get (l := s23) ⟨c31, c41, c52, trivial⟩) 8
def n23 : Ann := (.seq .no (.seq .no (.seq .no (.seq (.seq .no (.blk (.loop [.keep 1 1, .keep 2 2, .slot 5 false (.int .u64), .slot 13 false (.int .i64), .obj 1 (.pair (.sl (.int .u8)) (.int .i64)), .obj 2 (.pair (.int .u32) (.pair (.int .u32) (.pair (.int .u32) (.pair (.pair (.own (.int .u8)) (.int .i64)) (.int .i64)))))] [(.exit 0, [.keep 1 1, .keep 2 2, .slot 5 false (.int .u64), .obj 1 (.pair (.sl (.int .u8)) (.int .i64)), .obj 2 (.pair (.int .u32) (.pair (.int .u32) (.pair (.int .u32) (.pair (.pair (.own (.int .u8)) (.int .i64)) (.int .i64)))))])] .no))) .no))))
theorem e23 (x : denL [(true, (.pair (.sl (.int .u8)) (.int .i64)))]) : evalF tab s23 8 Try.f23 (Try.f23.body.getD .skip) n23 [(true, (.pair (.sl (.int .u8)) (.int .i64)))] [(true, (.pair (.int .u32) (.pair (.int .u32) (.pair (.int .u32) (.pair (.pair (.sl (.int .u8)) (.int .i64)) (.int .i64)))))), (false, (.int .i64))] x = g_coder_Start x := by kernel_rfl
theorem c23 : Contract Try.prog 23 [(true, (.pair (.sl (.int .u8)) (.int .i64)))] [(true, (.pair (.int .u32) (.pair (.int .u32) (.pair (.int .u32) (.pair (.pair (.sl (.int .u8)) (.int .i64)) (.int .i64)))))), (false, (.int .i64))] (fun x => g_coder_Start x) := evalF_contract tabOK mixed h23 Try.func23 (body := Try.f23.body.getD .skip) (by kernel_rfl) (by kernel_rfl) e23

noncomputable def s77 : List (Nat × Callee) := []
theorem h77 : HOK Try.prog (handler tab s77 8) := handler_sound tabOK mixed (callsOK_get (l := s77) trivial) 8
def n77 : Ann := .no
theorem e77 (x : denL [(false, (.int .i64))]) : evalF tab s77 8 Try.f77 (Try.f77.body.getD .skip) n77 [(false, (.int .i64))] [(false, .bool)] x = g_cmp_isNaN_int x := by kernel_rfl
theorem c77 : Contract Try.prog 77 [(false, (.int .i64))] [(false, .bool)] (fun x => g_cmp_isNaN_int x) := evalF_contract tabOK mixed h77 Try.func77 (body := Try.f77.body.getD .skip) (by kernel_rfl) (by kernel_rfl) e77

noncomputable def s72 : List (Nat × Callee) := [(77, .sem [(false, (.int .i64))] [(false, .bool)] fun x => g_cmp_isNaN_int x)]
theorem h72 : HOK Try.prog (handler tab s72 8) := handler_sound tabOK mixed (callsOK_get (l := s72) ⟨c77, trivial⟩) 8
def n72 : Ann := .no
theorem e72 (x : denL [(false, (.int .i64)), (false, (.int .i64))]) : evalF tab s72 8 Try.f72 (Try.f72.body.getD .skip) n72 [(false, (.int .i64)), (false, (.int .i64))] [(false, .bool)] x = g_cmp_Less_int x.1 x.2 := by kernel_rfl
theorem c72 : Contract Try.prog 72 [(false, (.int .i64)), (false, (.int .i64))] [(false, .bool)] (fun x => g_cmp_Less_int x.1 x.2) := evalF_contract tabOK mixed h72 Try.func72 (body := Try.f72.body.getD .skip) (by kernel_rfl) (by kernel_rfl) e72

noncomputable def s73 : List (Nat × Callee) := []
theorem h73 : HOK Try.prog (handler tab s73 8) := handler_sound tabOK mixed (callsOK_get (l := s73) trivial) 8
def n73 : Ann := .no
theorem e73 (x : denL [(false, (.int .i64))]) : evalF tab s73 8 Try.f73 (Try.f73.body.getD .skip) n73 [(false, (.int .i64))] [(false, .bool)] x = g_slices_isNaN_int x := by kernel_rfl
theorem c73 : Contract Try.prog 73 [(false, (.int .i64))] [(false, .bool)] (fun x => g_slices_isNaN_int x) := evalF_contract tabOK mixed h73 Try.func73 (body := Try.f73.body.getD .skip) (by kernel_rfl) (by kernel_rfl) e73

noncomputable def s66 : List (Nat × Callee) := [(72, .sem [(false, (.int .i64)), (false, (.int .i64))] [(false, .bool)] fun x => g_cmp_Less_int x.1 x.2),
  (73, .sem [(false, (.int .i64))] [(false, .bool)] fun x => g_slices_isNaN_int x)]
theorem h66 : HOK Try.prog (handler tab s66 8) := handler_sound tabOK mixed (callsOK_get (l := s66) ⟨c72, c73, trivial⟩) 8
def n66 : Ann := (.seq .no (.seq .no (.seq .no (.seq (.blk (.loop [.slot 0 false (.sl (.int .i64)), .slot 1 false (.int .i64), .slot 6 false (.int .i64), .slot 7 false (.int .i64), .slot 8 false (.int .i64)] [(.exit 0, [.slot 0 false (.sl (.int .i64)), .slot 1 false (.int .i64), .slot 6 false (.int .i64), .slot 7 false (.int .i64)])] .no)) .no))))
theorem e66 (x : denL [(false, (.sl (.int .i64))), (false, (.int .i64))]) : evalF tab s66 8 Try.f66 (Try.f66.body.getD .skip) n66 [(false, (.sl (.int .i64))), (false, (.int .i64))] [(false, (.int .i64)), (false, .bool)] x = g_slices_BinarySearch_Sint_int x.1 x.2 := by kernel_rfl
theorem c66 : Contract Try.prog 66 [(false, (.sl (.int .i64))), (false, (.int .i64))] [(false, (.int .i64)), (false, .bool)] (fun x => g_slices_BinarySearch_Sint_int x.1 x.2) := evalF_contract tabOK mixed h66 Try.func66 (body := Try.f66.body.getD .skip) (by kernel_rfl) (by kernel_rfl) e66

noncomputable def s49 : List (Nat × Callee) := [(32, .sem [(true, (.sl (.int .i64)))] [(false, (.int .i64))] fun x => g_freq_Check x),
  (58, .sem [(true, (.sl (.int .i64)))] [(false, (.int .i64))] fun x => g_freq_last x),
  (66, .sem [(false, (.sl (.int .i64))), (false, (.int .i64))] [(false, (.int .i64)), (false, .bool)] fun x => g_slices_BinarySearch_Sint_int x.1 x.2)]
theorem h49 : HOK Try.prog (handler tab s49 8) := handler_sound tabOK mixed (callsOK_get (l := s49) ⟨c32, c58, c66, trivial⟩) 8
def n49 : Ann := (.seq .no (.seq (.seq (.join [(.normal, [.slot 1 false (.int .i64), .keep 2 2, .slot 20 false .bool, .obj 2 (.sl (.int .i64))])] .no) .no) (.seq .no (.seq (.join [(.normal, [.slot 6 false (.int .i64)])] .no) .no))))
theorem e49 (x : denL [(true, (.sl (.int .i64))), (false, (.int .i64))]) : evalF tab s49 8 Try.f49 (Try.f49.body.getD .skip) n49 [(true, (.sl (.int .i64))), (false, (.int .i64))] [(false, (.int .i64)), (false, (.int .i64))] x = g_freq_Find x.1 x.2 := by kernel_rfl
theorem c49 : Contract Try.prog 49 [(true, (.sl (.int .i64))), (false, (.int .i64))] [(false, (.int .i64)), (false, (.int .i64))] (fun x => g_freq_Find x.1 x.2) := evalF_contract tabOK mixed h49 Try.func49 (body := Try.f49.body.getD .skip) (by kernel_rfl) (by kernel_rfl) e49

noncomputable def s21 : List (Nat × Callee) := [(31, .sem [(true, (.pair (.sl (.int .u8)) (.int .i64)))] [(false, (.int .i64))] fun x => g_bits_Check x),
  (32, .sem [(true, (.sl (.int .i64)))] [(false, (.int .i64))] fun x => g_freq_Check x),
  (34, .sem [(true, (.sl (.int .i64)))] [(false, (.int .i64))] fun x => g_freq_Total x),
  (39, .inl Try.f39 (Try.f39.body.getD .skip) n39),
  (41, .sem [(true, (.pair (.sl (.int .u8)) (.int .i64)))] [(true, (.pair (.own (.int .u8)) (.int .i64)))] fun x => g_coder_owned x),
  (48, .sem [(true, (.pair (.int .u64) (.int .u64)))] [(false, .bool)] fun x => g_coder_interval_good x),
  (49, .sem [(true, (.sl (.int .i64))), (false, (.int .i64))] [(false, (.int .i64)), (false, (.int .i64))] fun x => g_freq_Find x.1 x.2),
  (50, .sem [(true, (.pair (.int .u64) (.int .u64)))] [(false, (.int .u64)), (false, (.int .i64))] fun x => g_coder_interval_move x),
  (51, .inl Try.f51 (Try.f51.body.getD .skip) n51),
  (52, .sem [(true, (.pair (.sl (.int .u8)) (.int .i64))), (false, (.int .i64))] [(false, (.int .u64))] fun x => g_coder_bit x.1 x.2)]
theorem h21 : HOK Try.prog (handler tab s21 8) := handler_sound tabOK mixed (callsOK_get (l := s21) ⟨c31, c32, c34, ⟨Try.func39, by kernel_rfl, by kernel_rfl⟩, c41, c48, c49, c50, ⟨Try.func51, by kernel_rfl, by kernel_rfl⟩, c52, trivial⟩) 8
def n21 : Ann := (.seq .no (.seq .no (.seq (.draw [0, 1, 2, 3, 4, 5, 6]) (.seq (.blk (.seq (.join [(.normal, [.keep 2 2, .keep 3 3, .keep 4 4, .keep 7 7, .slot 8 false (.int .u64), .slot 9 false (.int .i64), .keep 16 16, .slot 28 false .bool, .obj 16 (.pair (.int .u32) (.pair (.int .u32) (.pair (.int .u32) (.pair (.pair (.sl (.int .u8)) (.int .i64)) (.int .i64))))), .obj 3 (.sl (.int .i64)), .obj 4 (.pair (.int .u32) (.pair (.int .u32) (.pair (.int .u32) (.pair (.pair (.own (.int .u8)) (.int .i64)) (.int .i64))))), .obj 7 (.pair (.int .u64) (.int .u64))])] .no) .no)) (.seq .no (.seq .no (.seq .no (.seq .no (.seq (.draw [0, 1, 2, 3, 4, 5, 6, 7, 8, 9, 10, 11, 12]) (.seq (.blk (.loop [.keep 2 2, .keep 4 4, .keep 7 7, .slot 8 false (.int .u64), .slot 9 false (.int .i64), .slot 12 false (.int .i64), .keep 16 16, .keep 63 63, .keep 73 73, .obj 16 (.pair (.int .u32) (.pair (.int .u32) (.pair (.int .u32) (.pair (.pair (.sl (.int .u8)) (.int .i64)) (.int .i64))))), .obj 4 (.pair (.int .u32) (.pair (.int .u32) (.pair (.int .u32) (.pair (.pair (.own (.int .u8)) (.int .i64)) (.int .i64))))), .obj 73 (.pair (.int .u64) (.int .u64))] [(.exit 1, [.keep 2 2, .keep 4 4, .keep 7 7, .slot 8 false (.int .u64), .slot 9 false (.int .i64), .slot 12 false (.int .i64), .keep 16 16, .keep 63 63, .keep 73 73, .obj 16 (.pair (.int .u32) (.pair (.int .u32) (.pair (.int .u32) (.pair (.pair (.sl (.int .u8)) (.int .i64)) (.int .i64))))), .obj 4 (.pair (.int .u32) (.pair (.int .u32) (.pair (.int .u32) (.pair (.pair (.own (.int .u8)) (.int .i64)) (.int .i64))))), .obj 73 (.pair (.int .u64) (.int .u64))])] .no)) (.seq (.draw [0, 1, 2, 3, 4, 5, 6, 7, 8, 9, 10, 11, 12, 13, 14, 15, 16]) .no)))))))))))
theorem e21 (x : denL [(true, (.pair (.int .u32) (.pair (.int .u32) (.pair (.int .u32) (.pair (.pair (.sl (.int .u8)) (.int .i64)) (.int .i64)))))), (true, (.sl (.int .i64)))]) : evalF tab s21 8 Try.f21 (Try.f21.body.getD .skip) n21 [(true, (.pair (.int .u32) (.pair (.int .u32) (.pair (.int .u32) (.pair (.pair (.sl (.int .u8)) (.int .i64)) (.int .i64)))))), (true, (.sl (.int .i64)))] [(true, (.pair (.int .u32) (.pair (.int .u32) (.pair (.int .u32) (.pair (.pair (.sl (.int .u8)) (.int .i64)) (.int .i64)))))), (false, (.int .i64)), (false, (.int .i64))] x = g_coder_Next x.1 x.2 := by kernel_rfl
theorem c21 : Contract Try.prog 21 [(true, (.pair (.int .u32) (.pair (.int .u32) (.pair (.int .u32) (.pair (.pair (.sl (.int .u8)) (.int .i64)) (.int .i64)))))), (true, (.sl (.int .i64)))] [(true, (.pair (.int .u32) (.pair (.int .u32) (.pair (.int .u32) (.pair (.pair (.sl (.int .u8)) (.int .i64)) (.int .i64)))))), (false, (.int .i64)), (false, (.int .i64))] (fun x => g_coder_Next x.1 x.2) := evalF_contract tabOK mixed h21 Try.func21 (body := Try.f21.body.getD .skip) (by kernel_rfl) (by kernel_rfl) e21

noncomputable def s28 : List (Nat × Callee) := [(21, .sem [(true, (.pair (.int .u32) (.pair (.int .u32) (.pair (.int .u32) (.pair (.pair (.sl (.int .u8)) (.int .i64)) (.int .i64)))))), (true, (.sl (.int .i64)))] [(true, (.pair (.int .u32) (.pair (.int .u32) (.pair (.int .u32) (.pair (.pair (.sl (.int .u8)) (.int .i64)) (.int .i64)))))), (false, (.int .i64)), (false, (.int .i64))] fun x => g_coder_Next x.1 x.2),
  (23, .sem [(true, (.pair (.sl (.int .u8)) (.int .i64)))] [(true, (.pair (.int .u32) (.pair (.int .u32) (.pair (.int .u32) (.pair (.pair (.sl (.int .u8)) (.int .i64)) (.int .i64)))))), (false, (.int .i64))] fun x => g_coder_Start x)]
theorem h28 : HOK Try.prog (handler tab s28 8) := handler_sound tabOK mixed (callsOK_get (l := s28) ⟨c21, c23, trivial⟩) 8
def n28 : Ann := (.seq .no (.seq .no (.seq .no (.seq (.seq .no (.blk (.loop [.keep 6 6, .slot 7 false (.int .i64), .slot 8 false (.own (.int .i64)), .slot 17 false (.sl (.sl (.int .i64))), .slot 18 false (.int .i64), .slot 19 false (.int .i64), .obj 6 (.pair (.int .u32) (.pair (.int .u32) (.pair (.int .u32) (.pair (.pair (.sl (.int .u8)) (.int .i64)) (.int .i64)))))] [(.exit 0, [.slot 7 false (.int .i64), .slot 8 false (.own (.int .i64))])] .no))) .no))))
theorem e28 (x : denL [(true, (.pair (.sl (.int .u8)) (.int .i64))), (false, (.sl (.sl (.int .i64))))]) : evalF tab s28 8 Try.f28 (Try.f28.body.getD .skip) n28 [(true, (.pair (.sl (.int .u8)) (.int .i64))), (false, (.sl (.sl (.int .i64))))] [(false, (.sl (.int .i64))), (false, (.int .i64))] x = g_coder_Back x.1 x.2 := by kernel_rfl
theorem c28 : Contract Try.prog 28 [(true, (.pair (.sl (.int .u8)) (.int .i64))), (false, (.sl (.sl (.int .i64))))] [(false, (.sl (.int .i64))), (false, (.int .i64))] (fun x => g_coder_Back x.1 x.2) := evalF_contract tabOK mixed h28 Try.func28 (body := Try.f28.body.getD .skip) (by kernel_rfl) (by kernel_rfl) e28

noncomputable def s30 : List (Nat × Callee) := []
theorem h30 : HOK Try.prog (handler tab s30 8) := handler_sound tabOK mixed (callsOK_get (l := s30) trivial) 8
def n30 : Ann := (.seq .no (.seq .no (.seq (.seq .no (.blk (.loop [.slot 0 false (.sl (.int .i64)), .slot 1 false (.sl (.int .i64)), .slot 12 false (.int .i64), .slot 13 false (.int .i64)] [(.exit 0, []), (.ret, [.slot 4 false .bool])] (.seq .no (.seq .no (.seq (.blk (.seq .no (.seq (.draw [0, 1, 2, 3, 4, 5, 6, 7, 8]) .no))) .no)))))) .no)))
theorem e30 (x : denL [(false, (.sl (.int .i64))), (false, (.sl (.int .i64)))]) : evalF tab s30 8 Try.f30 (Try.f30.body.getD .skip) n30 [(false, (.sl (.int .i64))), (false, (.sl (.int .i64)))] [(false, .bool)] x = g_r03_Equal x.1 x.2 := by kernel_rfl
theorem c30 : Contract Try.prog 30 [(false, (.sl (.int .i64))), (false, (.sl (.int .i64)))] [(false, .bool)] (fun x => g_r03_Equal x.1 x.2) := evalF_contract tabOK mixed h30 Try.func30 (body := Try.f30.body.getD .skip) (by kernel_rfl) (by kernel_rfl) e30

noncomputable def s10 : List (Nat × Callee) := [(26, .sem [(false, (.sl (.int .i64))), (false, (.sl (.sl (.int .i64))))] [(true, (.pair (.sl (.int .u8)) (.int .i64))), (false, (.int .i64))] fun x => g_coder_All x.1 x.2),
  (28, .sem [(true, (.pair (.sl (.int .u8)) (.int .i64))), (false, (.sl (.sl (.int .i64))))] [(false, (.sl (.int .i64))), (false, (.int .i64))] fun x => g_coder_Back x.1 x.2),
  (30, .sem [(false, (.sl (.int .i64))), (false, (.sl (.int .i64)))] [(false, .bool)] fun x => g_r03_Equal x.1 x.2),
  (37, .sem [(false, (.sl (.int .i64)))] [(true, (.sl (.int .i64))), (false, (.int .i64))] fun x => g_freq_New x)]
theorem h10 : HOK Try.prog (handler tab s10 8) := handler_sound tabOK mixed (callsOK_get (l := s10) ⟨c26, c28, c30, c37, trivial⟩) 8
def n10 : Ann := .no
theorem e10 (x : denL []) : evalF tab s10 8 Try.f10 (Try.f10.body.getD .skip) n10 [] [(false, .bool)] x = g_law04_live := by kernel_rfl
theorem c10 : Contract Try.prog 10 [] [(false, .bool)] (fun x => g_law04_live) := evalF_contract tabOK mixed h10 Try.func10 (body := Try.f10.body.getD .skip) (by kernel_rfl) (by kernel_rfl) e10

noncomputable def s11 : List (Nat × Callee) := []
theorem h11 : HOK Try.prog (handler tab s11 8) := handler_sound tabOK mixed (callsOK_get (l := s11) trivial) 8
def n11 : Ann := (.seq .no (.seq (.seq .no (.blk (.loop [.slot 1 false (.sl (.sl (.int .i64))), .keep 2 2, .slot 7 false (.sl (.sl (.int .i64))), .slot 8 false (.int .i64), .slot 9 false (.int .i64), .obj 2 (.pair (.sl (.int .u8)) (.int .i64))] [(.exit 0, [.slot 1 false (.sl (.sl (.int .i64))), .keep 2 2, .obj 2 (.pair (.sl (.int .u8)) (.int .i64))]), (.ret, [.slot 4 false .bool])] .no))) .no))
theorem e11 (x : denL [(true, (.pair (.sl (.int .u8)) (.int .i64))), (false, (.sl (.sl (.int .i64))))]) : evalF tab s11 8 Try.f11 (Try.f11.body.getD .skip) n11 [(true, (.pair (.sl (.int .u8)) (.int .i64))), (false, (.sl (.sl (.int .i64))))] [(false, .bool)] x = g_law04_few x.1 x.2 := by kernel_rfl
theorem c11 : Contract Try.prog 11 [(true, (.pair (.sl (.int .u8)) (.int .i64))), (false, (.sl (.sl (.int .i64))))] [(false, .bool)] (fun x => g_law04_few x.1 x.2) := evalF_contract tabOK mixed h11 Try.func11 (body := Try.f11.body.getD .skip) (by kernel_rfl) (by kernel_rfl) e11

noncomputable def s12 : List (Nat × Callee) := []
theorem h12 : HOK Try.prog (handler tab s12 8) := handler_sound tabOK mixed (callsOK_get (l := s12) trivial) 8
def n12 : Ann := (.seq .no (.seq (.draw [0, 1, 2, 3, 4, 5, 6]) .no))
theorem e12 (x : denL [(true, (.pair (.sl (.int .u8)) (.int .i64)))]) : evalF tab s12 8 Try.f12 (Try.f12.body.getD .skip) n12 [(true, (.pair (.sl (.int .u8)) (.int .i64)))] [(true, (.pair (.own (.int .u8)) (.int .i64)))] x = g_r01_Copy x := by kernel_rfl
theorem c12 : Contract Try.prog 12 [(true, (.pair (.sl (.int .u8)) (.int .i64)))] [(true, (.pair (.own (.int .u8)) (.int .i64)))] (fun x => g_r01_Copy x) := evalF_contract tabOK mixed h12 Try.func12 (body := Try.f12.body.getD .skip) (by kernel_rfl) (by kernel_rfl) e12

noncomputable def s54 : List (Nat × Callee) := []
theorem h54 : HOK Try.prog (handler tab s54 8) := handler_sound tabOK mixed (callsOK_get (l := s54) trivial) 8
def n54 : Ann := (.seq .no (.seq .no (.seq (.seq (.join [(.normal, [.keep 1 1, .slot 3 false (.int .i64), .keep 5 5, .slot 29 false .bool, .obj 5 (.sl (.int .i64))])] .no) .no) (.seq (.seq .no (.blk (.loop [.keep 1 1, .slot 3 false (.int .i64), .slot 4 false (.int .i64), .keep 5 5, .obj 5 (.sl (.int .i64))] [(.exit 0, []), (.ret, [.slot 2 false (.int .i64)])] (.seq .no (.seq (.blk (.seq (.draw [0, 1, 2, 3, 4, 5, 6, 7, 8, 9, 10, 11]) .no)) .no))))) .no))))
theorem e54 (x : denL [(true, (.sl (.int .i64)))]) : evalF tab s54 8 Try.f54 (Try.f54.body.getD .skip) n54 [(true, (.sl (.int .i64)))] [(false, (.int .i64))] x = g_r03_Check x := by kernel_rfl
theorem c54 : Contract Try.prog 54 [(true, (.sl (.int .i64)))] [(false, (.int .i64))] (fun x => g_r03_Check x) := evalF_contract tabOK mixed h54 Try.func54 (body := Try.f54.body.getD .skip) (by kernel_rfl) (by kernel_rfl) e54

noncomputable def s42 : List (Nat × Callee) := [(54, .sem [(true, (.sl (.int .i64)))] [(false, (.int .i64))] fun x => g_r03_Check x)]
theorem h42 : HOK Try.prog (handler tab s42 8) := handler_sound tabOK mixed (callsOK_get (l := s42) ⟨c54, trivial⟩) 8
def n42 : Ann := (.seq .no (.seq (.seq (.join [(.normal, [.slot 1 false (.int .i64), .keep 2 2, .slot 21 false .bool, .obj 2 (.sl (.int .i64))])] .no) .no) (.seq (.draw [0, 1, 2, 3, 4, 5, 6, 7, 8, 9, 10, 11, 12, 13]) .no)))
theorem e42 (x : denL [(true, (.sl (.int .i64))), (false, (.int .i64))]) : evalF tab s42 8 Try.f42 (Try.f42.body.getD .skip) n42 [(true, (.sl (.int .i64))), (false, (.int .i64))] [(false, (.int .i64)), (false, (.int .i64)), (false, (.int .i64))] x = g_r03_Span x.1 x.2 := by kernel_rfl
theorem c42 : Contract Try.prog 42 [(true, (.sl (.int .i64))), (false, (.int .i64))] [(false, (.int .i64)), (false, (.int .i64)), (false, (.int .i64))] (fun x => g_r03_Span x.1 x.2) := evalF_contract tabOK mixed h42 Try.func42 (body := Try.f42.body.getD .skip) (by kernel_rfl) (by kernel_rfl) e42

noncomputable def s63 : List (Nat × Callee) := []
theorem h63 : HOK Try.prog (handler tab s63 8) := handler_sound tabOK mixed (callsOK_get (l := s63) trivial) 8
def n63 : Ann := (.seq .no (.seq (.seq (.join [(.normal, [.slot 0 false (.int .u64), .slot 1 false (.int .u64), .slot 11 false .bool])] .no) .no) .no))
theorem e63 (x : denL [(false, (.int .u64)), (false, (.int .u64))]) : evalF tab s63 8 Try.f63 (Try.f63.body.getD .skip) n63 [(false, (.int .u64)), (false, (.int .u64))] [(false, .bool)] x = g_r04_wide x.1 x.2 := by kernel_rfl
theorem c63 : Contract Try.prog 63 [(false, (.int .u64)), (false, (.int .u64))] [(false, .bool)] (fun x => g_r04_wide x.1 x.2) := evalF_contract tabOK mixed h63 Try.func63 (body := Try.f63.body.getD .skip) (by kernel_rfl) (by kernel_rfl) e63

noncomputable def s68 : List (Nat × Callee) := []
theorem h68 : HOK Try.prog (handler tab s68 8) := handler_sound tabOK mixed (callsOK_get (l := s68) trivial) 8
def n68 : Ann := .no
theorem e68 (x : denL [(true, (.pair (.sl (.int .u8)) (.int .i64))), (false, (.int .i64))]) : evalF tab s68 8 Try.f68 (Try.f68.body.getD .skip) n68 [(true, (.pair (.sl (.int .u8)) (.int .i64))), (false, (.int .i64))] [(false, (.int .u64))] x = g_r01_bit x.1 x.2 := by kernel_rfl
theorem c68 : Contract Try.prog 68 [(true, (.pair (.sl (.int .u8)) (.int .i64))), (false, (.int .i64))] [(false, (.int .u64))] (fun x => g_r01_bit x.1 x.2) := evalF_contract tabOK mixed h68 Try.func68 (body := Try.f68.body.getD .skip) (by kernel_rfl) (by kernel_rfl) e68

noncomputable def s57 : List (Nat × Callee) := [(68, .sem [(true, (.pair (.sl (.int .u8)) (.int .i64))), (false, (.int .i64))] [(false, (.int .u64))] fun x => g_r01_bit x.1 x.2)]
theorem h57 : HOK Try.prog (handler tab s57 8) := handler_sound tabOK mixed (callsOK_get (l := s57) ⟨c68, trivial⟩) 8
def n57 : Ann := (.seq .no (.seq (.seq (.join [(.normal, [.keep 1 1, .slot 21 false .bool, .obj 1 (.pair (.sl (.int .u8)) (.int .i64))])] .no) .no) (.seq (.seq .no (.blk (.loop [.keep 1 1, .slot 3 false (.int .i64), .obj 1 (.pair (.sl (.int .u8)) (.int .i64))] [(.exit 0, []), (.ret, [.slot 2 false (.int .i64)])] .no))) .no)))
theorem e57 (x : denL [(true, (.pair (.sl (.int .u8)) (.int .i64)))]) : evalF tab s57 8 Try.f57 (Try.f57.body.getD .skip) n57 [(true, (.pair (.sl (.int .u8)) (.int .i64)))] [(false, (.int .i64))] x = g_r01_Check x := by kernel_rfl
theorem c57 : Contract Try.prog 57 [(true, (.pair (.sl (.int .u8)) (.int .i64)))] [(false, (.int .i64))] (fun x => g_r01_Check x) := evalF_contract tabOK mixed h57 Try.func57 (body := Try.f57.body.getD .skip) (by kernel_rfl) (by kernel_rfl) e57

noncomputable def s43 : List (Nat × Callee) := [(57, .sem [(true, (.pair (.sl (.int .u8)) (.int .i64)))] [(false, (.int .i64))] fun x => g_r01_Check x),
  (63, .sem [(false, (.int .u64)), (false, (.int .u64))] [(false, .bool)] fun x => g_r04_wide x.1 x.2)]
theorem h43 : HOK Try.prog (handler tab s43 8) := handler_sound tabOK mixed (callsOK_get (l := s43) ⟨c57, c63, trivial⟩) 8
def n43 : Ann := .no
theorem e43 (x : denL [(true, (.pair (.int .u32) (.pair (.int .u32) (.pair (.int .i64) (.pair (.sl (.int .u8)) (.int .i64))))))]) : evalF tab s43 8 Try.f43 (Try.f43.body.getD .skip) n43 [(true, (.pair (.int .u32) (.pair (.int .u32) (.pair (.int .i64) (.pair (.sl (.int .u8)) (.int .i64))))))] [(false, .bool)] x = g_r04_CheckEnc x := by kernel_rfl
theorem c43 : Contract Try.prog 43 [(true, (.pair (.int .u32) (.pair (.int .u32) (.pair (.int .i64) (.pair (.sl (.int .u8)) (.int .i64))))))] [(false, .bool)] (fun x => g_r04_CheckEnc x) := evalF_contract tabOK mixed h43 Try.func43 (body := Try.f43.body.getD .skip) (by kernel_rfl) (by kernel_rfl) e43

noncomputable def s45 : List (Nat × Callee) := [(54, .sem [(true, (.sl (.int .i64)))] [(false, (.int .i64))] fun x => g_r03_Check x)]
theorem h45 : HOK Try.prog (handler tab s45 8) := handler_sound tabOK mixed (callsOK_get (l := s45) ⟨c54, trivial⟩) 8
def n45 : Ann := .no
theorem e45 (x : denL [(true, (.sl (.int .i64)))]) : evalF tab s45 8 Try.f45 (Try.f45.body.getD .skip) n45 [(true, (.sl (.int .i64)))] [(false, (.int .i64))] x = g_r03_Total x := by kernel_rfl
theorem c45 : Contract Try.prog 45 [(true, (.sl (.int .i64)))] [(false, (.int .i64))] (fun x => g_r03_Total x) := evalF_contract tabOK mixed h45 Try.func45 (body := Try.f45.body.getD .skip) (by kernel_rfl) (by kernel_rfl) e45

noncomputable def s44 : List (Nat × Callee) := []
theorem h44 : HOK Try.prog (handler tab s44 8) := handler_sound tabOK mixed (callsOK_get (l := s44) trivial) 8
def n44 : Ann := (.seq .no (.seq .no (.seq (.draw [0, 1, 2, 3, 4, 5, 6, 7, 8, 9, 10, 11, 12, 13, 14, 15, 16, 17, 18, 19, 20]) .no)))
theorem e44 (x : denL [(false, (.int .u64)), (false, (.int .u64)), (false, (.int .i64)), (false, (.int .i64)), (false, (.int .i64))]) : evalF tab s44 8 Try.f44 (Try.f44.body.getD .skip) n44 [(false, (.int .u64)), (false, (.int .u64)), (false, (.int .i64)), (false, (.int .i64)), (false, (.int .i64))] [(false, (.int .u64)), (false, (.int .u64))] x = g_r04_narrow x.1 x.2.1 x.2.2.1 x.2.2.2.1 x.2.2.2.2 := by kernel_rfl
theorem c44 : Contract Try.prog 44 [(false, (.int .u64)), (false, (.int .u64)), (false, (.int .i64)), (false, (.int .i64)), (false, (.int .i64))] [(false, (.int .u64)), (false, (.int .u64))] (fun x => g_r04_narrow x.1 x.2.1 x.2.2.1 x.2.2.2.1 x.2.2.2.2) := evalF_contract tabOK mixed h44 Try.func44 (body := Try.f44.body.getD .skip) (by kernel_rfl) (by kernel_rfl) e44

noncomputable def s70 : List (Nat × Callee) := []
theorem h70 : HOK Try.prog (handler tab s70 8) := handler_sound tabOK mixed (callsOK_get (l := s70) trivial) 8
def n70 : Ann := (.seq .no (.seq (.join [(.normal, [.slot 1 false (.int .u64), .keep 2 2, .keep 4 4, .obj 2 (.pair (.own (.int .u8)) (.int .i64)), .obj 4 (.pair (.own (.int .u8)) (.int .i64))])] .no) (.seq (.draw [0, 1, 2, 3, 4, 5, 6, 7, 8, 9, 10, 11, 12, 13, 14, 15, 16, 17]) .no)))
theorem e70 (x : denL [(true, (.pair (.own (.int .u8)) (.int .i64))), (false, (.int .u64))]) : evalF tab s70 8 Try.f70 (Try.f70.body.getD .skip) n70 [(true, (.pair (.own (.int .u8)) (.int .i64))), (false, (.int .u64))] [(true, (.pair (.own (.int .u8)) (.int .i64)))] x = g_r01_push x.1 x.2 := by kernel_rfl
theorem c70 : Contract Try.prog 70 [(true, (.pair (.own (.int .u8)) (.int .i64))), (false, (.int .u64))] [(true, (.pair (.own (.int .u8)) (.int .i64)))] (fun x => g_r01_push x.1 x.2) := evalF_contract tabOK mixed h70 Try.func70 (body := Try.f70.body.getD .skip) (by kernel_rfl) (by kernel_rfl) e70

noncomputable def s64 : List (Nat × Callee) := [(12, .sem [(true, (.pair (.sl (.int .u8)) (.int .i64)))] [(true, (.pair (.own (.int .u8)) (.int .i64)))] fun x => g_r01_Copy x),
  (57, .sem [(true, (.pair (.sl (.int .u8)) (.int .i64)))] [(false, (.int .i64))] fun x => g_r01_Check x),
  (70, .sem [(true, (.pair (.own (.int .u8)) (.int .i64))), (false, (.int .u64))] [(true, (.pair (.own (.int .u8)) (.int .i64)))] fun x => g_r01_push x.1 x.2)]
theorem h64 : HOK Try.prog (handler tab s64 8) := handler_sound tabOK mixed (callsOK_get (l := s64) ⟨c12, c57, c70, trivial⟩) 8
def n64 : Ann := (.seq .no (.seq (.seq (.join [(.normal, [.slot 1 false (.int .u64), .slot 2 false (.int .i64), .keep 3 3, .keep 6 6, .slot 31 false .bool, .obj 3 (.pair (.sl (.int .u8)) (.int .i64)), .obj 6 (.pair (.own (.int .u8)) (.int .i64))])] .no) .no) (.seq .no (.seq .no (.seq (.seq .no (.blk (.loop [.slot 1 false (.int .u64), .keep 6 6, .keep 8 8, .slot 9 false (.int .i64), .obj 6 (.pair (.own (.int .u8)) (.int .i64)), .obj 8 (.pair (.own (.int .u8)) (.int .i64))] [(.exit 0, [.keep 6 6, .keep 8 8, .obj 6 (.pair (.own (.int .u8)) (.int .i64)), .obj 8 (.pair (.own (.int .u8)) (.int .i64))])] .no))) .no)))))
theorem e64 (x : denL [(true, (.pair (.sl (.int .u8)) (.int .i64))), (false, (.int .u64)), (false, (.int .i64))]) : evalF tab s64 8 Try.f64 (Try.f64.body.getD .skip) n64 [(true, (.pair (.sl (.int .u8)) (.int .i64))), (false, (.int .u64)), (false, (.int .i64))] [(true, (.pair (.own (.int .u8)) (.int .i64))), (false, (.int .i64))] x = g_r01_Put x.1 x.2.1 x.2.2 := by kernel_rfl
theorem c64 : Contract Try.prog 64 [(true, (.pair (.sl (.int .u8)) (.int .i64))), (false, (.int .u64)), (false, (.int .i64))] [(true, (.pair (.own (.int .u8)) (.int .i64))), (false, (.int .i64))] (fun x => g_r01_Put x.1 x.2.1 x.2.2) := evalF_contract tabOK mixed h64 Try.func64 (body := Try.f64.body.getD .skip) (by kernel_rfl) (by kernel_rfl) e64

noncomputable def s46 : List (Nat × Callee) := [(64, .sem [(true, (.pair (.sl (.int .u8)) (.int .i64))), (false, (.int .u64)), (false, (.int .i64))] [(true, (.pair (.own (.int .u8)) (.int .i64))), (false, (.int .i64))] fun x => g_r01_Put x.1 x.2.1 x.2.2)]
theorem h46 : HOK Try.prog (handler tab s46 8) := handler_sound tabOK mixed (callsOK_get (l := s46) ⟨c64, trivial⟩) 8
def n46 : Ann := (.seq .no (.seq .no (.seq (.blk (.loop [.slot 1 false (.int .u64), .slot 2 false (.int .i64), .keep 3 3, .keep 6 6, .slot 8 false (.int .i64), .obj 3 (.pair (.own (.int .u8)) (.int .i64)), .obj 6 (.pair (.own (.int .u8)) (.int .i64))] [(.exit 0, [.keep 3 3, .keep 6 6, .slot 8 false (.int .i64), .obj 3 (.pair (.own (.int .u8)) (.int .i64)), .obj 6 (.pair (.own (.int .u8)) (.int .i64))])] (.seq (.seq (.join [(.normal, [.slot 1 false (.int .u64), .slot 2 false (.int .i64), .keep 3 3, .keep 6 6, .slot 8 false (.int .i64), .slot 20 false .bool, .obj 3 (.pair (.own (.int .u8)) (.int .i64)), .obj 6 (.pair (.own (.int .u8)) (.int .i64))])] .no) .no) .no))) .no)))
theorem e46 (x : denL [(true, (.pair (.sl (.int .u8)) (.int .i64))), (false, (.int .u64)), (false, (.int .i64))]) : evalF tab s46 8 Try.f46 (Try.f46.body.getD .skip) n46 [(true, (.pair (.sl (.int .u8)) (.int .i64))), (false, (.int .u64)), (false, (.int .i64))] [(true, (.pair (.sl (.int .u8)) (.int .i64))), (false, (.int .i64))] x = g_r04_out x.1 x.2.1 x.2.2 := by kernel_rfl
theorem c46 : Contract Try.prog 46 [(true, (.pair (.sl (.int .u8)) (.int .i64))), (false, (.int .u64)), (false, (.int .i64))] [(true, (.pair (.sl (.int .u8)) (.int .i64))), (false, (.int .i64))] (fun x => g_r04_out x.1 x.2.1 x.2.2) := evalF_contract tabOK mixed h46 Try.func46 (body := Try.f46.body.getD .skip) (by kernel_rfl) (by kernel_rfl) e46

noncomputable def s14 : List (Nat × Callee) := [(12, .sem [(true, (.pair (.sl (.int .u8)) (.int .i64)))] [(true, (.pair (.own (.int .u8)) (.int .i64)))] fun x => g_r01_Copy x),
  (42, .sem [(true, (.sl (.int .i64))), (false, (.int .i64))] [(false, (.int .i64)), (false, (.int .i64)), (false, (.int .i64))] fun x => g_r03_Span x.1 x.2),
  (43, .sem [(true, (.pair (.int .u32) (.pair (.int .u32) (.pair (.int .i64) (.pair (.sl (.int .u8)) (.int .i64))))))] [(false, .bool)] fun x => g_r04_CheckEnc x),
  (44, .sem [(false, (.int .u64)), (false, (.int .u64)), (false, (.int .i64)), (false, (.int .i64)), (false, (.int .i64))] [(false, (.int .u64)), (false, (.int .u64))] fun x => g_r04_narrow x.1 x.2.1 x.2.2.1 x.2.2.2.1 x.2.2.2.2),
  (45, .sem [(true, (.sl (.int .i64)))] [(false, (.int .i64))] fun x => g_r03_Total x),
  (46, .sem [(true, (.pair (.sl (.int .u8)) (.int .i64))), (false, (.int .u64)), (false, (.int .i64))] [(true, (.pair (.sl (.int .u8)) (.int .i64))), (false, (.int .i64))] fun x => g_r04_out x.1 x.2.1 x.2.2)]
theorem h14 : HOK Try.prog (handler tab s14 8) := handler_sound tabOK mixed (callsOK_get (l := s14) ⟨c12, c42, c43, c44, c45, c46, trivial⟩) 8
def n14 : Ann := (.seq .no (.seq .no (.seq (.seq (.join [(.normal, [.keep 3 3, .keep 4 4, .keep 6 6, .slot 8 false (.int .i64), .slot 9 false (.int .i64), .slot 31 false .bool, .obj 3 (.pair (.int .u32) (.pair (.int .u32) (.pair (.int .i64) (.pair (.sl (.int .u8)) (.int .i64))))), .obj 4 (.sl (.int .i64)), .obj 6 (.pair (.int .u32) (.pair (.int .u32) (.pair (.int .i64) (.pair (.own (.int .u8)) (.int .i64)))))])] .no) .no) (.seq (.draw [0, 1, 2, 3, 4, 5, 6, 7, 8, 9, 10, 11, 12, 13, 14, 15]) (.seq (.draw [0, 1, 2, 3, 4, 5, 6, 7]) (.blk (.loop [.keep 6 6, .slot 11 false (.int .u64), .slot 12 false (.int .u64), .keep 13 13, .obj 6 (.pair (.int .u32) (.pair (.int .u32) (.pair (.int .i64) (.pair (.own (.int .u8)) (.int .i64))))), .obj 13 (.pair (.int .u32) (.pair (.int .u32) (.pair (.int .i64) (.pair (.sl (.int .u8)) (.int .i64)))))] [(.ret, [.keep 6 6, .slot 7 false (.int .i64), .obj 6 (.pair (.int .u32) (.pair (.int .u32) (.pair (.int .i64) (.pair (.sl (.int .u8)) (.int .i64)))))])] (.blk (.seq .no (.seq .no (.seq (.join [(.normal, [.keep 6 6, .slot 11 false (.int .u64), .slot 12 false (.int .u64), .keep 13 13, .slot 14 false (.int .u64), .slot 15 false (.int .u64), .obj 6 (.pair (.int .u32) (.pair (.int .u32) (.pair (.int .i64) (.pair (.own (.int .u8)) (.int .i64))))), .obj 13 (.pair (.int .u32) (.pair (.int .u32) (.pair (.int .i64) (.pair (.sl (.int .u8)) (.int .i64)))))]), (.ret, [.keep 6 6, .slot 7 false (.int .i64), .obj 6 (.pair (.int .u32) (.pair (.int .u32) (.pair (.int .i64) (.pair (.sl (.int .u8)) (.int .i64)))))])] (.blk (.seq .no (.cond .no (.seq .no (.cond .no (.seq (.join [(.normal, [.keep 6 6, .slot 11 false (.int .u64), .slot 12 false (.int .u64), .keep 13 13, .slot 15 false (.int .u64), .slot 70 false .bool, .obj 6 (.pair (.int .u32) (.pair (.int .u32) (.pair (.int .i64) (.pair (.own (.int .u8)) (.int .i64))))), .obj 13 (.pair (.int .u32) (.pair (.int .u32) (.pair (.int .i64) (.pair (.sl (.int .u8)) (.int .i64)))))])] .no) .no))))))) (.seq (.join [(.normal, [.keep 6 6, .slot 11 false (.int .u64), .slot 12 false (.int .u64), .keep 13 13, .slot 14 false (.int .u64), .obj 6 (.pair (.int .u32) (.pair (.int .u32) (.pair (.int .i64) (.pair (.own (.int .u8)) (.int .i64))))), .obj 13 (.pair (.int .u32) (.pair (.int .u32) (.pair (.int .i64) (.pair (.sl (.int .u8)) (.int .i64)))))]), (.ret, [.keep 6 6, .slot 7 false (.int .i64), .obj 6 (.pair (.int .u32) (.pair (.int .u32) (.pair (.int .i64) (.pair (.own (.int .u8)) (.int .i64)))))])] .no) .no))))))))))))
theorem e14 (x : denL [(true, (.pair (.int .u32) (.pair (.int .u32) (.pair (.int .i64) (.pair (.sl (.int .u8)) (.int .i64)))))), (true, (.sl (.int .i64))), (false, (.int .i64))]) : evalF tab s14 8 Try.f14 (Try.f14.body.getD .skip) n14 [(true, (.pair (.int .u32) (.pair (.int .u32) (.pair (.int .i64) (.pair (.sl (.int .u8)) (.int .i64)))))), (true, (.sl (.int .i64))), (false, (.int .i64))] [(true, (.pair (.int .u32) (.pair (.int .u32) (.pair (.int .i64) (.pair (.sl (.int .u8)) (.int .i64)))))), (false, (.int .i64))] x = g_r04_Put x.1 x.2.1 x.2.2 := by kernel_rfl
theorem c14 : Contract Try.prog 14 [(true, (.pair (.int .u32) (.pair (.int .u32) (.pair (.int .i64) (.pair (.sl (.int .u8)) (.int .i64)))))), (true, (.sl (.int .i64))), (false, (.int .i64))] [(true, (.pair (.int .u32) (.pair (.int .u32) (.pair (.int .i64) (.pair (.sl (.int .u8)) (.int .i64)))))), (false, (.int .i64))] (fun x => g_r04_Put x.1 x.2.1 x.2.2) := evalF_contract tabOK mixed h14 Try.func14 (body := Try.f14.body.getD .skip) (by kernel_rfl) (by kernel_rfl) e14

noncomputable def s16 : List (Nat × Callee) := [(43, .sem [(true, (.pair (.int .u32) (.pair (.int .u32) (.pair (.int .i64) (.pair (.sl (.int .u8)) (.int .i64))))))] [(false, .bool)] fun x => g_r04_CheckEnc x),
  (46, .sem [(true, (.pair (.sl (.int .u8)) (.int .i64))), (false, (.int .u64)), (false, (.int .i64))] [(true, (.pair (.sl (.int .u8)) (.int .i64))), (false, (.int .i64))] fun x => g_r04_out x.1 x.2.1 x.2.2)]
theorem h16 : HOK Try.prog (handler tab s16 8) := handler_sound tabOK mixed (callsOK_get (l := s16) ⟨c43, c46, trivial⟩) 8
def n16 : Ann := (.seq .no (.seq .no (.seq .no (.seq (.join [(.normal, [.keep 1 1, .keep 2 2, .slot 4 false (.int .u64), .obj 1 (.pair (.int .u32) (.pair (.int .u32) (.pair (.int .i64) (.pair (.sl (.int .u8)) (.int .i64))))), .obj 2 (.pair (.own (.int .u8)) (.int .i64))])] .no) .no))))
theorem e16 (x : denL [(true, (.pair (.int .u32) (.pair (.int .u32) (.pair (.int .i64) (.pair (.sl (.int .u8)) (.int .i64))))))]) : evalF tab s16 8 Try.f16 (Try.f16.body.getD .skip) n16 [(true, (.pair (.int .u32) (.pair (.int .u32) (.pair (.int .i64) (.pair (.sl (.int .u8)) (.int .i64))))))] [(true, (.pair (.sl (.int .u8)) (.int .i64))), (false, (.int .i64))] x = g_r04_End x := by kernel_rfl
theorem c16 : Contract Try.prog 16 [(true, (.pair (.int .u32) (.pair (.int .u32) (.pair (.int .i64) (.pair (.sl (.int .u8)) (.int .i64))))))] [(true, (.pair (.sl (.int .u8)) (.int .i64))), (false, (.int .i64))] (fun x => g_r04_End x) := evalF_contract tabOK mixed h16 Try.func16 (body := Try.f16.body.getD .skip) (by kernel_rfl) (by kernel_rfl) e16

noncomputable def s18 : List (Nat × Callee) := []
theorem h18 : HOK Try.prog (handler tab s18 8) := handler_sound tabOK mixed (callsOK_get (l := s18) trivial) 8
def n18 : Ann := .no
theorem e18 (x : denL [(true, (.pair (.sl (.int .u8)) (.int .i64))), (true, (.pair (.sl (.int .u8)) (.int .i64)))]) : evalF tab s18 8 Try.f18 (Try.f18.body.getD .skip) n18 [(true, (.pair (.sl (.int .u8)) (.int .i64))), (true, (.pair (.sl (.int .u8)) (.int .i64)))] [(false, .bool)] x = g_r01_Same x.1 x.2 := by kernel_rfl
theorem c18 : Contract Try.prog 18 [(true, (.pair (.sl (.int .u8)) (.int .i64))), (true, (.pair (.sl (.int .u8)) (.int .i64)))] [(false, .bool)] (fun x => g_r01_Same x.1 x.2) := evalF_contract tabOK mixed h18 Try.func18 (body := Try.f18.body.getD .skip) (by kernel_rfl) (by kernel_rfl) e18

noncomputable def s17 : List (Nat × Callee) := [(18, .sem [(true, (.pair (.sl (.int .u8)) (.int .i64))), (true, (.pair (.sl (.int .u8)) (.int .i64)))] [(false, .bool)] fun x => g_r01_Same x.1 x.2)]
theorem h17 : HOK Try.prog (handler tab s17 8) := handler_sound tabOK mixed (callsOK_get (l := s17) ⟨c18, trivial⟩) 8
def n17 : Ann := .no
theorem e17 (x : denL [(true, (.pair (.int .u32) (.pair (.int .u32) (.pair (.int .i64) (.pair (.sl (.int .u8)) (.int .i64)))))), (true, (.pair (.int .u32) (.pair (.int .u32) (.pair (.int .i64) (.pair (.sl (.int .u8)) (.int .i64))))))]) : evalF tab s17 8 Try.f17 (Try.f17.body.getD .skip) n17 [(true, (.pair (.int .u32) (.pair (.int .u32) (.pair (.int .i64) (.pair (.sl (.int .u8)) (.int .i64)))))), (true, (.pair (.int .u32) (.pair (.int .u32) (.pair (.int .i64) (.pair (.sl (.int .u8)) (.int .i64))))))] [(false, .bool)] x = g_r04_SameEnc x.1 x.2 := by kernel_rfl
theorem c17 : Contract Try.prog 17 [(true, (.pair (.int .u32) (.pair (.int .u32) (.pair (.int .i64) (.pair (.sl (.int .u8)) (.int .i64)))))), (true, (.pair (.int .u32) (.pair (.int .u32) (.pair (.int .i64) (.pair (.sl (.int .u8)) (.int .i64))))))] [(false, .bool)] (fun x => g_r04_SameEnc x.1 x.2) := evalF_contract tabOK mixed h17 Try.func17 (body := Try.f17.body.getD .skip) (by kernel_rfl) (by kernel_rfl) e17

noncomputable def s20 : List (Nat × Callee) := []
theorem h20 : HOK Try.prog (handler tab s20 8) := handler_sound tabOK mixed (callsOK_get (l := s20) trivial) 8
def n20 : Ann := .no
theorem e20 (x : denL []) : evalF tab s20 8 Try.f20 (Try.f20.body.getD .skip) n20 [] [(true, (.pair (.int .u32) (.pair (.int .u32) (.pair (.int .i64) (.pair (.sl (.int .u8)) (.int .i64))))))] x = g_r04_Begin := by kernel_rfl
theorem c20 : Contract Try.prog 20 [] [(true, (.pair (.int .u32) (.pair (.int .u32) (.pair (.int .i64) (.pair (.sl (.int .u8)) (.int .i64))))))] (fun x => g_r04_Begin) := evalF_contract tabOK mixed h20 Try.func20 (body := Try.f20.body.getD .skip) (by kernel_rfl) (by kernel_rfl) e20

noncomputable def s3 : List (Nat × Callee) := [(10, .sem [] [(false, .bool)] fun x => g_law04_live),
  (11, .sem [(true, (.pair (.sl (.int .u8)) (.int .i64))), (false, (.sl (.sl (.int .i64))))] [(false, .bool)] fun x => g_law04_few x.1 x.2),
  (12, .sem [(true, (.pair (.sl (.int .u8)) (.int .i64)))] [(true, (.pair (.own (.int .u8)) (.int .i64)))] fun x => g_r01_Copy x),
  (13, .sem [(true, (.pair (.int .u32) (.pair (.int .u32) (.pair (.int .i64) (.pair (.sl (.int .u8)) (.int .i64)))))), (true, (.sl (.int .i64))), (false, (.int .i64))] [(true, (.pair (.int .u32) (.pair (.int .u32) (.pair (.int .i64) (.pair (.own (.int .u8)) (.int .i64)))))), (false, (.int .i64))] fun x => g_coder_Put x.1 x.2.1 x.2.2),
  (14, .sem [(true, (.pair (.int .u32) (.pair (.int .u32) (.pair (.int .i64) (.pair (.sl (.int .u8)) (.int .i64)))))), (true, (.sl (.int .i64))), (false, (.int .i64))] [(true, (.pair (.int .u32) (.pair (.int .u32) (.pair (.int .i64) (.pair (.sl (.int .u8)) (.int .i64)))))), (false, (.int .i64))] fun x => g_r04_Put x.1 x.2.1 x.2.2),
  (15, .sem [(true, (.pair (.int .u32) (.pair (.int .u32) (.pair (.int .i64) (.pair (.sl (.int .u8)) (.int .i64))))))] [(true, (.pair (.own (.int .u8)) (.int .i64))), (false, (.int .i64))] fun x => g_coder_End x),
  (16, .sem [(true, (.pair (.int .u32) (.pair (.int .u32) (.pair (.int .i64) (.pair (.sl (.int .u8)) (.int .i64))))))] [(true, (.pair (.sl (.int .u8)) (.int .i64))), (false, (.int .i64))] fun x => g_r04_End x),
  (17, .sem [(true, (.pair (.int .u32) (.pair (.int .u32) (.pair (.int .i64) (.pair (.sl (.int .u8)) (.int .i64)))))), (true, (.pair (.int .u32) (.pair (.int .u32) (.pair (.int .i64) (.pair (.sl (.int .u8)) (.int .i64))))))] [(false, .bool)] fun x => g_r04_SameEnc x.1 x.2),
  (18, .sem [(true, (.pair (.sl (.int .u8)) (.int .i64))), (true, (.pair (.sl (.int .u8)) (.int .i64)))] [(false, .bool)] fun x => g_r01_Same x.1 x.2),
  (19, .sem [] [(true, (.pair (.int .u32) (.pair (.int .u32) (.pair (.int .i64) (.pair (.sl (.int .u8)) (.int .i64))))))] fun x => g_coder_Begin),
  (20, .sem [] [(true, (.pair (.int .u32) (.pair (.int .u32) (.pair (.int .i64) (.pair (.sl (.int .u8)) (.int .i64))))))] fun x => g_r04_Begin)]
theorem h3 : HOK Try.prog (handler tab s3 8) := handler_sound tabOK mixed (callsOK_get (l := s3) ⟨c10, c11, c12, c13, c14, c15, c16, c17, c18, c19, c20, trivial⟩) 8
def n3 : Ann := (.seq .no (.seq .no (.seq .no (.seq .no (.seq .no (.seq .no (.seq .no (.seq .no (.seq (.seq (.join [(.normal, [.keep 3 3, .slot 7 false .bool, .keep 8 8, .keep 9 9, .keep 13 13, .slot 79 false .bool, .obj 3 (.pair (.int .u32) (.pair (.int .u32) (.pair (.int .i64) (.pair (.sl (.int .u8)) (.int .i64))))), .obj 8 (.pair (.own (.int .u8)) (.int .i64)), .obj 9 (.pair (.int .u32) (.pair (.int .u32) (.pair (.int .i64) (.pair (.own (.int .u8)) (.int .i64))))), .obj 13 (.pair (.own (.int .u8)) (.int .i64))])] .no) .no) (.seq (.seq .no (.blk (.loop [.keep 3 3, .slot 7 false .bool, .keep 8 8, .keep 9 9, .keep 13 13, .slot 83 false (.int .i64), .slot 84 false (.int .i64), .obj 3 (.pair (.int .u32) (.pair (.int .u32) (.pair (.int .i64) (.pair (.sl (.int .u8)) (.int .i64))))), .obj 8 (.pair (.own (.int .u8)) (.int .i64)), .obj 9 (.pair (.int .u32) (.pair (.int .u32) (.pair (.int .i64) (.pair (.own (.int .u8)) (.int .i64))))), .obj 13 (.pair (.own (.int .u8)) (.int .i64))] [(.exit 0, [.keep 3 3, .slot 7 false .bool, .keep 8 8, .keep 13 13, .obj 3 (.pair (.int .u32) (.pair (.int .u32) (.pair (.int .i64) (.pair (.sl (.int .u8)) (.int .i64))))), .obj 8 (.pair (.own (.int .u8)) (.int .i64)), .obj 13 (.pair (.own (.int .u8)) (.int .i64))])] .no))) (.seq (.seq .no (.blk (.loop [.keep 3 3, .slot 7 false .bool, .keep 8 8, .keep 13 13, .keep 96 96, .slot 98 false (.int .i64), .slot 99 false (.int .i64), .obj 3 (.pair (.int .u32) (.pair (.int .u32) (.pair (.int .i64) (.pair (.sl (.int .u8)) (.int .i64))))), .obj 8 (.pair (.own (.int .u8)) (.int .i64)), .obj 96 (.pair (.own (.int .u8)) (.int .i64))] [(.exit 2, [.keep 3 3, .slot 7 false .bool, .keep 8 8, .obj 3 (.pair (.int .u32) (.pair (.int .u32) (.pair (.int .i64) (.pair (.sl (.int .u8)) (.int .i64))))), .obj 8 (.pair (.own (.int .u8)) (.int .i64))])] .no))) .no)))))))))))
theorem e3 (x : denL [(true, (.pair (.int .u32) (.pair (.int .u32) (.pair (.int .i64) (.pair (.sl (.int .u8)) (.int .i64)))))), (true, (.sl (.int .i64))), (false, (.int .i64))]) : evalF tab s3 8 Try.f3 (Try.f3.body.getD .skip) n3 [(true, (.pair (.int .u32) (.pair (.int .u32) (.pair (.int .i64) (.pair (.sl (.int .u8)) (.int .i64)))))), (true, (.sl (.int .i64))), (false, (.int .i64))] [(false, .bool)] x = g_law04_CoderPuts x.1 x.2.1 x.2.2 := by kernel_rfl
theorem c3 : Contract Try.prog 3 [(true, (.pair (.int .u32) (.pair (.int .u32) (.pair (.int .i64) (.pair (.sl (.int .u8)) (.int .i64)))))), (true, (.sl (.int .i64))), (false, (.int .i64))] [(false, .bool)] (fun x => g_law04_CoderPuts x.1 x.2.1 x.2.2) := evalF_contract tabOK mixed h3 Try.func3 (body := Try.f3.body.getD .skip) (by kernel_rfl) (by kernel_rfl) e3

noncomputable def s53 : List (Nat × Callee) := [(57, .sem [(true, (.pair (.sl (.int .u8)) (.int .i64)))] [(false, (.int .i64))] fun x => g_r01_Check x),
  (63, .sem [(false, (.int .u64)), (false, (.int .u64))] [(false, .bool)] fun x => g_r04_wide x.1 x.2)]
theorem h53 : HOK Try.prog (handler tab s53 8) := handler_sound tabOK mixed (callsOK_get (l := s53) ⟨c57, c63, trivial⟩) 8
def n53 : Ann := .no
theorem e53 (x : denL [(true, (.pair (.int .u32) (.pair (.int .u32) (.pair (.int .u32) (.pair (.pair (.sl (.int .u8)) (.int .i64)) (.int .i64))))))]) : evalF tab s53 8 Try.f53 (Try.f53.body.getD .skip) n53 [(true, (.pair (.int .u32) (.pair (.int .u32) (.pair (.int .u32) (.pair (.pair (.sl (.int .u8)) (.int .i64)) (.int .i64))))))] [(false, .bool)] x = g_r04_CheckDec x := by kernel_rfl
theorem c53 : Contract Try.prog 53 [(true, (.pair (.int .u32) (.pair (.int .u32) (.pair (.int .u32) (.pair (.pair (.sl (.int .u8)) (.int .i64)) (.int .i64))))))] [(false, .bool)] (fun x => g_r04_CheckDec x) := evalF_contract tabOK mixed h53 Try.func53 (body := Try.f53.body.getD .skip) (by kernel_rfl) (by kernel_rfl) e53

noncomputable def s55 : List (Nat × Callee) := [(45, .sem [(true, (.sl (.int .i64)))] [(false, (.int .i64))] fun x => g_r03_Total x),
  (54, .sem [(true, (.sl (.int .i64)))] [(false, (.int .i64))] fun x => g_r03_Check x)]
theorem h55 : HOK Try.prog (handler tab s55 8) := handler_sound tabOK mixed (callsOK_get (l := s55) ⟨c45, c54, trivial⟩) 8
def n55 : Ann := (.seq .no (.seq (.seq (.join [(.normal, [.slot 1 false (.int .i64), .keep 2 2, .slot 19 false .bool, .obj 2 (.sl (.int .i64))])] .no) .no) (.seq .no (.seq (.blk (.loop [.slot 1 false (.int .i64), .keep 2 2, .slot 6 false (.int .i64), .obj 2 (.sl (.int .i64))] [(.exit 0, [.slot 6 false (.int .i64)])] .no)) .no))))
theorem e55 (x : denL [(true, (.sl (.int .i64))), (false, (.int .i64))]) : evalF tab s55 8 Try.f55 (Try.f55.body.getD .skip) n55 [(true, (.sl (.int .i64))), (false, (.int .i64))] [(false, (.int .i64)), (false, (.int .i64))] x = g_r03_Find x.1 x.2 := by kernel_rfl
theorem c55 : Contract Try.prog 55 [(true, (.sl (.int .i64))), (false, (.int .i64))] [(false, (.int .i64)), (false, (.int .i64))] (fun x => g_r03_Find x.1 x.2) := evalF_contract tabOK mixed h55 Try.func55 (body := Try.f55.body.getD .skip) (by kernel_rfl) (by kernel_rfl) e55

noncomputable def s67 : List (Nat × Callee) := [(57, .sem [(true, (.pair (.sl (.int .u8)) (.int .i64)))] [(false, (.int .i64))] fun x => g_r01_Check x),
  (68, .sem [(true, (.pair (.sl (.int .u8)) (.int .i64))), (false, (.int .i64))] [(false, (.int .u64))] fun x => g_r01_bit x.1 x.2)]
theorem h67 : HOK Try.prog (handler tab s67 8) := handler_sound tabOK mixed (callsOK_get (l := s67) ⟨c57, c68, trivial⟩) 8
def n67 : Ann := (.seq .no (.seq (.seq (.join [(.normal, [.slot 1 false (.int .i64), .slot 2 false (.int .i64), .keep 3 3, .slot 24 false .bool, .obj 3 (.pair (.sl (.int .u8)) (.int .i64))])] .no) .no) (.seq (.seq (.join [(.normal, [.slot 1 false (.int .i64), .slot 2 false (.int .i64), .keep 3 3, .slot 36 false .bool, .obj 3 (.pair (.sl (.int .u8)) (.int .i64))])] .no) .no) (.seq .no (.seq (.seq .no (.blk (.loop [.slot 1 false (.int .i64), .keep 3 3, .slot 8 false (.int .u64), .slot 37 false (.int .i64), .slot 38 false (.int .i64), .obj 3 (.pair (.sl (.int .u8)) (.int .i64))] [(.exit 0, [.slot 8 false (.int .u64)])] .no))) .no)))))
theorem e67 (x : denL [(true, (.pair (.sl (.int .u8)) (.int .i64))), (false, (.int .i64)), (false, (.int .i64))]) : evalF tab s67 8 Try.f67 (Try.f67.body.getD .skip) n67 [(true, (.pair (.sl (.int .u8)) (.int .i64))), (false, (.int .i64)), (false, (.int .i64))] [(false, (.int .u64)), (false, (.int .i64))] x = g_r01_Get x.1 x.2.1 x.2.2 := by kernel_rfl
theorem c67 : Contract Try.prog 67 [(true, (.pair (.sl (.int .u8)) (.int .i64))), (false, (.int .i64)), (false, (.int .i64))] [(false, (.int .u64)), (false, (.int .i64))] (fun x => g_r01_Get x.1 x.2.1 x.2.2) := evalF_contract tabOK mixed h67 Try.func67 (body := Try.f67.body.getD .skip) (by kernel_rfl) (by kernel_rfl) e67

noncomputable def s56 : List (Nat × Callee) := [(67, .sem [(true, (.pair (.sl (.int .u8)) (.int .i64))), (false, (.int .i64)), (false, (.int .i64))] [(false, (.int .u64)), (false, (.int .i64))] fun x => g_r01_Get x.1 x.2.1 x.2.2)]
theorem h56 : HOK Try.prog (handler tab s56 8) := handler_sound tabOK mixed (callsOK_get (l := s56) ⟨c67, trivial⟩) 8
def n56 : Ann := .no
theorem e56 (x : denL [(true, (.pair (.sl (.int .u8)) (.int .i64))), (false, (.int .i64))]) : evalF tab s56 8 Try.f56 (Try.f56.body.getD .skip) n56 [(true, (.pair (.sl (.int .u8)) (.int .i64))), (false, (.int .i64))] [(false, (.int .u64))] x = g_r04_bitAt x.1 x.2 := by kernel_rfl
theorem c56 : Contract Try.prog 56 [(true, (.pair (.sl (.int .u8)) (.int .i64))), (false, (.int .i64))] [(false, (.int .u64))] (fun x => g_r04_bitAt x.1 x.2) := evalF_contract tabOK mixed h56 Try.func56 (body := Try.f56.body.getD .skip) (by kernel_rfl) (by kernel_rfl) e56

noncomputable def s22 : List (Nat × Callee) := [(12, .sem [(true, (.pair (.sl (.int .u8)) (.int .i64)))] [(true, (.pair (.own (.int .u8)) (.int .i64)))] fun x => g_r01_Copy x),
  (42, .sem [(true, (.sl (.int .i64))), (false, (.int .i64))] [(false, (.int .i64)), (false, (.int .i64)), (false, (.int .i64))] fun x => g_r03_Span x.1 x.2),
  (44, .sem [(false, (.int .u64)), (false, (.int .u64)), (false, (.int .i64)), (false, (.int .i64)), (false, (.int .i64))] [(false, (.int .u64)), (false, (.int .u64))] fun x => g_r04_narrow x.1 x.2.1 x.2.2.1 x.2.2.2.1 x.2.2.2.2),
  (45, .sem [(true, (.sl (.int .i64)))] [(false, (.int .i64))] fun x => g_r03_Total x),
  (53, .sem [(true, (.pair (.int .u32) (.pair (.int .u32) (.pair (.int .u32) (.pair (.pair (.sl (.int .u8)) (.int .i64)) (.int .i64))))))] [(false, .bool)] fun x => g_r04_CheckDec x),
  (54, .sem [(true, (.sl (.int .i64)))] [(false, (.int .i64))] fun x => g_r03_Check x),
  (55, .sem [(true, (.sl (.int .i64))), (false, (.int .i64))] [(false, (.int .i64)), (false, (.int .i64))] fun x => g_r03_Find x.1 x.2),
  (56, .sem [(true, (.pair (.sl (.int .u8)) (.int .i64))), (false, (.int .i64))] [(false, (.int .u64))] fun x => g_r04_bitAt x.1 x.2)]
theorem h22 : HOK Try.prog (handler tab s22 8) := handler_sound tabOK mixed (callsOK_get (l := s22) ⟨c12, c42, c44, c45, c53, c54, c55, c56, trivial⟩) 8
def n22 : Ann := (.seq .no (.seq (.seq (.join [(.normal, [.keep 2 2, .keep 3 3, .keep 4 4, .slot 25 false .bool, .obj 2 (.pair (.int .u32) (.pair (.int .u32) (.pair (.int .u32) (.pair (.pair (.sl (.int .u8)) (.int .i64)) (.int .i64))))), .obj 3 (.sl (.int .i64)), .obj 4 (.pair (.int .u32) (.pair (.int .u32) (.pair (.int .u32) (.pair (.pair (.own (.int .u8)) (.int .i64)) (.int .i64)))))])] .no) .no) (.seq .no (.seq .no (.seq .no (.seq .no (.seq .no (.seq (.draw [0, 1, 2, 3, 4, 5, 6, 7, 8, 9, 10, 11, 12, 13, 14, 15, 16, 17, 18, 19, 20]) (.seq .no (.seq .no (.seq .no (.blk (.loop [.keep 2 2, .keep 4 4, .slot 7 false (.int .u64), .slot 8 false (.int .u64), .slot 9 false (.int .u64), .slot 11 false (.int .i64), .slot 16 false (.int .i64), .keep 35 35, .obj 35 (.pair (.int .u32) (.pair (.int .u32) (.pair (.int .u32) (.pair (.pair (.sl (.int .u8)) (.int .i64)) (.int .i64))))), .obj 4 (.pair (.int .u32) (.pair (.int .u32) (.pair (.int .u32) (.pair (.pair (.own (.int .u8)) (.int .i64)) (.int .i64)))))] [(.ret, [.keep 4 4, .slot 5 false (.int .i64), .slot 6 false (.int .i64), .obj 4 (.pair (.int .u32) (.pair (.int .u32) (.pair (.int .u32) (.pair (.pair (.own (.int .u8)) (.int .i64)) (.int .i64)))))])] (.blk (.seq .no (.seq (.join [(.normal, [.keep 2 2, .keep 4 4, .slot 7 false (.int .u64), .slot 8 false (.int .u64), .slot 9 false (.int .u64), .slot 11 false (.int .i64), .slot 16 false (.int .i64), .slot 17 false (.int .u64), .keep 35 35, .obj 35 (.pair (.int .u32) (.pair (.int .u32) (.pair (.int .u32) (.pair (.pair (.sl (.int .u8)) (.int .i64)) (.int .i64))))), .obj 4 (.pair (.int .u32) (.pair (.int .u32) (.pair (.int .u32) (.pair (.pair (.own (.int .u8)) (.int .i64)) (.int .i64)))))]), (.ret, [.keep 4 4, .slot 5 false (.int .i64), .slot 6 false (.int .i64), .obj 4 (.pair (.int .u32) (.pair (.int .u32) (.pair (.int .u32) (.pair (.pair (.own (.int .u8)) (.int .i64)) (.int .i64)))))])] (.blk (.seq .no (.cond .no (.seq .no (.cond .no (.seq (.join [(.normal, [.keep 2 2, .keep 4 4, .slot 7 false (.int .u64), .slot 8 false (.int .u64), .slot 9 false (.int .u64), .slot 11 false (.int .i64), .slot 16 false (.int .i64), .keep 35 35, .slot 101 false .bool, .obj 35 (.pair (.int .u32) (.pair (.int .u32) (.pair (.int .u32) (.pair (.pair (.sl (.int .u8)) (.int .i64)) (.int .i64))))), .obj 4 (.pair (.int .u32) (.pair (.int .u32) (.pair (.int .u32) (.pair (.pair (.own (.int .u8)) (.int .i64)) (.int .i64)))))])] .no) .no))))))) .no))))))))))))))))
theorem e22 (x : denL [(true, (.pair (.int .u32) (.pair (.int .u32) (.pair (.int .u32) (.pair (.pair (.sl (.int .u8)) (.int .i64)) (.int .i64)))))), (true, (.sl (.int .i64)))]) : evalF tab s22 8 Try.f22 (Try.f22.body.getD .skip) n22 [(true, (.pair (.int .u32) (.pair (.int .u32) (.pair (.int .u32) (.pair (.pair (.sl (.int .u8)) (.int .i64)) (.int .i64)))))), (true, (.sl (.int .i64)))] [(true, (.pair (.int .u32) (.pair (.int .u32) (.pair (.int .u32) (.pair (.pair (.sl (.int .u8)) (.int .i64)) (.int .i64)))))), (false, (.int .i64)), (false, (.int .i64))] x = g_r04_Next x.1 x.2 := by kernel_rfl
theorem c22 : Contract Try.prog 22 [(true, (.pair (.int .u32) (.pair (.int .u32) (.pair (.int .u32) (.pair (.pair (.sl (.int .u8)) (.int .i64)) (.int .i64)))))), (true, (.sl (.int .i64)))] [(true, (.pair (.int .u32) (.pair (.int .u32) (.pair (.int .u32) (.pair (.pair (.sl (.int .u8)) (.int .i64)) (.int .i64)))))), (false, (.int .i64)), (false, (.int .i64))] (fun x => g_r04_Next x.1 x.2) := evalF_contract tabOK mixed h22 Try.func22 (body := Try.f22.body.getD .skip) (by kernel_rfl) (by kernel_rfl) e22

noncomputable def s24 : List (Nat × Callee) := [(12, .sem [(true, (.pair (.sl (.int .u8)) (.int .i64)))] [(true, (.pair (.own (.int .u8)) (.int .i64)))] fun x => g_r01_Copy x),
  (56, .sem [(true, (.pair (.sl (.int .u8)) (.int .i64))), (false, (.int .i64))] [(false, (.int .u64))] fun x => g_r04_bitAt x.1 x.2),
  (57, .sem [(true, (.pair (.sl (.int .u8)) (.int .i64)))] [(false, (.int .i64))] fun x => g_r01_Check x)]
theorem h24 : HOK Try.prog (handler tab s24 8) := handler_sound tabOK mixed (callsOK_get (l := s24) ⟨c12, c56, c57, trivial⟩) 8
def n24 : Ann := (.seq .no (.seq .no (.seq .no (.seq (.seq .no (.blk (.loop [.keep 1 1, .keep 2 2, .slot 4 false (.int .u64), .slot 10 false (.int .i64), .obj 1 (.pair (.sl (.int .u8)) (.int .i64)), .obj 2 (.pair (.int .u32) (.pair (.int .u32) (.pair (.int .u32) (.pair (.pair (.own (.int .u8)) (.int .i64)) (.int .i64)))))] [(.exit 0, [.keep 1 1, .keep 2 2, .slot 4 false (.int .u64), .obj 1 (.pair (.sl (.int .u8)) (.int .i64)), .obj 2 (.pair (.int .u32) (.pair (.int .u32) (.pair (.int .u32) (.pair (.pair (.own (.int .u8)) (.int .i64)) (.int .i64)))))])] .no))) .no))))
theorem e24 (x : denL [(true, (.pair (.sl (.int .u8)) (.int .i64)))]) : evalF tab s24 8 Try.f24 (Try.f24.body.getD .skip) n24 [(true, (.pair (.sl (.int .u8)) (.int .i64)))] [(true, (.pair (.int .u32) (.pair (.int .u32) (.pair (.int .u32) (.pair (.pair (.sl (.int .u8)) (.int .i64)) (.int .i64)))))), (false, (.int .i64))] x = g_r04_Start x := by kernel_rfl
theorem c24 : Contract Try.prog 24 [(true, (.pair (.sl (.int .u8)) (.int .i64)))] [(true, (.pair (.int .u32) (.pair (.int .u32) (.pair (.int .u32) (.pair (.pair (.sl (.int .u8)) (.int .i64)) (.int .i64)))))), (false, (.int .i64))] (fun x => g_r04_Start x) := evalF_contract tabOK mixed h24 Try.func24 (body := Try.f24.body.getD .skip) (by kernel_rfl) (by kernel_rfl) e24

noncomputable def s25 : List (Nat × Callee) := [(18, .sem [(true, (.pair (.sl (.int .u8)) (.int .i64))), (true, (.pair (.sl (.int .u8)) (.int .i64)))] [(false, .bool)] fun x => g_r01_Same x.1 x.2)]
theorem h25 : HOK Try.prog (handler tab s25 8) := handler_sound tabOK mixed (callsOK_get (l := s25) ⟨c18, trivial⟩) 8
def n25 : Ann := .no
theorem e25 (x : denL [(true, (.pair (.int .u32) (.pair (.int .u32) (.pair (.int .u32) (.pair (.pair (.sl (.int .u8)) (.int .i64)) (.int .i64)))))), (true, (.pair (.int .u32) (.pair (.int .u32) (.pair (.int .u32) (.pair (.pair (.sl (.int .u8)) (.int .i64)) (.int .i64))))))]) : evalF tab s25 8 Try.f25 (Try.f25.body.getD .skip) n25 [(true, (.pair (.int .u32) (.pair (.int .u32) (.pair (.int .u32) (.pair (.pair (.sl (.int .u8)) (.int .i64)) (.int .i64)))))), (true, (.pair (.int .u32) (.pair (.int .u32) (.pair (.int .u32) (.pair (.pair (.sl (.int .u8)) (.int .i64)) (.int .i64))))))] [(false, .bool)] x = g_r04_SameDec x.1 x.2 := by kernel_rfl
theorem c25 : Contract Try.prog 25 [(true, (.pair (.int .u32) (.pair (.int .u32) (.pair (.int .u32) (.pair (.pair (.sl (.int .u8)) (.int .i64)) (.int .i64)))))), (true, (.pair (.int .u32) (.pair (.int .u32) (.pair (.int .u32) (.pair (.pair (.sl (.int .u8)) (.int .i64)) (.int .i64))))))] [(false, .bool)] (fun x => g_r04_SameDec x.1 x.2) := evalF_contract tabOK mixed h25 Try.func25 (body := Try.f25.body.getD .skip) (by kernel_rfl) (by kernel_rfl) e25

noncomputable def s4 : List (Nat × Callee) := [(10, .sem [] [(false, .bool)] fun x => g_law04_live),
  (11, .sem [(true, (.pair (.sl (.int .u8)) (.int .i64))), (false, (.sl (.sl (.int .i64))))] [(false, .bool)] fun x => g_law04_few x.1 x.2),
  (12, .sem [(true, (.pair (.sl (.int .u8)) (.int .i64)))] [(true, (.pair (.own (.int .u8)) (.int .i64)))] fun x => g_r01_Copy x),
  (18, .sem [(true, (.pair (.sl (.int .u8)) (.int .i64))), (true, (.pair (.sl (.int .u8)) (.int .i64)))] [(false, .bool)] fun x => g_r01_Same x.1 x.2),
  (21, .sem [(true, (.pair (.int .u32) (.pair (.int .u32) (.pair (.int .u32) (.pair (.pair (.sl (.int .u8)) (.int .i64)) (.int .i64)))))), (true, (.sl (.int .i64)))] [(true, (.pair (.int .u32) (.pair (.int .u32) (.pair (.int .u32) (.pair (.pair (.sl (.int .u8)) (.int .i64)) (.int .i64)))))), (false, (.int .i64)), (false, (.int .i64))] fun x => g_coder_Next x.1 x.2),
  (22, .sem [(true, (.pair (.int .u32) (.pair (.int .u32) (.pair (.int .u32) (.pair (.pair (.sl (.int .u8)) (.int .i64)) (.int .i64)))))), (true, (.sl (.int .i64)))] [(true, (.pair (.int .u32) (.pair (.int .u32) (.pair (.int .u32) (.pair (.pair (.sl (.int .u8)) (.int .i64)) (.int .i64)))))), (false, (.int .i64)), (false, (.int .i64))] fun x => g_r04_Next x.1 x.2),
  (23, .sem [(true, (.pair (.sl (.int .u8)) (.int .i64)))] [(true, (.pair (.int .u32) (.pair (.int .u32) (.pair (.int .u32) (.pair (.pair (.sl (.int .u8)) (.int .i64)) (.int .i64)))))), (false, (.int .i64))] fun x => g_coder_Start x),
  (24, .sem [(true, (.pair (.sl (.int .u8)) (.int .i64)))] [(true, (.pair (.int .u32) (.pair (.int .u32) (.pair (.int .u32) (.pair (.pair (.sl (.int .u8)) (.int .i64)) (.int .i64)))))), (false, (.int .i64))] fun x => g_r04_Start x),
  (25, .sem [(true, (.pair (.int .u32) (.pair (.int .u32) (.pair (.int .u32) (.pair (.pair (.sl (.int .u8)) (.int .i64)) (.int .i64)))))), (true, (.pair (.int .u32) (.pair (.int .u32) (.pair (.int .u32) (.pair (.pair (.sl (.int .u8)) (.int .i64)) (.int .i64))))))] [(false, .bool)] fun x => g_r04_SameDec x.1 x.2)]
theorem h4 : HOK Try.prog (handler tab s4 8) := handler_sound tabOK mixed (callsOK_get (l := s4) ⟨c10, c11, c12, c18, c21, c22, c23, c24, c25, trivial⟩) 8
def n4 : Ann := (.seq .no (.seq .no (.seq (.seq (.join [(.normal, [.keep 3 3, .keep 4 4, .keep 5 5, .slot 7 false .bool, .slot 30 false .bool, .obj 3 (.pair (.int .u32) (.pair (.int .u32) (.pair (.int .u32) (.pair (.pair (.sl (.int .u8)) (.int .i64)) (.int .i64))))), .obj 4 (.pair (.sl (.int .u8)) (.int .i64)), .obj 5 (.sl (.int .i64))])] .no) .no) (.seq .no (.seq .no (.seq .no (.seq .no (.seq .no (.seq (.seq (.join [(.normal, [.keep 3 3, .keep 5 5, .slot 7 false .bool, .keep 8 8, .keep 9 9, .keep 12 12, .keep 15 15, .keep 17 17, .slot 83 false .bool, .obj 3 (.pair (.int .u32) (.pair (.int .u32) (.pair (.int .u32) (.pair (.pair (.sl (.int .u8)) (.int .i64)) (.int .i64))))), .obj 5 (.sl (.int .i64)), .obj 8 (.pair (.own (.int .u8)) (.int .i64)), .obj 9 (.pair (.int .u32) (.pair (.int .u32) (.pair (.int .u32) (.pair (.pair (.sl (.int .u8)) (.int .i64)) (.int .i64))))), .obj 12 (.pair (.int .u32) (.pair (.int .u32) (.pair (.int .u32) (.pair (.pair (.sl (.int .u8)) (.int .i64)) (.int .i64))))), .obj 15 (.pair (.int .u32) (.pair (.int .u32) (.pair (.int .u32) (.pair (.pair (.sl (.int .u8)) (.int .i64)) (.int .i64))))), .obj 17 (.pair (.int .u32) (.pair (.int .u32) (.pair (.int .u32) (.pair (.pair (.sl (.int .u8)) (.int .i64)) (.int .i64)))))])] .no) .no) .no)))))))))
theorem e4 (x : denL [(true, (.pair (.int .u32) (.pair (.int .u32) (.pair (.int .u32) (.pair (.pair (.sl (.int .u8)) (.int .i64)) (.int .i64)))))), (true, (.pair (.sl (.int .u8)) (.int .i64))), (true, (.sl (.int .i64)))]) : evalF tab s4 8 Try.f4 (Try.f4.body.getD .skip) n4 [(true, (.pair (.int .u32) (.pair (.int .u32) (.pair (.int .u32) (.pair (.pair (.sl (.int .u8)) (.int .i64)) (.int .i64)))))), (true, (.pair (.sl (.int .u8)) (.int .i64))), (true, (.sl (.int .i64)))] [(false, .bool)] x = g_law04_CoderNexts x.1 x.2.1 x.2.2 := by kernel_rfl
theorem c4 : Contract Try.prog 4 [(true, (.pair (.int .u32) (.pair (.int .u32) (.pair (.int .u32) (.pair (.pair (.sl (.int .u8)) (.int .i64)) (.int .i64)))))), (true, (.pair (.sl (.int .u8)) (.int .i64))), (true, (.sl (.int .i64)))] [(false, .bool)] (fun x => g_law04_CoderNexts x.1 x.2.1 x.2.2) := evalF_contract tabOK mixed h4 Try.func4 (body := Try.f4.body.getD .skip) (by kernel_rfl) (by kernel_rfl) e4

noncomputable def s27 : List (Nat × Callee) := [(14, .sem [(true, (.pair (.int .u32) (.pair (.int .u32) (.pair (.int .i64) (.pair (.sl (.int .u8)) (.int .i64)))))), (true, (.sl (.int .i64))), (false, (.int .i64))] [(true, (.pair (.int .u32) (.pair (.int .u32) (.pair (.int .i64) (.pair (.sl (.int .u8)) (.int .i64)))))), (false, (.int .i64))] fun x => g_r04_Put x.1 x.2.1 x.2.2),
  (16, .sem [(true, (.pair (.int .u32) (.pair (.int .u32) (.pair (.int .i64) (.pair (.sl (.int .u8)) (.int .i64))))))] [(true, (.pair (.sl (.int .u8)) (.int .i64))), (false, (.int .i64))] fun x => g_r04_End x),
  (20, .sem [] [(true, (.pair (.int .u32) (.pair (.int .u32) (.pair (.int .i64) (.pair (.sl (.int .u8)) (.int .i64))))))] fun x => g_r04_Begin)]
theorem h27 : HOK Try.prog (handler tab s27 8) := handler_sound tabOK mixed (callsOK_get (l := s27) ⟨c14, c16, c20, trivial⟩) 8
def n27 : Ann := (.seq .no (.seq .no (.seq .no (.seq (.seq .no (.blk (.loop [.slot 1 false (.sl (.sl (.int .i64))), .keep 4 4, .keep 6 6, .slot 18 false (.sl (.int .i64)), .slot 19 false (.int .i64), .slot 20 false (.int .i64), .obj 4 (.pair (.own (.int .u8)) (.int .i64)), .obj 6 (.pair (.int .u32) (.pair (.int .u32) (.pair (.int .i64) (.pair (.sl (.int .u8)) (.int .i64)))))] [(.exit 0, [.keep 4 4, .keep 6 6, .obj 4 (.pair (.own (.int .u8)) (.int .i64)), .obj 6 (.pair (.int .u32) (.pair (.int .u32) (.pair (.int .i64) (.pair (.sl (.int .u8)) (.int .i64)))))]), (.ret, [.keep 4 4, .slot 5 false (.int .i64), .obj 4 (.pair (.own (.int .u8)) (.int .i64))])] (.seq .no (.seq .no (.seq (.blk (.seq .no (.seq (.draw [0, 1, 2, 3, 4, 5, 6, 7, 8, 9, 10, 11, 12]) .no))) .no)))))) .no))))
theorem e27 (x : denL [(false, (.sl (.int .i64))), (false, (.sl (.sl (.int .i64))))]) : evalF tab s27 8 Try.f27 (Try.f27.body.getD .skip) n27 [(false, (.sl (.int .i64))), (false, (.sl (.sl (.int .i64))))] [(true, (.pair (.sl (.int .u8)) (.int .i64))), (false, (.int .i64))] x = g_r04_All x.1 x.2 := by kernel_rfl
theorem c27 : Contract Try.prog 27 [(false, (.sl (.int .i64))), (false, (.sl (.sl (.int .i64))))] [(true, (.pair (.sl (.int .u8)) (.int .i64))), (false, (.int .i64))] (fun x => g_r04_All x.1 x.2) := evalF_contract tabOK mixed h27 Try.func27 (body := Try.f27.body.getD .skip) (by kernel_rfl) (by kernel_rfl) e27

noncomputable def s29 : List (Nat × Callee) := [(22, .sem [(true, (.pair (.int .u32) (.pair (.int .u32) (.pair (.int .u32) (.pair (.pair (.sl (.int .u8)) (.int .i64)) (.int .i64)))))), (true, (.sl (.int .i64)))] [(true, (.pair (.int .u32) (.pair (.int .u32) (.pair (.int .u32) (.pair (.pair (.sl (.int .u8)) (.int .i64)) (.int .i64)))))), (false, (.int .i64)), (false, (.int .i64))] fun x => g_r04_Next x.1 x.2),
  (24, .sem [(true, (.pair (.sl (.int .u8)) (.int .i64)))] [(true, (.pair (.int .u32) (.pair (.int .u32) (.pair (.int .u32) (.pair (.pair (.sl (.int .u8)) (.int .i64)) (.int .i64)))))), (false, (.int .i64))] fun x => g_r04_Start x)]
theorem h29 : HOK Try.prog (handler tab s29 8) := handler_sound tabOK mixed (callsOK_get (l := s29) ⟨c22, c24, trivial⟩) 8
def n29 : Ann := (.seq .no (.seq .no (.seq .no (.seq .no (.seq (.seq .no (.blk (.loop [.keep 6 6, .slot 8 false (.own (.int .i64)), .slot 22 false (.sl (.sl (.int .i64))), .slot 23 false (.int .i64), .slot 24 false (.int .i64), .obj 6 (.pair (.int .u32) (.pair (.int .u32) (.pair (.int .u32) (.pair (.pair (.sl (.int .u8)) (.int .i64)) (.int .i64)))))] [(.exit 0, [.slot 8 false (.own (.int .i64))]), (.ret, [.slot 4 false (.own (.int .i64)), .slot 5 false (.int .i64)])] .no))) .no)))))
theorem e29 (x : denL [(true, (.pair (.sl (.int .u8)) (.int .i64))), (false, (.sl (.sl (.int .i64))))]) : evalF tab s29 8 Try.f29 (Try.f29.body.getD .skip) n29 [(true, (.pair (.sl (.int .u8)) (.int .i64))), (false, (.sl (.sl (.int .i64))))] [(false, (.sl (.int .i64))), (false, (.int .i64))] x = g_r04_Back x.1 x.2 := by kernel_rfl
theorem c29 : Contract Try.prog 29 [(true, (.pair (.sl (.int .u8)) (.int .i64))), (false, (.sl (.sl (.int .i64))))] [(false, (.sl (.int .i64))), (false, (.int .i64))] (fun x => g_r04_Back x.1 x.2) := evalF_contract tabOK mixed h29 Try.func29 (body := Try.f29.body.getD .skip) (by kernel_rfl) (by kernel_rfl) e29

noncomputable def s5 : List (Nat × Callee) := [(10, .sem [] [(false, .bool)] fun x => g_law04_live),
  (11, .sem [(true, (.pair (.sl (.int .u8)) (.int .i64))), (false, (.sl (.sl (.int .i64))))] [(false, .bool)] fun x => g_law04_few x.1 x.2),
  (18, .sem [(true, (.pair (.sl (.int .u8)) (.int .i64))), (true, (.pair (.sl (.int .u8)) (.int .i64)))] [(false, .bool)] fun x => g_r01_Same x.1 x.2),
  (26, .sem [(false, (.sl (.int .i64))), (false, (.sl (.sl (.int .i64))))] [(true, (.pair (.sl (.int .u8)) (.int .i64))), (false, (.int .i64))] fun x => g_coder_All x.1 x.2),
  (27, .sem [(false, (.sl (.int .i64))), (false, (.sl (.sl (.int .i64))))] [(true, (.pair (.sl (.int .u8)) (.int .i64))), (false, (.int .i64))] fun x => g_r04_All x.1 x.2),
  (28, .sem [(true, (.pair (.sl (.int .u8)) (.int .i64))), (false, (.sl (.sl (.int .i64))))] [(false, (.sl (.int .i64))), (false, (.int .i64))] fun x => g_coder_Back x.1 x.2),
  (29, .sem [(true, (.pair (.sl (.int .u8)) (.int .i64))), (false, (.sl (.sl (.int .i64))))] [(false, (.sl (.int .i64))), (false, (.int .i64))] fun x => g_r04_Back x.1 x.2),
  (30, .sem [(false, (.sl (.int .i64))), (false, (.sl (.int .i64)))] [(false, .bool)] fun x => g_r03_Equal x.1 x.2)]
theorem h5 : HOK Try.prog (handler tab s5 8) := handler_sound tabOK mixed (callsOK_get (l := s5) ⟨c10, c11, c18, c26, c27, c28, c29, c30, trivial⟩) 8
def n5 : Ann := (.seq .no (.seq .no (.seq (.seq (.join [(.normal, [.slot 0 false (.sl (.int .i64)), .slot 1 false (.sl (.sl (.int .i64))), .keep 5 5, .slot 7 false .bool, .slot 25 false .bool, .obj 5 (.pair (.sl (.int .u8)) (.int .i64))])] .no) .no) .no)))
theorem e5 (x : denL [(false, (.sl (.int .i64))), (false, (.sl (.sl (.int .i64)))), (true, (.pair (.sl (.int .u8)) (.int .i64)))]) : evalF tab s5 8 Try.f5 (Try.f5.body.getD .skip) n5 [(false, (.sl (.int .i64))), (false, (.sl (.sl (.int .i64)))), (true, (.pair (.sl (.int .u8)) (.int .i64)))] [(false, .bool)] x = g_law04_CoderAll x.1 x.2.1 x.2.2 := by kernel_rfl
theorem c5 : Contract Try.prog 5 [(false, (.sl (.int .i64))), (false, (.sl (.sl (.int .i64)))), (true, (.pair (.sl (.int .u8)) (.int .i64)))] [(false, .bool)] (fun x => g_law04_CoderAll x.1 x.2.1 x.2.2) := evalF_contract tabOK mixed h5 Try.func5 (body := Try.f5.body.getD .skip) (by kernel_rfl) (by kernel_rfl) e5

noncomputable def s6 : List (Nat × Callee) := [(10, .sem [] [(false, .bool)] fun x => g_law04_live),
  (11, .sem [(true, (.pair (.sl (.int .u8)) (.int .i64))), (false, (.sl (.sl (.int .i64))))] [(false, .bool)] fun x => g_law04_few x.1 x.2),
  (28, .sem [(true, (.pair (.sl (.int .u8)) (.int .i64))), (false, (.sl (.sl (.int .i64))))] [(false, (.sl (.int .i64))), (false, (.int .i64))] fun x => g_coder_Back x.1 x.2),
  (30, .sem [(false, (.sl (.int .i64))), (false, (.sl (.int .i64)))] [(false, .bool)] fun x => g_r03_Equal x.1 x.2),
  (31, .sem [(true, (.pair (.sl (.int .u8)) (.int .i64)))] [(false, (.int .i64))] fun x => g_bits_Check x),
  (32, .sem [(true, (.sl (.int .i64)))] [(false, (.int .i64))] fun x => g_freq_Check x)]
theorem h6 : HOK Try.prog (handler tab s6 8) := handler_sound tabOK mixed (callsOK_get (l := s6) ⟨c10, c11, c28, c30, c31, c32, trivial⟩) 8
def n6 : Ann := (.seq .no (.seq .no (.seq (.seq (.join [(.normal, [.slot 1 false (.sl (.sl (.int .i64))), .slot 2 false (.int .i64), .keep 3 3, .slot 7 false .bool, .slot 25 false .bool, .obj 3 (.pair (.sl (.int .u8)) (.int .i64))])] .no) .no) (.seq (.seq .no (.blk (.loop [.slot 1 false (.sl (.sl (.int .i64))), .slot 2 false (.int .i64), .keep 3 3, .slot 7 false .bool, .slot 27 false (.sl (.sl (.int .i64))), .slot 28 false (.int .i64), .slot 29 false (.int .i64), .obj 3 (.pair (.sl (.int .u8)) (.int .i64))] [(.exit 0, [.slot 1 false (.sl (.sl (.int .i64))), .slot 2 false (.int .i64), .keep 3 3, .slot 7 false .bool, .obj 3 (.pair (.sl (.int .u8)) (.int .i64))]), (.ret, [.slot 6 false .bool])] .no))) (.seq .no (.seq .no (.seq .no (.seq (.seq .no (.blk (.loop [.slot 1 false (.sl (.sl (.int .i64))), .slot 2 false (.int .i64), .keep 3 3, .slot 7 false .bool, .slot 10 false (.sl (.int .i64)), .slot 61 false (.sl (.int .i64)), .slot 62 false (.int .i64), .slot 63 false (.int .i64), .obj 3 (.pair (.sl (.int .u8)) (.int .i64))] [(.exit 2, [.slot 1 false (.sl (.sl (.int .i64))), .slot 2 false (.int .i64), .keep 3 3, .slot 7 false .bool, .slot 10 false (.sl (.int .i64)), .obj 3 (.pair (.sl (.int .u8)) (.int .i64))]), (.ret, [.slot 6 false .bool])] (.seq .no (.seq .no (.seq (.blk (.seq .no (.seq (.join [(.normal, [.slot 1 false (.sl (.sl (.int .i64))), .slot 2 false (.int .i64), .keep 3 3, .slot 7 false .bool, .slot 10 false (.sl (.int .i64)), .slot 61 false (.sl (.int .i64)), .slot 62 false (.int .i64), .slot 63 false (.int .i64), .slot 80 false .bool, .obj 3 (.pair (.sl (.int .u8)) (.int .i64))])] .no) .no))) .no)))))) (.seq .no (.seq (.draw [0, 1, 2, 3, 4, 5, 6, 7, 8, 9]) .no))))))))))
theorem e6 (x : denL [(true, (.pair (.sl (.int .u8)) (.int .i64))), (false, (.sl (.sl (.int .i64)))), (false, (.int .i64))]) : evalF tab s6 8 Try.f6 (Try.f6.body.getD .skip) n6 [(true, (.pair (.sl (.int .u8)) (.int .i64))), (false, (.sl (.sl (.int .i64)))), (false, (.int .i64))] [(false, .bool)] x = g_law04_CoderTotal x.1 x.2.1 x.2.2 := by kernel_rfl
theorem c6 : Contract Try.prog 6 [(true, (.pair (.sl (.int .u8)) (.int .i64))), (false, (.sl (.sl (.int .i64)))), (false, (.int .i64))] [(false, .bool)] (fun x => g_law04_CoderTotal x.1 x.2.1 x.2.2) := evalF_contract tabOK mixed h6 Try.func6 (body := Try.f6.body.getD .skip) (by kernel_rfl) (by kernel_rfl) e6

noncomputable def s7 : List (Nat × Callee) := [(10, .sem [] [(false, .bool)] fun x => g_law04_live),
  (11, .sem [(true, (.pair (.sl (.int .u8)) (.int .i64))), (false, (.sl (.sl (.int .i64))))] [(false, .bool)] fun x => g_law04_few x.1 x.2),
  (26, .sem [(false, (.sl (.int .i64))), (false, (.sl (.sl (.int .i64))))] [(true, (.pair (.sl (.int .u8)) (.int .i64))), (false, (.int .i64))] fun x => g_coder_All x.1 x.2),
  (33, .sem [(true, (.sl (.int .i64))), (false, (.int .i64))] [(false, (.int .i64)), (false, (.int .i64)), (false, (.int .i64))] fun x => g_freq_Span x.1 x.2),
  (34, .sem [(true, (.sl (.int .i64)))] [(false, (.int .i64))] fun x => g_freq_Total x)]
theorem h7 : HOK Try.prog (handler tab s7 8) := handler_sound tabOK mixed (callsOK_get (l := s7) ⟨c10, c11, c26, c33, c34, trivial⟩) 8
def n7 : Ann := (.seq .no (.seq .no (.seq (.seq (.join [(.normal, [.slot 0 false (.sl (.int .i64)), .slot 1 false (.sl (.sl (.int .i64))), .slot 5 false .bool, .slot 24 false .bool])] .no) .no) (.seq .no (.seq .no (.seq .no (.seq (.seq .no (.blk (.loop [.slot 1 false (.sl (.sl (.int .i64))), .slot 5 false .bool, .keep 6 6, .slot 8 false (.int .i64), .slot 35 false (.sl (.int .i64)), .slot 36 false (.int .i64), .slot 37 false (.int .i64), .obj 6 (.pair (.sl (.int .u8)) (.int .i64))] [(.exit 0, [.slot 5 false .bool, .keep 6 6, .slot 8 false (.int .i64), .obj 6 (.pair (.sl (.int .u8)) (.int .i64))]), (.ret, [.slot 4 false .bool])] (.seq .no (.seq .no (.seq (.blk (.seq .no (.seq .no (.seq .no (.seq .no (.seq (.blk (.loop [.slot 1 false (.sl (.sl (.int .i64))), .slot 5 false .bool, .keep 6 6, .slot 8 false (.int .i64), .slot 9 false (.int .i64), .slot 11 false (.int .i64), .slot 12 false (.int .i64), .slot 14 false (.int .i64), .slot 35 false (.sl (.int .i64)), .slot 36 false (.int .i64), .slot 37 false (.int .i64), .obj 6 (.pair (.sl (.int .u8)) (.int .i64))] [(.exit 2, [.slot 1 false (.sl (.sl (.int .i64))), .slot 5 false .bool, .keep 6 6, .slot 8 false (.int .i64), .slot 14 false (.int .i64), .slot 35 false (.sl (.int .i64)), .slot 36 false (.int .i64), .slot 37 false (.int .i64), .obj 6 (.pair (.sl (.int .u8)) (.int .i64))])] .no)) .no)))))) .no)))))) .no)))))))
theorem e7 (x : denL [(false, (.sl (.int .i64))), (false, (.sl (.sl (.int .i64))))]) : evalF tab s7 8 Try.f7 (Try.f7.body.getD .skip) n7 [(false, (.sl (.int .i64))), (false, (.sl (.sl (.int .i64))))] [(false, .bool)] x = g_law04_CoderLong x.1 x.2 := by kernel_rfl
theorem c7 : Contract Try.prog 7 [(false, (.sl (.int .i64))), (false, (.sl (.sl (.int .i64))))] [(false, .bool)] (fun x => g_law04_CoderLong x.1 x.2) := evalF_contract tabOK mixed h7 Try.func7 (body := Try.f7.body.getD .skip) (by kernel_rfl) (by kernel_rfl) e7

noncomputable def s60 : List (Nat × Callee) := []
theorem h60 : HOK Try.prog (handler tab s60 8) := handler_sound tabOK mixed (callsOK_get (l := s60) trivial) 8
def n60 : Ann := (.seq .no (.seq .no (.seq (.blk (.loop [.slot 1 false (.int .i64), .slot 2 false (.int .i64), .keep 3 3, .slot 7 false (.int .u64), .obj 3 (.pair (.sl (.int .u8)) (.int .i64))] [(.exit 0, [.slot 7 false (.int .u64)])] (.seq .no (.blk (.seq .no (.seq .no (.seq (.draw [0, 1, 2, 3, 4, 5, 6, 7, 8, 9, 10, 11, 12, 13, 14]) .no))))))) .no)))
theorem e60 (x : denL [(true, (.pair (.sl (.int .u8)) (.int .i64))), (false, (.int .i64)), (false, (.int .i64))]) : evalF tab s60 8 Try.f60 (Try.f60.body.getD .skip) n60 [(true, (.pair (.sl (.int .u8)) (.int .i64))), (false, (.int .i64)), (false, (.int .i64))] [(false, (.int .u64))] x = g_bits_take x.1 x.2.1 x.2.2 := by kernel_rfl
theorem c60 : Contract Try.prog 60 [(true, (.pair (.sl (.int .u8)) (.int .i64))), (false, (.int .i64)), (false, (.int .i64))] [(false, (.int .u64))] (fun x => g_bits_take x.1 x.2.1 x.2.2) := evalF_contract tabOK mixed h60 Try.func60 (body := Try.f60.body.getD .skip) (by kernel_rfl) (by kernel_rfl) e60

noncomputable def s35 : List (Nat × Callee) := [(31, .sem [(true, (.pair (.sl (.int .u8)) (.int .i64)))] [(false, (.int .i64))] fun x => g_bits_Check x),
  (59, .sem [(true, (.pair (.own (.int .u8)) (.int .i64))), (false, (.int .u64)), (false, (.int .i64))] [(true, (.pair (.own (.int .u8)) (.int .i64)))] fun x => g_bits_add x.1 x.2.1 x.2.2),
  (60, .sem [(true, (.pair (.sl (.int .u8)) (.int .i64))), (false, (.int .i64)), (false, (.int .i64))] [(false, (.int .u64))] fun x => g_bits_take x.1 x.2.1 x.2.2)]
theorem h35 : HOK Try.prog (handler tab s35 8) := handler_sound tabOK mixed (callsOK_get (l := s35) ⟨c31, c59, c60, trivial⟩) 8
def n35 : Ann := (.seq .no (.seq .no (.seq (.seq .no (.blk (.loop [.slot 0 false (.sl (.pair (.sl (.int .u8)) (.int .i64))), .keep 2 2, .slot 4 false (.int .i64), .slot 13 false (.sl (.pair (.sl (.int .u8)) (.int .i64))), .slot 14 false (.int .i64), .slot 15 false (.int .i64), .obj 2 (.pair (.own (.int .u8)) (.int .i64))] [(.exit 0, [.slot 0 false (.sl (.pair (.sl (.int .u8)) (.int .i64))), .keep 2 2, .slot 4 false (.int .i64), .obj 2 (.pair (.own (.int .u8)) (.int .i64))]), (.ret, [.keep 2 2, .slot 3 false (.int .i64), .obj 2 (.pair (.own (.int .u8)) (.int .i64))])] .no))) (.seq .no (.seq .no (.seq (.seq .no (.blk (.loop [.keep 2 2, .keep 8 8, .slot 34 false (.sl (.pair (.sl (.int .u8)) (.int .i64))), .slot 35 false (.int .i64), .slot 36 false (.int .i64), .obj 2 (.pair (.own (.int .u8)) (.int .i64)), .obj 8 (.pair (.own (.int .u8)) (.int .i64))] [(.exit 2, [.keep 2 2, .keep 8 8, .obj 2 (.pair (.own (.int .u8)) (.int .i64)), .obj 8 (.pair (.own (.int .u8)) (.int .i64))])] (.seq .no (.seq .no (.seq (.blk (.seq .no (.seq .no (.blk (.loop [.keep 2 2, .keep 8 8, .keep 10 10, .slot 11 false (.int .i64), .slot 34 false (.sl (.pair (.sl (.int .u8)) (.int .i64))), .slot 35 false (.int .i64), .slot 36 false (.int .i64), .obj 2 (.pair (.own (.int .u8)) (.int .i64)), .obj 8 (.pair (.own (.int .u8)) (.int .i64)), .obj 10 (.pair (.sl (.int .u8)) (.int .i64))] [(.exit 4, [.keep 2 2, .keep 8 8, .slot 34 false (.sl (.pair (.sl (.int .u8)) (.int .i64))), .slot 35 false (.int .i64), .slot 36 false (.int .i64), .obj 2 (.pair (.own (.int .u8)) (.int .i64)), .obj 8 (.pair (.own (.int .u8)) (.int .i64))])] (.seq .no (.seq (.blk (.seq .no (.draw [0, 1, 2, 3, 4, 5, 6, 7]))) .no))))))) .no)))))) .no))))))
theorem e35 (x : denL [(false, (.sl (.pair (.sl (.int .u8)) (.int .i64))))]) : evalF tab s35 8 Try.f35 (Try.f35.body.getD .skip) n35 [(false, (.sl (.pair (.sl (.int .u8)) (.int .i64))))] [(true, (.pair (.sl (.int .u8)) (.int .i64))), (false, (.int .i64))] x = g_bits_Join x := by kernel_rfl
theorem c35 : Contract Try.prog 35 [(false, (.sl (.pair (.sl (.int .u8)) (.int .i64))))] [(true, (.pair (.sl (.int .u8)) (.int .i64))), (false, (.int .i64))] (fun x => g_bits_Join x) := evalF_contract tabOK mixed h35 Try.func35 (body := Try.f35.body.getD .skip) (by kernel_rfl) (by kernel_rfl) e35

noncomputable def s8 : List (Nat × Callee) := [(10, .sem [] [(false, .bool)] fun x => g_law04_live),
  (11, .sem [(true, (.pair (.sl (.int .u8)) (.int .i64))), (false, (.sl (.sl (.int .i64))))] [(false, .bool)] fun x => g_law04_few x.1 x.2),
  (26, .sem [(false, (.sl (.int .i64))), (false, (.sl (.sl (.int .i64))))] [(true, (.pair (.sl (.int .u8)) (.int .i64))), (false, (.int .i64))] fun x => g_coder_All x.1 x.2),
  (28, .sem [(true, (.pair (.sl (.int .u8)) (.int .i64))), (false, (.sl (.sl (.int .i64))))] [(false, (.sl (.int .i64))), (false, (.int .i64))] fun x => g_coder_Back x.1 x.2),
  (30, .sem [(false, (.sl (.int .i64))), (false, (.sl (.int .i64)))] [(false, .bool)] fun x => g_r03_Equal x.1 x.2),
  (31, .sem [(true, (.pair (.sl (.int .u8)) (.int .i64)))] [(false, (.int .i64))] fun x => g_bits_Check x),
  (35, .sem [(false, (.sl (.pair (.sl (.int .u8)) (.int .i64))))] [(true, (.pair (.sl (.int .u8)) (.int .i64))), (false, (.int .i64))] fun x => g_bits_Join x)]
theorem h8 : HOK Try.prog (handler tab s8 8) := handler_sound tabOK mixed (callsOK_get (l := s8) ⟨c10, c11, c26, c28, c30, c31, c35, trivial⟩) 8
def n8 : Ann := (.seq .no (.seq .no (.seq (.seq (.join [(.normal, [.slot 0 false (.sl (.int .i64)), .slot 1 false (.sl (.sl (.int .i64))), .keep 5 5, .slot 7 false .bool, .slot 30 false .bool, .obj 5 (.pair (.sl (.int .u8)) (.int .i64))])] .no) .no) (.seq .no (.seq .no (.seq .no (.seq .no (.seq (.seq (.join [(.normal, [.slot 0 false (.sl (.int .i64)), .slot 1 false (.sl (.sl (.int .i64))), .slot 7 false .bool, .keep 12 12, .slot 13 false (.int .i64), .slot 66 false .bool, .obj 12 (.pair (.sl (.int .u8)) (.int .i64))])] .no) .no) .no))))))))
theorem e8 (x : denL [(false, (.sl (.int .i64))), (false, (.sl (.sl (.int .i64)))), (true, (.pair (.sl (.int .u8)) (.int .i64)))]) : evalF tab s8 8 Try.f8 (Try.f8.body.getD .skip) n8 [(false, (.sl (.int .i64))), (false, (.sl (.sl (.int .i64)))), (true, (.pair (.sl (.int .u8)) (.int .i64)))] [(false, .bool)] x = g_law04_CoderBack x.1 x.2.1 x.2.2 := by kernel_rfl
theorem c8 : Contract Try.prog 8 [(false, (.sl (.int .i64))), (false, (.sl (.sl (.int .i64)))), (true, (.pair (.sl (.int .u8)) (.int .i64)))] [(false, .bool)] (fun x => g_law04_CoderBack x.1 x.2.1 x.2.2) := evalF_contract tabOK mixed h8 Try.func8 (body := Try.f8.body.getD .skip) (by kernel_rfl) (by kernel_rfl) e8

noncomputable def s75 : List (Nat × Callee) := []
theorem h75 : HOK Try.prog (handler tab s75 8) := handler_sound tabOK mixed (callsOK_get (l := s75) trivial) 8
def n75 : Ann := .no
theorem e75 (x : denL [(false, (.int .u64)), (false, (.int .u64))]) : evalF tab s75 8 Try.f75 (Try.f75.body.getD .skip) n75 [(false, (.int .u64)), (false, (.int .u64))] [(false, (.int .u64)), (false, (.int .u64))] x = g_math_bits_Mul64 x.1 x.2 := by kernel_rfl
theorem c75 : Contract Try.prog 75 [(false, (.int .u64)), (false, (.int .u64))] [(false, (.int .u64)), (false, (.int .u64))] (fun x => g_math_bits_Mul64 x.1 x.2) := evalF_contract tabOK mixed h75 Try.func75 (body := Try.f75.body.getD .skip) (by kernel_rfl) (by kernel_rfl) e75

noncomputable def s74 : List (Nat × Callee) := []
theorem h74 : HOK Try.prog (handler tab s74 8) := handler_sound tabOK mixed (callsOK_get (l := s74) trivial) 8
def n74 : Ann := .no
theorem e74 (x : denL [(false, (.int .u32)), (false, (.int .u32))]) : evalF tab s74 8 Try.f74 (Try.f74.body.getD .skip) n74 [(false, (.int .u32)), (false, (.int .u32))] [(false, (.int .u32)), (false, (.int .u32))] x = g_math_bits_Mul32 x.1 x.2 := by kernel_rfl
theorem c74 : Contract Try.prog 74 [(false, (.int .u32)), (false, (.int .u32))] [(false, (.int .u32)), (false, (.int .u32))] (fun x => g_math_bits_Mul32 x.1 x.2) := evalF_contract tabOK mixed h74 Try.func74 (body := Try.f74.body.getD .skip) (by kernel_rfl) (by kernel_rfl) e74

noncomputable def s69 : List (Nat × Callee) := [(74, .sem [(false, (.int .u32)), (false, (.int .u32))] [(false, (.int .u32)), (false, (.int .u32))] fun x => g_math_bits_Mul32 x.1 x.2),
  (75, .sem [(false, (.int .u64)), (false, (.int .u64))] [(false, (.int .u64)), (false, (.int .u64))] fun x => g_math_bits_Mul64 x.1 x.2)]
theorem h69 : HOK Try.prog (handler tab s69 8) := handler_sound tabOK mixed (callsOK_get (l := s69) ⟨c74, c75, trivial⟩) 8
def n69 : Ann := .no
theorem e69 (x : denL [(false, (.int .u64)), (false, (.int .u64))]) : evalF tab s69 8 Try.f69 (Try.f69.body.getD .skip) n69 [(false, (.int .u64)), (false, (.int .u64))] [(false, (.int .u64)), (false, (.int .u64))] x = g_math_bits_Mul x.1 x.2 := by kernel_rfl
theorem c69 : Contract Try.prog 69 [(false, (.int .u64)), (false, (.int .u64))] [(false, (.int .u64)), (false, (.int .u64))] (fun x => g_math_bits_Mul x.1 x.2) := evalF_contract tabOK mixed h69 Try.func69 (body := Try.f69.body.getD .skip) (by kernel_rfl) (by kernel_rfl) e69

noncomputable def s61 : List (Nat × Callee) := [(69, .sem [(false, (.int .u64)), (false, (.int .u64))] [(false, (.int .u64)), (false, (.int .u64))] fun x => g_math_bits_Mul x.1 x.2)]
theorem h61 : HOK Try.prog (handler tab s61 8) := handler_sound tabOK mixed (callsOK_get (l := s61) ⟨c69, trivial⟩) 8
def n61 : Ann := (.seq .no (.seq .no (.seq .no (.seq (.seq (.join [(.normal, [.slot 0 false (.sl (.int .i64)), .slot 6 false (.int .u64), .slot 26 false .bool])] .no) .no) (.seq .no (.seq .no (.seq (.blk (.loop [.slot 7 false (.own (.int .i64)), .slot 8 false (.int .i64)] [(.exit 0, [.slot 7 false (.own (.int .i64))])] (.seq .no (.blk (.draw [0, 1, 2, 3, 4, 5, 6, 7, 8, 9]))))) .no)))))))
theorem e61 (x : denL [(false, (.sl (.int .i64))), (false, (.int .i64))]) : evalF tab s61 8 Try.f61 (Try.f61.body.getD .skip) n61 [(false, (.sl (.int .i64))), (false, (.int .i64))] [(false, (.sl (.int .i64)))] x = g_slices_Repeat_Sint_int x.1 x.2 := by kernel_rfl
theorem c61 : Contract Try.prog 61 [(false, (.sl (.int .i64))), (false, (.int .i64))] [(false, (.sl (.int .i64)))] (fun x => g_slices_Repeat_Sint_int x.1 x.2) := evalF_contract tabOK mixed h61 Try.func61 (body := Try.f61.body.getD .skip) (by kernel_rfl) (by kernel_rfl) e61

noncomputable def s36 : List (Nat × Callee) := [(37, .sem [(false, (.sl (.int .i64)))] [(true, (.sl (.int .i64))), (false, (.int .i64))] fun x => g_freq_New x),
  (61, .sem [(false, (.sl (.int .i64))), (false, (.int .i64))] [(false, (.sl (.int .i64)))] fun x => g_slices_Repeat_Sint_int x.1 x.2)]
theorem h36 : HOK Try.prog (handler tab s36 8) := handler_sound tabOK mixed (callsOK_get (l := s36) ⟨c37, c61, trivial⟩) 8
def n36 : Ann := (.seq .no (.seq (.seq (.join [(.normal, [.slot 0 false (.int .i64), .keep 2 2, .slot 9 false .bool, .obj 2 (.own (.int .i64))])] .no) .no) .no))
theorem e36 (x : denL [(false, (.int .i64))]) : evalF tab s36 8 Try.f36 (Try.f36.body.getD .skip) n36 [(false, (.int .i64))] [(true, (.sl (.int .i64))), (false, (.int .i64))] x = g_freq_Even x := by kernel_rfl
theorem c36 : Contract Try.prog 36 [(false, (.int .i64))] [(true, (.sl (.int .i64))), (false, (.int .i64))] (fun x => g_freq_Even x) := evalF_contract tabOK mixed h36 Try.func36 (body := Try.f36.body.getD .skip) (by kernel_rfl) (by kernel_rfl) e36

noncomputable def s9 : List (Nat × Callee) := [(10, .sem [] [(false, .bool)] fun x => g_law04_live),
  (26, .sem [(false, (.sl (.int .i64))), (false, (.sl (.sl (.int .i64))))] [(true, (.pair (.sl (.int .u8)) (.int .i64))), (false, (.int .i64))] fun x => g_coder_All x.1 x.2),
  (36, .sem [(false, (.int .i64))] [(true, (.sl (.int .i64))), (false, (.int .i64))] fun x => g_freq_Even x)]
theorem h9 : HOK Try.prog (handler tab s9 8) := handler_sound tabOK mixed (callsOK_get (l := s9) ⟨c10, c26, c36, trivial⟩) 8
def n9 : Ann := (.seq .no (.seq .no (.seq .no (.seq .no (.seq .no (.seq .no (.seq .no (.seq .no (.seq (.seq .no (.blk (.loop [.slot 0 false (.sl (.int .u8)), .slot 3 false .bool, .keep 4 4, .slot 6 false (.own (.int .i64)), .slot 7 false (.own (.sl (.int .i64))), .slot 25 false (.sl (.int .u8)), .slot 26 false (.int .i64), .slot 27 false (.int .i64), .obj 4 (.sl (.int .i64))] [(.exit 0, [.slot 0 false (.sl (.int .u8)), .slot 3 false .bool, .slot 6 false (.own (.int .i64)), .slot 7 false (.own (.sl (.int .i64)))])] .no))) (.seq .no (.seq (.draw [0, 1, 2, 3, 4, 5, 6, 7, 8, 9, 10, 11, 12, 13, 14, 15, 16, 17, 18, 19, 20, 21, 22, 23, 24, 25, 26, 27, 28, 29, 30, 31, 32, 33, 34, 35, 36, 37, 38, 39, 40, 41, 42, 43]) .no)))))))))))
theorem e9 (x : denL [(false, (.sl (.int .u8)))]) : evalF tab s9 8 Try.f9 (Try.f9.body.getD .skip) n9 [(false, (.sl (.int .u8)))] [(false, .bool)] x = g_law04_CoderEven x := by kernel_rfl
theorem c9 : Contract Try.prog 9 [(false, (.sl (.int .u8)))] [(false, .bool)] (fun x => g_law04_CoderEven x) := evalF_contract tabOK mixed h9 Try.func9 (body := Try.f9.body.getD .skip) (by kernel_rfl) (by kernel_rfl) e9

end Go.Rx
