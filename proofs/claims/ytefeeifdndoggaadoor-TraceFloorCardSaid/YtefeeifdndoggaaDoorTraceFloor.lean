/- For all asks, of the law TraceFloor: it returns true, and its arguments read as before; what it reads of package variables is tied to the text of the program. No conditions. -/
import Derived.Test.YtefeeifdndoggaaDoorL8
import Derived.Test.YtefeeifdndoggaaDoorC
import Derived.Test.YtefeeifdndoggaaDoorRows
import Derived.Test.YtefeeifdndoggaaDoorCards
import Derived.Test.YtefeeifdndoggaaDoorTie
import Derived.ProofKit
import Derived.SevenTiedAt
namespace Go.Proofs.YtefeeifdndoggaaDoor
open Go.Rx Go.Sq Go.ChangeShapes Go.WideShapes Go.ChangeAt Go.RowKit
namespace lawTraceFloor
theorem own : ownKnob Tryd.prog.godebug = none := by kernel_rfl
theorem laidOut : laidOutB Tryd.prog = true := by kernel_rfl
noncomputable def gv : List (GVar × DataW Unit) := [(GVar.mk "math/bits.deBruijn32tab" 1 109 (.arr 32 (.int .u8)) ([0, 1, 28, 2, 29, 14, 24, 3, 30, 22, 20, 15, 25, 17, 4, 8, 31, 27, 13, 23, 21, 19, 16, 7, 26, 12, 18, 6, 11, 5, 10, 9] : List Int), Rows.laid_math_bits_deBruijn32tab), (GVar.mk "math/bits.deBruijn64tab" 2 110 (.arr 64 (.int .u8)) ([0, 1, 56, 2, 57, 49, 28, 3, 61, 58, 42, 50, 38, 29, 17, 4, 62, 47, 59, 36, 45, 43, 51, 22, 53, 39, 33, 30, 24, 18, 12, 5, 63, 55, 48, 27, 60, 41, 37, 16, 46, 35, 44, 21, 52, 32, 23, 11, 54, 26, 40, 15, 34, 20, 31, 10, 25, 14, 19, 9, 13, 8, 7, 6] : List Int), Rows.laid_math_bits_deBruijn64tab), (GVar.mk "internal/strconv.uint64pow10" 0 104 y40 tb_pow10, Rows.laid_internal_strconv_uint64pow10)]
theorem gv_ok : ∀ e ∈ gv, e.1.fits Tryd.prog ∧ undat e.1.ty e.2 = some e.1.x := by
  intro e he
  simp only [gv, List.mem_cons, List.not_mem_nil, or_false] at he
  rcases he with rfl | rfl | rfl
  · exact ⟨⟨by kernel_rfl, by kernel_rfl, by kernel_rfl, of_decide_eq_true (by kernel_rfl), by kernel_rfl⟩, by kernel_rfl⟩
  · exact ⟨⟨by kernel_rfl, by kernel_rfl, by kernel_rfl, of_decide_eq_true (by kernel_rfl), by kernel_rfl⟩, by kernel_rfl⟩
  · exact ⟨⟨by kernel_rfl, by kernel_rfl, by kernel_rfl, of_decide_eq_true (by kernel_rfl), by kernel_rfl⟩, by kernel_rfl⟩
theorem gv_all : ∀ (g : Nat) (t : Ty) (x : den t), gfind g = some ⟨t, x⟩ → ∃ e ∈ gv, e.1.g = g ∧ (⟨e.1.ty, e.1.x⟩ : (t : Ty) × den t) = ⟨t, x⟩ := by
  intro g t x h
  have h : ((bif Nat.beq g 0 then some ⟨y40, tb_pow10⟩ else none) : Option ((t : Ty) × den t)) = some ⟨t, x⟩ := h
  cases h0 : Nat.beq g 0 with
  | true => rw [h0] at h; exact ⟨_, List.mem_cons_of_mem _ (List.mem_cons_of_mem _ List.mem_cons_self), (Nat.eq_of_beq_eq_true h0).symm, Option.some.inj h⟩
  | false =>
    rw [h0] at h
    simp only [cond_false] at h
    cases h
theorem laid {W : World} (h : laidMetH Tryd.prog Rows.traceFloorRow.laid W) : LaidE (startE W) :=
  laidE_of (l := gv) (P := Tryd.prog) h (by kernel_rfl) gv_ok gv_all
noncomputable def laidWorld (os : Os) : World :=
  let w0 := World.holding Tryd.prog os ⟨#[], #[], []⟩
  { w0 with heap := (((w0.heap.modify 0 fun
      | .cells _ t frozen => .cells (tb_pow10.map fun n => Value.int .u64 n).toArray t frozen
      | o => o).modify 1 fun
      | .cells _ t frozen => .cells (([0, 1, 28, 2, 29, 14, 24, 3, 30, 22, 20, 15, 25, 17, 4, 8, 31, 27, 13, 23, 21, 19, 16, 7, 26, 12, 18, 6, 11, 5, 10, 9] : List Int).map fun n => Value.int .u8 n).toArray t frozen
      | o => o).modify 2 fun
      | .cells _ t frozen => .cells (([0, 1, 56, 2, 57, 49, 28, 3, 61, 58, 42, 50, 38, 29, 17, 4, 62, 47, 59, 36, 45, 43, 51, 22, 53, 39, 33, 30, 24, 18, 12, 5, 63, 55, 48, 27, 60, 41, 37, 16, 46, 35, 44, 21, 52, 32, 23, 11, 54, 26, 40, 15, 34, 20, 31, 10, 25, 14, 19, 9, 13, 8, 7, 6] : List Int).map fun n => Value.int .u8 n).toArray t frozen
      | o => o) }
set_option maxRecDepth 100000 in
theorem laidWorld_met (os : Os) (args : Array Value) : laidMetH Tryd.prog Rows.traceFloorRow.laid ((laidWorld os).forCall (fun _ _ => 0) ⟨#[], args, []⟩).memory :=
  laidMetH_of_parts3 (fuel := 8) (laidMet_of_run' 8 (by kernel_rfl) (by kernel_rfl)) (by kernel_rfl) (by kernel_rfl)
set_option maxRecDepth 100000 in
theorem lifted (os : Os) (started : os.Started) (H : Type) (enc : TypeId × Value → H) :
    ReturnsInHanded {} Tryd.checked os 3 .any (fun w args => (Rows.traceFloorSpec.pre enc Tryd.prog Tryd.f3 [] false w args ∧ laidMetH Tryd.prog Rows.traceFloorRow.laid w) ∧ sizedMet enc Tryd.prog Tryd.f3 (OpenSpec.ofChange Rows.traceFloorSpec) false w args)
      (Rows.traceFloorSpec.post enc Tryd.prog Tryd.f3 false true false false) := by
  refine returnsInHanded_of_change_and (C := Tryd.checked) (X := fun w _ => laidMetH Tryd.prog Rows.traceFloorRow.laid w) (fun _ _ _ hh h => h.of_heap hh) own started (by kernel_rfl) Tryd.func3
    (ChangeSpec.witness_at (enc := enc) (C := Tryd.checked) (os := os) (X := fun w _ => laidMetH Tryd.prog Rows.traceFloorRow.laid w) false (laidWorld os) #[.slice none 0 0] 8 rfl (by kernel_rfl) (by kernel_rfl) (by kernel_rfl) (by kernel_rfl) (by kernel_rfl) (laidWorld_met os _)) ?_
  intro W base args ds gs before hval hW _ _ hL _
  refine law_calls Go.Rx.c3 (n := 8) (by kernel_rfl) (pure_TFloor) laidOut (by kernel_rfl) (tb := 4) (by kernel_rfl) (by kernel_rfl) rfl (fun ds h => ?_) (laid hL) hval hW
  match ds, h with
  | [_], _ => rfl
theorem said : Rows.TraceFloorSaid :=
  OpenClaim.holds_of_wide 3 Tryd.f3 rfl rfl rfl rfl rfl rfl rfl ⟨rfl, rfl, rfl, rfl, rfl⟩ rfl rfl rfl rfl rfl (by kernel_rfl) Tryd.func3 (by kernel_rfl)
    (of_decide_eq_true (by kernel_rfl)) (by unfold Func.isWrapper; first | (rw [if_pos (by decide +kernel)]; kernel_rfl) | (rw [if_neg (by decide +kernel)]; exact ⟨rfl, rfl⟩))
    (fun os started H enc _ => lifted os started H enc)
theorem proved : Rows.TraceFloorCardSaid :=
  Claim7.holds_tied_plain_at .later [] [.data, .data, .data] true (true, "dadd8f87afcc80a89b2fd6d0c94c81f8e89424775a33d41b7c42157ad94beee3") true
    said (fun _ h => by cases h) (by kernel_rfl) (fun _ h => by cases h) traceFloor_row_tie rfl ⟨rfl, rfl⟩ (by kernel_rfl) rfl
    (fun f fn hf hfn => by
      obtain rfl : f = 3 := Option.some.inj ((show Tryd.prog.funcNamed Rows.traceFloorRow.func = some 3 by kernel_rfl).symm.trans hf) |>.symm
      obtain rfl : fn = Tryd.f3 := (Option.some.inj (Tryd.func3.symm.trans hfn)).symm
      exact ⟨by kernel_rfl, fun j t ht => by
        rw [Tryd.params3] at ht
        have hm : t ∈ [22] := by simpa using Array.mem_of_getElem? ht
        have hall : ([22].all fun u => !Tryd.prog.wantsStandIn u) = true := by kernel_rfl
        exact (show Tryd.prog.wantsStandIn t = false by simpa using List.all_eq_true.1 hall t hm)⟩)
    (by kernel_rfl)
end lawTraceFloor
end Go.Proofs.YtefeeifdndoggaaDoor
