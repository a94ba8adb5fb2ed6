/- For all states and doings, of the law RetryDoes: it returns true, and its arguments read as before; what it reads of package variables is tied to the text of the program. No conditions. -/
import Derived.Test.YtkhndaanjpmgnaaDoorL6
import Derived.Test.YtkhndaanjpmgnaaDoorC
import Derived.Test.YtkhndaanjpmgnaaDoorRows
import Derived.Test.YtkhndaanjpmgnaaDoorCards
import Derived.Test.YtkhndaanjpmgnaaDoorTie
import Derived.ProofKit
import Derived.SevenTiedAt
namespace Go.Proofs.YtkhndaanjpmgnaaDoor
open Go.Rx Go.Sq Go.ChangeShapes Go.WideShapes Go.ChangeAt Go.RowKit
namespace lawRetryDoes
theorem own : ownKnob Tryd.prog.godebug = none := by kernel_rfl
theorem laidOut : laidOutB Tryd.prog = true := by kernel_rfl
noncomputable def gv : List (GVar × DataW Unit) := [(GVar.mk "unicode/utf8.acceptRanges" 1 121 y56 tb_accept, Rows.laid_unicode_utf8_acceptRanges), (GVar.mk "unicode/utf8.first" 0 118 y57 tb_first, Rows.laid_unicode_utf8_first)]
theorem gv_ok : ∀ e ∈ gv, e.1.fits Tryd.prog ∧ undat e.1.ty e.2 = some e.1.x := by
  intro e he
  simp only [gv, List.mem_cons, List.not_mem_nil, or_false] at he
  rcases he with rfl | rfl
  · exact ⟨⟨by kernel_rfl, by kernel_rfl, by kernel_rfl, of_decide_eq_true (by kernel_rfl), by kernel_rfl⟩, by kernel_rfl⟩
  · exact ⟨⟨by kernel_rfl, by kernel_rfl, by kernel_rfl, of_decide_eq_true (by kernel_rfl), by kernel_rfl⟩, by kernel_rfl⟩
theorem gv_all : ∀ (g : Nat) (t : Ty) (x : den t), gfind g = some ⟨t, x⟩ → ∃ e ∈ gv, e.1.g = g ∧ (⟨e.1.ty, e.1.x⟩ : (t : Ty) × den t) = ⟨t, x⟩ := by
  intro g t x h
  have h : ((bif Nat.beq g 0 then some ⟨y57, tb_first⟩ else bif Nat.beq g 1 then some ⟨y56, tb_accept⟩ else none) : Option ((t : Ty) × den t)) = some ⟨t, x⟩ := h
  cases h0 : Nat.beq g 0 with
  | true => rw [h0] at h; exact ⟨_, List.mem_cons_of_mem _ List.mem_cons_self, (Nat.eq_of_beq_eq_true h0).symm, Option.some.inj h⟩
  | false =>
    rw [h0] at h
    simp only [cond_false] at h
    cases h1 : Nat.beq g 1 with
    | true => rw [h1] at h; exact ⟨_, List.mem_cons_self, (Nat.eq_of_beq_eq_true h1).symm, Option.some.inj h⟩
    | false =>
      rw [h1] at h
      simp only [cond_false] at h
      cases h
theorem laid {W : World} (h : laidMetH Tryd.prog Rows.retryDoesRow.laid W) : LaidE (startE W) :=
  laidE_of (l := gv) (P := Tryd.prog) h (by kernel_rfl) gv_ok gv_all
noncomputable def laidWorld (os : Os) : World :=
  let w0 := World.holding Tryd.prog os ⟨#[], #[], []⟩
  { w0 with heap := ((w0.heap.modify 0 fun
      | .cells _ t frozen => .cells (tb_first.map fun n => Value.int .u8 n).toArray t frozen
      | o => o).modify 1 fun
      | .cells _ t frozen => .cells (tb_accept.flatMap fun p => [Value.int .u8 p.1, Value.int .u8 p.2]).toArray t frozen
      | o => o) }
set_option maxRecDepth 100000 in
theorem laidWorld_met (os : Os) (args : Array Value) : laidMetH Tryd.prog Rows.retryDoesRow.laid ((laidWorld os).forCall (fun _ _ => 0) ⟨#[], args, []⟩).memory :=
  laidMetH_of_parts3 (fuel := 8) (laidMet_of_run' 8 (by kernel_rfl) (by kernel_rfl)) (by kernel_rfl) (by kernel_rfl)
set_option maxRecDepth 100000 in
theorem lifted (os : Os) (started : os.Started) (H : Type) (enc : TypeId × Value → H) :
    ReturnsInHanded {} Tryd.checked os 7 .any (fun w args => (Rows.retryDoesSpec.pre enc Tryd.prog Tryd.f7 [] false w args ∧ laidMetH Tryd.prog Rows.retryDoesRow.laid w) ∧ sizedMet enc Tryd.prog Tryd.f7 (OpenSpec.ofChange Rows.retryDoesSpec) false w args)
      (Rows.retryDoesSpec.post enc Tryd.prog Tryd.f7 false true false false) := by
  refine returnsInHanded_of_change_and (C := Tryd.checked) (X := fun w _ => laidMetH Tryd.prog Rows.retryDoesRow.laid w) (fun _ _ _ hh h => h.of_heap hh) own started (by kernel_rfl) Tryd.func7
    (ChangeSpec.witness_at (enc := enc) (C := Tryd.checked) (os := os) (X := fun w _ => laidMetH Tryd.prog Rows.retryDoesRow.laid w) false (laidWorld os) #[.agg #[.int .i64 0, .slice none 0 0, .slice none 0 0], .agg #[.int .i64 0, .slice none 0 0, .slice none 0 0], .slice none 0 0] 8 rfl (by kernel_rfl) (by kernel_rfl) (by kernel_rfl) (by kernel_rfl) (by kernel_rfl) (laidWorld_met os _)) ?_
  intro W base args ds gs before hval hW _ _ hL _
  refine law_calls Go.Rx.c7 (n := 8) (by kernel_rfl) (pure_RDoes) laidOut (by kernel_rfl) (tb := 4) (by kernel_rfl) (by kernel_rfl) rfl (fun ds h => ?_) (laid hL) hval hW
  match ds, h with
  | [_, _, _], _ => rfl
theorem said : Rows.RetryDoesSaid :=
  OpenClaim.holds_of_wide 7 Tryd.f7 rfl rfl rfl rfl rfl rfl rfl ⟨rfl, rfl, rfl, rfl, rfl⟩ rfl rfl rfl rfl rfl (by kernel_rfl) Tryd.func7 (by kernel_rfl)
    (of_decide_eq_true (by kernel_rfl)) (by unfold Func.isWrapper; first | (rw [if_pos (by decide +kernel)]; kernel_rfl) | (rw [if_neg (by decide +kernel)]; exact ⟨rfl, rfl⟩))
    (fun os started H enc _ => lifted os started H enc)
theorem proved : Rows.RetryDoesCardSaid :=
  Claim7.holds_tied_plain_at .later [] [.data, .pinned] true (true, "1d214063ad4c81de106e852533125123440377025d04954878b433ab008d251e") false
    said (fun _ h => by cases h) (by kernel_rfl) (fun _ h => by cases h) retryDoes_row_tie rfl ⟨rfl, rfl⟩ (by kernel_rfl) rfl
    (fun f fn hf hfn => by
      obtain rfl : f = 7 := Option.some.inj ((show Tryd.prog.funcNamed Rows.retryDoesRow.func = some 7 by kernel_rfl).symm.trans hf) |>.symm
      obtain rfl : fn = Tryd.f7 := (Option.some.inj (Tryd.func7.symm.trans hfn)).symm
      exact ⟨by kernel_rfl, fun j t ht => by
        rw [Tryd.params7] at ht
        have hm : t ∈ [25, 25, 43] := by simpa using Array.mem_of_getElem? ht
        have hall : ([25, 25, 43].all fun u => !Tryd.prog.wantsStandIn u) = true := by kernel_rfl
        exact (show Tryd.prog.wantsStandIn t = false by simpa using List.all_eq_true.1 hall t hm)⟩)
    (by kernel_rfl)
end lawRetryDoes
end Go.Proofs.YtkhndaanjpmgnaaDoor
