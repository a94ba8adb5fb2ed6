/- For all bytes the law CoderEven returns true, and its argument reads as before. No conditions. -/
import Derived.Test.YtdjhfpaeejpebaaL5
import Derived.Test.YtdjhfpaeejpebaaC
import Derived.Test.YtdjhfpaeejpebaaRows
import Derived.ProofKit
namespace Go.Proofs.Ytdjhfpaeejpebaa
open Go.Rx Go.Sq Go.ChangeShapes Go.WideShapes Go.ChangeAt Go.RowKit
namespace lawCoderEven
theorem own : ownKnob Try.prog.godebug = none := by kernel_rfl
theorem laidOut : laidOutB Try.prog = true := by kernel_rfl
set_option maxRecDepth 100000 in
theorem lifted (os : Os) (started : os.Started) (H : Type) (enc : TypeId × Value → H) :
    ReturnsInHanded {} Try.checked os 9 .any (Rows.coderEvenSpec.pre6 enc Try.prog Try.f9 Rows.coderEvenRow.domain false) (Rows.coderEvenSpec.post enc Try.prog Try.f9 false true false false) := by
  refine returnsInHanded_of_change (C := Try.checked) own started (by kernel_rfl) Try.func9
    (ChangeSpec.witness6 (enc := enc) (C := Try.checked) false ⟨#[], #[.slice none 0 0], []⟩ 8 (by kernel_rfl) (by kernel_rfl) (by kernel_rfl) (by kernel_rfl)) ?_
  intro W base args ds gs before hval hW _ _
  refine law_calls Go.Rx.c9 (n := 8) (by kernel_rfl) (pure_Even) laidOut (by kernel_rfl) (tb := 4) (by kernel_rfl) (by kernel_rfl) rfl (fun ds h => ?_) hval hW
  match ds, h with
  | [_], _ => rfl
theorem proved : Rows.CoderEvenSaid :=
  OpenClaim.holds_of_wide 9 Try.f9 rfl rfl rfl rfl rfl rfl rfl ⟨rfl, rfl, rfl, rfl, rfl⟩ rfl rfl rfl rfl rfl (by kernel_rfl) Try.func9 (by kernel_rfl)
    (of_decide_eq_true (by kernel_rfl)) (by unfold Func.isWrapper; first | (rw [if_pos (by decide +kernel)]; kernel_rfl) | (rw [if_neg (by decide +kernel)]; exact ⟨rfl, rfl⟩))
    (fun os started H enc _ => lifted os started H enc)
end lawCoderEven
end Go.Proofs.Ytdjhfpaeejpebaa
