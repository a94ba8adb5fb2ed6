/- For all samples the law EncoderFresh returns true, and its argument reads as before. No conditions. -/
import Derived.Test.YtghhiloencpimaaGreatL6
import Derived.Test.YtghhiloencpimaaGreatC
import Derived.Test.YtghhiloencpimaaGreatRows
import Derived.ProofKit
namespace Go.Proofs.YtghhiloencpimaaGreat
open Go.Rx Go.Sq Go.ChangeShapes Go.WideShapes Go.ChangeAt Go.RowKit
namespace lawEncoderFresh
theorem own : ownKnob Tryz.prog.godebug = none := by kernel_rfl
theorem laidOut : laidOutB Tryz.prog = true := by kernel_rfl
set_option maxRecDepth 100000 in
theorem lifted (os : Os) (started : os.Started) (H : Type) (enc : TypeId × Value → H) :
    ReturnsInHanded {} Tryz.checked os 7 .any (Rows.encoderFreshSpec.pre6 enc Tryz.prog Tryz.f7 Rows.encoderFreshRow.domain false) (Rows.encoderFreshSpec.post enc Tryz.prog Tryz.f7 false true false false) := by
  refine returnsInHanded_of_change (C := Tryz.checked) own started (by kernel_rfl) Tryz.func7
    (ChangeSpec.witness6 (enc := enc) (C := Tryz.checked) false ⟨#[], #[.slice none 0 0], []⟩ 8 (by kernel_rfl) (by kernel_rfl) (by kernel_rfl) (by kernel_rfl)) ?_
  intro W base args ds gs before hval hW _ _
  refine law_calls Go.Rx.c7 (n := 8) (by kernel_rfl) (pure_EFresh) laidOut (by kernel_rfl) (tb := 4) (by kernel_rfl) (by kernel_rfl) rfl (fun ds h => ?_) hval hW
  match ds, h with
  | [_], _ => rfl
theorem proved : Rows.EncoderFreshSaid :=
  OpenClaim.holds_of_wide 7 Tryz.f7 rfl rfl rfl rfl rfl rfl rfl ⟨rfl, rfl, rfl, rfl, rfl⟩ rfl rfl rfl rfl rfl (by kernel_rfl) Tryz.func7 (by kernel_rfl)
    (of_decide_eq_true (by kernel_rfl)) (by unfold Func.isWrapper; first | (rw [if_pos (by decide +kernel)]; kernel_rfl) | (rw [if_neg (by decide +kernel)]; exact ⟨rfl, rfl⟩))
    (fun os started H enc _ => lifted os started H enc)
end lawEncoderFresh
end Go.Proofs.YtghhiloencpimaaGreat
