/- For all bytes, of the law ListenSilent: it returns true, and its arguments read as before. No conditions. -/
import Derived.Test.YtojdkfikpacakaaGreatL7
import Derived.Test.YtojdkfikpacakaaGreatC
import Derived.Test.YtojdkfikpacakaaGreatRows
import Derived.ProofKit
namespace Go.Proofs.YtojdkfikpacakaaGreat
open Go.Rx Go.Sq Go.ChangeShapes Go.WideShapes Go.ChangeAt Go.RowKit
namespace lawListenSilent
theorem own : ownKnob Tryz.prog.godebug = none := by kernel_rfl
theorem laidOut : laidOutB Tryz.prog = true := by kernel_rfl
set_option maxRecDepth 100000 in
theorem lifted (os : Os) (started : os.Started) (H : Type) (enc : TypeId × Value → H) :
    ReturnsInHanded {} Tryz.checked os 4 .any (Rows.listenSilentSpec.pre6 enc Tryz.prog Tryz.f4 Rows.listenSilentRow.domain false) (Rows.listenSilentSpec.post enc Tryz.prog Tryz.f4 false true false false) := by
  refine returnsInHanded_of_change (C := Tryz.checked) own started (by kernel_rfl) Tryz.func4
    (ChangeSpec.witness6 (enc := enc) (C := Tryz.checked) false ⟨#[], #[.slice none 0 0], []⟩ 8 (by kernel_rfl) (by kernel_rfl) (by kernel_rfl) (by kernel_rfl)) ?_
  intro W base args ds gs before hval hW _ _
  refine law_calls Go.Rx.c4 (n := 8) (by kernel_rfl) (pure_LSilent) laidOut (by kernel_rfl) (tb := 4) (by kernel_rfl) (by kernel_rfl) rfl (fun ds h => ?_) (fun _ _ _ h => by cases h) hval hW
  match ds, h with
  | [_], _ => rfl
theorem proved : Rows.ListenSilentSaid :=
  OpenClaim.holds_of_wide 4 Tryz.f4 rfl rfl rfl rfl rfl rfl rfl ⟨rfl, rfl, rfl, rfl, rfl⟩ rfl rfl rfl rfl rfl (by kernel_rfl) Tryz.func4 (by kernel_rfl)
    (of_decide_eq_true (by kernel_rfl)) (by unfold Func.isWrapper; first | (rw [if_pos (by decide +kernel)]; kernel_rfl) | (rw [if_neg (by decide +kernel)]; exact ⟨rfl, rfl⟩))
    (fun os started H enc _ => lifted os started H enc)
end lawListenSilent
end Go.Proofs.YtojdkfikpacakaaGreat
