/- For all lists of messages, of the law ServerArbiter: it returns true, and its arguments read as before; what it reads of package variables is tied to the text of the program. No conditions. -/
import Derived.Test.YtjbbjnjcjjomgaaGreatDoorL8
import Derived.Test.YtjbbjnjcjjomgaaGreatDoorC
import Derived.Test.YtjbbjnjcjjomgaaGreatDoorRows
import Derived.Test.YtjbbjnjcjjomgaaGreatDoorCards
import Derived.Test.YtjbbjnjcjjomgaaGreatDoorTie
import Derived.ProofKit
import Derived.SevenTiedAt
namespace Go.Proofs.YtjbbjnjcjjomgaaGreatDoor
open Go.Rx Go.Sq Go.ChangeShapes Go.WideShapes Go.ChangeAt Go.RowKit
namespace lawServerArbiter
theorem own : ownKnob Tryz.prog.godebug = none:=by kernel_rfl
theorem laidOut : laidOutB Tryz.prog = true:=by kernel_rfl
noncomputable def gv : List (l7B × DataW Unit):=[(l7B.mk "unicode/utf8.acceptRanges" 1 175 y84 l3A,Rows.laid_unicode_utf8_acceptRanges),(l7B.mk "unicode/utf8.first" 0 172 y85 m2A,Rows.laid_unicode_utf8_first)]
theorem gv_ok : ∀ e ∈ gv,e.1.fits Tryz.prog ∧ u0A e.1.ty e.2 = some e.1.x:=by
  intro e he
  simp only [gv,Bf,List.not_mem_nil,or_false] at he
  rcases he with rfl | rfl
  · exact ⟨⟨by kernel_rfl,by kernel_rfl,by kernel_rfl,Dl (by kernel_rfl),by kernel_rfl⟩,by kernel_rfl⟩
  · exact ⟨⟨by kernel_rfl,by kernel_rfl,by kernel_rfl,Dl (by kernel_rfl),by kernel_rfl⟩,by kernel_rfl⟩
theorem gv_all : ∀ (g : Nat) (t : Ty) (x : den t),d1B g = some ⟨t,x⟩ → ∃ e ∈ gv,e.1.g = g ∧ (⟨e.1.ty,e.1.x⟩ : (t : Ty) × den t) = ⟨t,x⟩:=by
  intro g t x h
  have h : ((bif Nat.beq g 0 then some ⟨y85,m2A⟩ else bif Nat.beq g 1 then some ⟨y84,l3A⟩ else none) : Option ((t : Ty) × den t)) = some ⟨t,x⟩:=h
  cases h0 : Nat.beq g 0 with
  | true=>rw [h0] at h; exact ⟨_,Bb _ Ax,(Ag h0).symm,Bp h⟩
  | false =>
    rw [h0] at h
    simp only [Ai] at h
    cases h1 : Nat.beq g 1 with
    | true=>rw [h1] at h; exact ⟨_,Ax,(Ag h1).symm,Bp h⟩
    | false =>
      rw [h1] at h
      simp only [Ai] at h
      cases h
theorem a8A {W : World} (h : laidMetH Tryz.prog Rows.serverArbiterRow.laid W) : k2A (i2C W) :=
  t2E (l:=gv) (P:=Tryz.prog) h (by kernel_rfl) gv_ok gv_all
noncomputable def laidWorld (os : Os) : World :=
  let w0:=World.holding Tryz.prog os ⟨#[],#[],[]⟩
  { w0 with heap:=((w0.heap.modify 0 fun
      | .cells _ t frozen=>.cells (m2A.map fun n=>Value.int .u8 n).toArray t frozen
      | o=>o).modify 1 fun
      | .cells _ t frozen=>.cells (l3A.flatMap fun p=>[Value.int .u8 p.1,Value.int .u8 p.2]).toArray t frozen
      | o=>o) }
set_option maxRecDepth 100000 in
theorem laidWorld_met (os : Os) (args : Array Value) : laidMetH Tryz.prog Rows.serverArbiterRow.laid ((laidWorld os).forCall (fun _ _=>0) ⟨#[],args,[]⟩).memory :=
  laidMetH_of_parts3 (fuel:=8) (laidMet_of_run' 8 (by kernel_rfl) (by kernel_rfl)) (by kernel_rfl) (by kernel_rfl)
set_option maxRecDepth 100000 in
theorem lifted (os : Os) (started : os.Started) (H : Type) (enc : TypeId × Value → H) :
    ReturnsInHanded {} Tryz.checked os 3 .any (fun w args=>(Rows.serverArbiterSpec.pre enc Tryz.prog Tryz.f3 [] false w args ∧ laidMetH Tryz.prog Rows.serverArbiterRow.laid w) ∧ sizedMet enc Tryz.prog Tryz.f3 (OpenSpec.ofChange Rows.serverArbiterSpec) false w args)
      (Rows.serverArbiterSpec.post enc Tryz.prog Tryz.f3 false true false false):=by
  refine returnsInHanded_of_change_and (C:=Tryz.checked) (X:=fun w _=>laidMetH Tryz.prog Rows.serverArbiterRow.laid w) (fun _ _ _ hh h=>h.of_heap hh) own started (by kernel_rfl) Tryz.func3
    (ChangeSpec.witness_at (enc:=enc) (C:=Tryz.checked) (os:=os) (X:=fun w _=>laidMetH Tryz.prog Rows.serverArbiterRow.laid w) false (laidWorld os) #[.slice none 0 0] 8 rfl (by kernel_rfl) (by kernel_rfl) (by kernel_rfl) (by kernel_rfl) (by kernel_rfl) (laidWorld_met os _)) ?_
  intro W base args ds gs before hval hW _ _ hL _
  refine t3E Go.Rx.c3 (n:=8) (by kernel_rfl) (c9G) laidOut (by kernel_rfl) (tb:=4) (by kernel_rfl) (by kernel_rfl) rfl (fun ds h=>?_) (a8A hL) hval hW
  match ds,h with
  | [_],_=>rfl
theorem said : Rows.ServerArbiterSaid :=
  OpenClaim.holds_of_wide 3 Tryz.f3 rfl rfl rfl rfl rfl rfl rfl ⟨rfl,rfl,rfl,rfl,rfl⟩ rfl rfl rfl rfl rfl (by kernel_rfl) Tryz.func3 (by kernel_rfl)
    (Dl (by kernel_rfl)) (by unfold Func.isWrapper; first | (rw [Aj (by decide +kernel)]; kernel_rfl) | (rw [Ae (by decide +kernel)]; exact ⟨rfl,rfl⟩))
    (fun os started H enc _=>lifted os started H enc)
theorem proved : Rows.ServerArbiterCardSaid :=
  Claim7.holds_tied_plain_at .later [] [.data,.pinned] true (true,"7c77e80c73a0bce4e2b50694a9d937e946f04748307ddf1e2557f1e3ca796cdc") false
    said (fun _ h=>by cases h) (by kernel_rfl) (fun _ h=>by cases h) serverArbiter_row_tie rfl ⟨rfl,rfl⟩ (by kernel_rfl) rfl
    (fun f fn hf hfn=>by
      obtain rfl : f = 3:=Bp ((show Tryz.prog.funcNamed Rows.serverArbiterRow.func = some 3 by kernel_rfl).symm.trans hf) |>.symm
      obtain rfl : fn = Tryz.f3:=(Bp (Tryz.func3.symm.trans hfn)).symm
      exact ⟨by kernel_rfl,fun j t ht=>by
        rw [Tryz.params3] at ht
        have hm : t ∈ [22]:=by simpa using Array.mem_of_getElem? ht
        have hall : ([22].all fun u=>!Tryz.prog.wantsStandIn u) = true:=by kernel_rfl
        exact (show Tryz.prog.wantsStandIn t = false by simpa using List.all_eq_true.1 hall t hm)⟩)
    (by kernel_rfl)
end lawServerArbiter
end Go.Proofs.YtjbbjnjcjjomgaaGreatDoor
