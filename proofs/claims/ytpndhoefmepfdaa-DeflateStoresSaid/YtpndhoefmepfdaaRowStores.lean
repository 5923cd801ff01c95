/- valiselaw11.DeflateStores returns true for all bytes and leaves them as they were. No condition beyond the row's own form. -/
import Derived.Test.YtpndhoefmepfdaaRows
import Derived.Test.YtpndhoefmepfdaaOpen
import Derived.Test.YtpndhoefmepfdaaStoresWalk
import Derived.WalkKit
import Derived.ProofKit
import Derived.OpenShut
import Derived.SizedLaws
import Derived.Below
import Derived.ChangeMaps5
import Derived.Test.YtpndhoefmepfdaaWSized
namespace Go.Proofs.Ytpndhoefmepfdaa.deflateStoresRow
open Go.ChangeShapes Go.WideShapes Go.ChangeAt Go.RowKit
open Go.Proofs.Ytpndhoefmepfdaa.PSt Go.Proofs.Ytpndhoefmepfdaa.Open Go.Proofs.YtpndhoefmepfdaaW.PrintWords Go.Proofs.YtpndhoefmepfdaaW.PrintLast
set_option linter.unusedVariables false
theorem own : ownKnob Try.prog.godebug = none := by kernel_rfl
theorem laidOut : laidOutB Try.prog = true := by kernel_rfl
set_option maxRecDepth 100000 in
theorem lifted (os : Os) (started : os.Started) (H : Type) (enc : TypeId × Value → H) :
    ReturnsInHanded {} Try.checked os 5 .any (Rows.deflateStoresSpec.pre6 enc Try.prog Try.f5 Rows.deflateStoresRow.domain false) (Rows.deflateStoresSpec.post enc Try.prog Try.f5 false true false false) := by
  refine returnsInHanded_of_change_sized (C := Try.checked) own started (by kernel_rfl) Try.func5
    (ChangeSpec.witness6 (enc := enc) (C := Try.checked) false ⟨#[], #[.slice none 0 0], []⟩ 8 (by kernel_rfl) (by kernel_rfl) (by kernel_rfl) (by kernel_rfl)) ?_
  intro W base args ds gs before hval0 hW hcnd hsz0 _
  have hsz : (DataW.weightsEach Try.prog (Try.f5.params.toList ++ Rows.deflateStoresSpec.plain.varTypes Try.prog) (ds ++ gs)).all (· ≤ reachBytes) = true := hsz0
  have hval : ∀ (j : Nat) t v, Try.f5.params[j]? = some t → args[j]? = some v → Value.okWide Try.prog W .any base t v := hval0
  have hW' := hW
  obtain ⟨p, q, hA0, hV, rfl, hfz, hnd⟩ := hW
  have hA : DataW.TrodAll enc Try.prog W 0 (fun _ => true) true Try.f5.params.toList args.toList ds p := hA0
  rw [Try.params5] at hA hval hsz
  obtain ⟨v0, vs0, d0, ds0, p0, q0, hargs, rfl, rfl, h0, r0⟩ := trodAll_cons hA
  obtain ⟨rfl, rfl, rfl⟩ := trodAll_nil r0
  obtain rfl : args = #[v0] := by cases args; simp_all
  obtain ⟨rfl, rfl⟩ := trodVars_none hV
  have lt : ∀ {t v d ps}, DataW.Trod enc Try.prog W 0 (fun _ => true) true t v d ps → ∀ x ∈ ps, x.block < W.heap.size := by
    rintro t v d ps ⟨m, hm⟩
    exact DataW.trod_lt m _ _ _ hm
  have s0 := okWide_slice Try.underlying22 (hval 0 22 v0 rfl rfl)
  obtain ⟨A0, c0, l0, e0, hc0, hm0, wf0, C0, z0⟩ := open_nums .u8 Try.underlying22 Try.underlying5 (by kernel_rfl) s0 h0
  subst e0
  have y0 := z0 _ _ 0 hsz rfl rfl
  rw [show Try.prog.bytesOf 5 = 1 from by kernel_rfl] at y0
  clear hA0 z0 hsz hval0 hsz0
  refine (Go.Proofs.Ytpndhoefmepfdaa.StWalk.stores_calls A0 c0 l0 W C0 hc0 (by omega)).mono fun e W' ⟨he, bel⟩ => ?_
  subst he
  exact ⟨_, rfl, _, _, _, [], _, [], hW', trodAll_mk1 (shut_bool Try.underlying4 _), trodAll_cons_mk (Below.trod laidOut (by kernel_rfl) (of_decide_eq_true (by kernel_rfl)) h0 bel (lt h0)) trodAll_mk0, rfl, bel.frame _, fun h => by cases h⟩
theorem over : Rows.deflateStoresRow.holds Try.pinned (OpenSpec.ofChange Rows.deflateStoresSpec) :=
  OpenClaim.holds_of_wide 5 Try.f5 rfl rfl rfl rfl rfl rfl rfl ⟨rfl, rfl, rfl, rfl, rfl⟩ rfl rfl rfl rfl rfl (by kernel_rfl) Try.func5 (by kernel_rfl)
    (of_decide_eq_true (by kernel_rfl)) (by unfold Func.isWrapper; first | (rw [if_pos (by decide +kernel)]; kernel_rfl) | (rw [if_neg (by decide +kernel)]; exact ⟨rfl, rfl⟩))
    (fun os started H enc _ => lifted os started H enc)
theorem proved : Rows.DeflateStoresSaid := over
#print axioms proved
end Go.Proofs.Ytpndhoefmepfdaa.deflateStoresRow
namespace Go.Proofs.Ytpndhoefmepfdaa
/-- The row, under a short name, for the claim. -/
theorem deflateStores_holds : Rows.DeflateStoresSaid := deflateStoresRow.proved
end Go.Proofs.Ytpndhoefmepfdaa
