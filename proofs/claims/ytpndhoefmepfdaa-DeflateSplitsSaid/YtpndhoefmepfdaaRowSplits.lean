/- valiselaw11.DeflateSplits returns true for all tokens and leaves them as they were. No condition beyond the row's own form. -/
import Derived.Test.YtpndhoefmepfdaaRows
import Derived.Test.YtpndhoefmepfdaaOpen
import Derived.Test.YtpndhoefmepfdaaSplitsWalk
import Derived.WalkKit
import Derived.ProofKit
import Derived.OpenShut
import Derived.SizedLaws
import Derived.Below
import Derived.ChangeMaps5
import Derived.Test.YtpndhoefmepfdaaWSized
namespace Go.Proofs.Ytpndhoefmepfdaa.deflateSplitsRow
open Go.ChangeShapes Go.WideShapes Go.ChangeAt Go.RowKit
open Go.Proofs.Ytpndhoefmepfdaa.PSu Go.Proofs.Ytpndhoefmepfdaa.Open Go.Proofs.YtpndhoefmepfdaaW.PrintWords Go.Proofs.YtpndhoefmepfdaaW.PrintLast
instance : Inhabited S47 := ⟨z47⟩
set_option linter.unusedVariables false
theorem own : ownKnob Try.prog.godebug = none := by kernel_rfl
theorem laidOut : laidOutB Try.prog = true := by kernel_rfl
def tok (x : S47) : List Value := [.int .i64 x.f0, .int .i64 x.f1, .int .u8 x.f2]
theorem tokens_in {W : World} {A : Option Addr} {l : List S47} (h : ReadsRow (fun a cs => cs = tok a) 3 W A l.length l) : Kd.C k47 W A l.length l :=
  ⟨h.1, h.2.1, fun hp => by
    obtain ⟨ad, hA, hc⟩ := h.2.2 hp
    refine ⟨ad, hA, fun j p hj => ?_⟩
    obtain ⟨c, hl, rfl, hu⟩ := hc j p hj
    exact ⟨_, hl, k47_mk W p, hu⟩⟩
set_option maxRecDepth 100000 in
theorem lifted (os : Os) (started : os.Started) (H : Type) (enc : TypeId × Value → H) :
    ReturnsInHanded {} Try.checked os 6 .any (Rows.deflateSplitsSpec.pre6 enc Try.prog Try.f6 Rows.deflateSplitsRow.domain false) (Rows.deflateSplitsSpec.post enc Try.prog Try.f6 false true false false) := by
  refine returnsInHanded_of_change_sized (C := Try.checked) own started (by kernel_rfl) Try.func6
    (ChangeSpec.witness6 (enc := enc) (C := Try.checked) false ⟨#[], #[.slice none 0 0], []⟩ 8 (by kernel_rfl) (by kernel_rfl) (by kernel_rfl) (by kernel_rfl)) ?_
  intro W base args ds gs before hval0 hW hcnd hsz0 _
  have hsz : (DataW.weightsEach Try.prog (Try.f6.params.toList ++ Rows.deflateSplitsSpec.plain.varTypes Try.prog) (ds ++ gs)).all (· ≤ reachBytes) = true := hsz0
  have hval : ∀ (j : Nat) t v, Try.f6.params[j]? = some t → args[j]? = some v → Value.okWide Try.prog W .any base t v := hval0
  have hW' := hW
  obtain ⟨p, q, hA0, hV, rfl, hfz, hnd⟩ := hW
  have hA : DataW.TrodAll enc Try.prog W 0 (fun _ => true) true Try.f6.params.toList args.toList ds p := hA0
  rw [Try.params6] at hA hval hsz
  obtain ⟨v0, vs0, d0, ds0, p0, q0, hargs, rfl, rfl, h0, r0⟩ := trodAll_cons hA
  obtain ⟨rfl, rfl, rfl⟩ := trodAll_nil r0
  obtain rfl : args = #[v0] := by cases args; simp_all
  obtain ⟨rfl, rfl⟩ := trodVars_none hV
  have lt : ∀ {t v d ps}, DataW.Trod enc Try.prog W 0 (fun _ => true) true t v d ps → ∀ x ∈ ps, x.block < W.heap.size := by
    rintro t v d ps ⟨m, hm⟩
    exact DataW.trod_lt m _ _ _ hm
  have s0 := okWide_slice Try.underlying45 (hval 0 45 v0 rfl rfl)
  obtain ⟨A0, c0, l0, e0, hc0, hm0, wf0, R0, z0⟩ := open_row (sz := 3) tok (fun x => (Lit.int .i64 x.f0).wf = true ∧ (Lit.int .i64 x.f1).wf = true ∧ (Lit.int .u8 x.f2).wf = true) Try.underlying45 (by kernel_rfl) (fun _ => rfl) s0
    (fun fuel cs x hx => by
      obtain ⟨a, b, c, rfl, wa, wb, wc⟩ := open_token (t1 := 3) (t2 := 3) (t3 := 5) Try.underlying47 (by kernel_rfl) Try.underlying3 Try.underlying3 Try.underlying5 (by kernel_rfl) (by kernel_rfl) (by kernel_rfl) (by kernel_rfl) hx
      exact ⟨⟨a, b, c⟩, rfl, wa, wb, wc⟩) h0
  subst e0
  have y0 := z0 _ _ 0 hsz rfl rfl
  rw [show Try.prog.bytesOf 47 = 24 from by kernel_rfl] at y0
  have hby : ∀ t ∈ l0, 0 ≤ t.f2 ∧ t.f2 ≤ 255 := fun t ht => by
    have := (wf0 t ht).2.2
    simp [Lit.wf] at this
    rw [show IntKind.u8.min = 0 from rfl, show IntKind.u8.max = 255 from rfl] at this
    exact this
  clear hA0 z0 hsz hval0 hsz0
  refine (Go.Proofs.Ytpndhoefmepfdaa.SuWalk.splits_calls A0 c0 l0 W (tokens_in R0) hc0 hby y0).mono fun e W' ⟨he, bel⟩ => ?_
  subst he
  exact ⟨_, rfl, _, _, _, [], _, [], hW', trodAll_mk1 (shut_bool Try.underlying4 _), trodAll_cons_mk (Below.trod laidOut (by kernel_rfl) (of_decide_eq_true (by kernel_rfl)) h0 bel (lt h0)) trodAll_mk0, rfl, bel.frame _, fun h => by cases h⟩
theorem over : Rows.deflateSplitsRow.holds Try.pinned (OpenSpec.ofChange Rows.deflateSplitsSpec) :=
  OpenClaim.holds_of_wide 6 Try.f6 rfl rfl rfl rfl rfl rfl rfl ⟨rfl, rfl, rfl, rfl, rfl⟩ rfl rfl rfl rfl rfl (by kernel_rfl) Try.func6 (by kernel_rfl)
    (of_decide_eq_true (by kernel_rfl)) (by unfold Func.isWrapper; first | (rw [if_pos (by decide +kernel)]; kernel_rfl) | (rw [if_neg (by decide +kernel)]; exact ⟨rfl, rfl⟩))
    (fun os started H enc _ => lifted os started H enc)
theorem proved : Rows.DeflateSplitsSaid := over
#print axioms proved
end Go.Proofs.Ytpndhoefmepfdaa.deflateSplitsRow
namespace Go.Proofs.Ytpndhoefmepfdaa
/-- The row, under a short name, for the claim. -/
theorem deflateSplits_holds : Rows.DeflateSplitsSaid := deflateSplitsRow.proved
end Go.Proofs.Ytpndhoefmepfdaa
