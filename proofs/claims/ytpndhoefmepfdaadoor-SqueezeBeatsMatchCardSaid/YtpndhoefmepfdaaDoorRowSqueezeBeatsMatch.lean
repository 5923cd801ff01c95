/- No row of tokens that match makes within the window costs less than the cheapest row, whatever the data, prices, chain and laziness. Condition: none beyond the row's own. -/
import Derived.Test.YtpndhoefmepfdaaDoorCards
import Derived.Test.YtpndhoefmepfdaaDoorTie
import Derived.Test.YtpndhoefmepfdaaDoorOpen
import Derived.Test.YtpndhoefmepfdaaDoorCheapBeats
import Derived.WalkKit
import Derived.ProofKit
import Derived.OpenShut
import Derived.Deep.DeepHandedRow
import Derived.Lib.LaidTab
import Derived.Below
namespace Go.Proofs.YtpndhoefmepfdaaDoor.squeezeBeatsMatchRow
open Go.ChangeShapes Go.WideShapes Go.ChangeAt Go.RowKit
open Go.Proofs.YtpndhoefmepfdaaDoor.PSq Go.Proofs.YtpndhoefmepfdaaDoor.TS Go.Proofs.YtpndhoefmepfdaaDoor.Open Go.Proofs.YtpndhoefmepfdaaDoorW.PrintWords Go.Proofs.YtpndhoefmepfdaaDoorW.PrintLast
set_option linter.unusedVariables false
theorem own : ownKnob Tryd.prog.godebug = none := by kernel_rfl
theorem laidOut : laidOutB Tryd.prog = true := by kernel_rfl
set_option maxRecDepth 100000 in
theorem contract (H : Type) (enc : TypeId × Value → H) (W : World) (base : Nat) (args : Array Value) (ds gs : List (DataW H)) (before : List MemPlace)
    (hval : ∀ (j : Nat) t v, Tryd.f9.params[j]? = some t → args[j]? = some v → Value.okWide Tryd.prog W .any base t v)
    (hW : DataW.Whole enc Tryd.prog Tryd.f9.params.toList Rows.squeezeBeatsMatchSpec.vars false W args.toList ds gs before)
    (hsz : (DataW.weightsEach Tryd.prog (Tryd.f9.params.toList ++ Rows.squeezeBeatsMatchSpec.plain.varTypes Tryd.prog) (ds ++ gs)).all (· ≤ reachBytes) = true)
    (hL : laidMetH Tryd.prog Rows.squeezeBeatsMatchRow.laid W) :
    Calls Tryd.prog 9 args W fun e W' => ∃ v, e = .returned v ∧ Rows.squeezeBeatsMatchSpec.post enc Tryd.prog Tryd.f9 false true false false W args v W' := by
  have hW' := hW
  obtain ⟨p, q, hA0, hV, rfl, hfz, hnd⟩ := hW
  have hA : DataW.TrodAll enc Tryd.prog W 0 (fun _ => true) true Tryd.f9.params.toList args.toList ds p := hA0
  rw [Tryd.params9] at hA hval hsz
  obtain ⟨v0, vs0, d0, ds0, p0, q0, hargs, rfl, rfl, h0, r0⟩ := trodAll_cons hA
  obtain ⟨v1, vs1, d1, ds1, p1, q1, rfl, rfl, rfl, h1, r1⟩ := trodAll_cons r0
  obtain ⟨v2, vs2, d2, ds2, p2, q2, rfl, rfl, rfl, h2, r2⟩ := trodAll_cons r1
  obtain ⟨v3, vs3, d3, ds3, p3, q3, rfl, rfl, rfl, h3, r3⟩ := trodAll_cons r2
  obtain ⟨v4, vs4, d4, ds4, p4, q4, rfl, rfl, rfl, h4, r4⟩ := trodAll_cons r3
  obtain ⟨v5, vs5, d5, ds5, p5, q5, rfl, rfl, rfl, h5, r5⟩ := trodAll_cons r4
  obtain ⟨rfl, rfl, rfl⟩ := trodAll_nil r5
  obtain rfl : args = #[v0, v1, v2, v3, v4, v5] := by cases args; simp_all
  obtain ⟨rfl, rfl⟩ := trodVars_none hV
  have lt : ∀ {t v d ps}, DataW.Trod enc Tryd.prog W 0 (fun _ => true) true t v d ps → ∀ x ∈ ps, x.block < W.heap.size := by
    rintro t v d ps ⟨m, hm⟩
    exact DataW.trod_lt m _ _ _ hm
  have s0 := okWide_slice Tryd.underlying44 (hval 0 44 v0 rfl rfl)
  have s4 := okWide_slice Tryd.underlying36 (hval 4 36 v4 rfl rfl)
  have s5 := okWide_slice Tryd.underlying36 (hval 5 36 v5 rfl rfl)
  obtain ⟨A0, c0, l0, e0, hc0, hm0, wf0, C0, z0⟩ := open_nums .u8 Tryd.underlying44 Tryd.underlying5 (by kernel_rfl) s0 h0
  have y0 := z0 _ _ 0 hsz rfl rfl
  rw [show Tryd.prog.bytesOf 5 = 1 from by kernel_rfl] at y0
  have bb0 : ∀ x ∈ l0, 0 ≤ x ∧ x ≤ 255 := fun x hx => by
    have := wf0 x hx
    simp [Lit.wf] at this
    rw [show IntKind.u8.min = 0 from rfl, show IntKind.u8.max = 255 from rfl] at this
    exact this
  have k1 := h1
  obtain ⟨a1, rfl, rfl, rfl, w1⟩ := open_int Tryd.underlying3 (hval 1 3 v1 rfl rfl) h1
  have bb1 : -9223372036854775808 ≤ a1 ∧ a1 ≤ 9223372036854775807 := by
    have := w1
    simp [Lit.wf] at this
    rw [show IntKind.i64.min = -9223372036854775808 from rfl] at this
    exact this
  have k2 := h2
  obtain ⟨a2, rfl, rfl, rfl, w2⟩ := open_int Tryd.underlying3 (hval 2 3 v2 rfl rfl) h2
  have bb2 : -9223372036854775808 ≤ a2 ∧ a2 ≤ 9223372036854775807 := by
    have := w2
    simp [Lit.wf] at this
    rw [show IntKind.i64.min = -9223372036854775808 from rfl] at this
    exact this
  have k3 := h3
  obtain ⟨a3, rfl, rfl, rfl⟩ := open_bool Tryd.underlying4 (hval 3 4 v3 rfl rfl) h3
  obtain ⟨A4, c4, l4, e4, hc4, hm4, wf4, C4, z4⟩ := open_nums .i64 Tryd.underlying36 Tryd.underlying3 (by kernel_rfl) s4 h4
  have y4 := z4 _ _ 4 hsz rfl rfl
  rw [show Tryd.prog.bytesOf 3 = 8 from by kernel_rfl] at y4
  obtain ⟨A5, c5, l5, e5, hc5, hm5, wf5, C5, z5⟩ := open_nums .i64 Tryd.underlying36 Tryd.underlying3 (by kernel_rfl) s5 h5
  have y5 := z5 _ _ 5 hsz rfl rfl
  rw [show Tryd.prog.bytesOf 3 = 8 from by kernel_rfl] at y5
  subst e0 e4 e5
  have hG : Tabs W := Tabs.of_laid (by kernel_rfl) hL (by simp [Rows.squeezeBeatsMatchRow]) (by simp [Rows.squeezeBeatsMatchRow]) (by simp [Rows.squeezeBeatsMatchRow]) (by simp [Rows.squeezeBeatsMatchRow])
  obtain ⟨k, hk⟩ := Go.Proofs.YtpndhoefmepfdaaDoor.CheapBeats.law l0 a1 a2 a3 l4 l5 bb0 (by omega) bb1 bb2 y4 y5
  clear hA0 z0 z4 z5 hsz
  refine (valiselaw21_SqueezeBeatsMatch.calls k A0 c0 l0 a1 a2 a3 A4 c4 l4 A5 c5 l5 true W C0 hc0 C4 hc4 C5 hc5 hG hk).mono fun e W' ⟨he, bel⟩ => ?_
  subst he
  exact ⟨_, rfl, _, _, _, [], _, [], hW', trodAll_mk1 (shut_bool Tryd.underlying4 _), trodAll_cons_mk (Below.trod laidOut (by kernel_rfl) (of_decide_eq_true (by kernel_rfl)) h0 bel (lt h0)) (trodAll_cons_mk (Below.trod laidOut (by kernel_rfl) (of_decide_eq_true (by kernel_rfl)) k1 bel (lt k1)) (trodAll_cons_mk (Below.trod laidOut (by kernel_rfl) (of_decide_eq_true (by kernel_rfl)) k2 bel (lt k2)) (trodAll_cons_mk (Below.trod laidOut (by kernel_rfl) (of_decide_eq_true (by kernel_rfl)) k3 bel (lt k3)) (trodAll_cons_mk (Below.trod laidOut (by kernel_rfl) (of_decide_eq_true (by kernel_rfl)) h4 bel (lt h4)) (trodAll_cons_mk (Below.trod laidOut (by kernel_rfl) (of_decide_eq_true (by kernel_rfl)) h5 bel (lt h5)) trodAll_mk0))))), rfl, bel.frame _, fun h => by cases h⟩

/-! The row -/
def holdsCells (cs : Array Value) : Obj → Obj
  | .cells _ t frozen => .cells cs t frozen
  | o => o
def vals (l : List Int) : Array Value := (l.map fun x => Value.int .i64 x).toArray
/-- A world for the witness: the settled one, the tables holding what their initialisers lay. -/
noncomputable def laidWorld (os : Os) : World :=
  { World.holding Tryd.prog os ⟨#[], #[], []⟩ with heap := (((((World.holding Tryd.prog os ⟨#[], #[], []⟩).heap.modify 2 (holdsCells (vals TS.tab2))).modify 3 (holdsCells (vals TS.tab3))).modify 4 (holdsCells (vals TS.tab4))).modify 5 (holdsCells (vals TS.tab5))) }
def args0 : Array Value := #[.slice none 0 0, .int .i64 0, .int .i64 0, .bool false, .slice none 0 0, .slice none 0 0]
theorem laid_met (os : Os) : laidMet Tryd.prog Rows.squeezeBeatsMatchRow.laid ((laidWorld os).forCall (fun _ _ => 0) ⟨#[], args0, []⟩).memory :=
  laidMet_of_run' 8 (by kernel_rfl) (by kernel_rfl)
theorem reads (os : Os) {H : Type} (enc : TypeId × Value → H) : ∃ places, DataW.whole enc Tryd.prog ((laidWorld os).forCall (fun _ _ => 0) ⟨#[], args0, []⟩).memory Tryd.f9.params.toList Rows.squeezeBeatsMatchSpec.vars false args0.toList 8 = some ([.nil, .lit (.int .i64 0), .lit (.int .i64 0), .lit (.bool false), .nil, .nil], [], places) :=
  ⟨[], by kernel_rfl⟩
set_option maxRecDepth 100000 in
theorem lifted (os : Os) (started : os.Started) (H : Type) (enc : TypeId × Value → H) (F : Stop.Interp) :
    ReturnsInHanded {} Tryd.checked os 9 .any ((OpenSpec.ofChange Rows.squeezeBeatsMatchSpec).preRow enc Tryd.prog Tryd.f9 Rows.squeezeBeatsMatchRow.domain false Rows.squeezeBeatsMatchRow.laid) (((OpenSpec.ofChange Rows.squeezeBeatsMatchSpec).at F).post enc Tryd.prog Tryd.f9 false true false false) := by
  obtain ⟨places, hx⟩ := reads os enc
  refine returnsInHanded_of_row (C := Tryd.checked) (s := OpenSpec.ofChange Rows.squeezeBeatsMatchSpec) own started (by kernel_rfl) Tryd.func9
    (witness_row_at (enc := enc) (C := Tryd.checked) false (laidWorld os) args0 rfl (by kernel_rfl) (by kernel_rfl) (by kernel_rfl)
      (OpenSpec.preRow_of_cond 8 hx (by kernel_rfl) (fun k hk => by cases hk) (by kernel_rfl) (laid_met os))) ?_
  intro W base args ds gs before hval hW _ _ hsz hL _ _
  exact contract H enc W base args ds gs before hval hW hsz hL
theorem said : Rows.SqueezeBeatsMatchSaid :=
  OpenClaim.holds_of_cond 9 Tryd.f9 rfl rfl rfl rfl rfl rfl rfl ⟨rfl, rfl, rfl, rfl, rfl⟩ rfl rfl rfl rfl rfl (by kernel_rfl) Tryd.func9 (by kernel_rfl)
    (of_decide_eq_true (by kernel_rfl)) (by unfold Func.isWrapper; first | (rw [if_pos (by decide +kernel)]; kernel_rfl) | (rw [if_neg (by decide +kernel)]; exact ⟨rfl, rfl⟩))
    (fun os started H enc _ F => by rw [OpenClaim.pre_eq_preRow]; exact lifted os started H enc F)
theorem plain (f : FuncId) (fn : Func) (hf : Tryd.pinned.checked.prog.funcNamed "valise/valiselaw21.SqueezeBeatsMatch" = some f) (hfn : Tryd.pinned.checked.prog.funcs[f]? = some fn) :
    false = Tryd.pinned.checked.prog.looks [] ∧ ∀ (j : Nat) t, fn.params[j]? = some t → Tryd.pinned.checked.prog.wantsStandIn t = false := by
  obtain rfl : f = 9 := Option.some.inj ((show Tryd.prog.funcNamed "valise/valiselaw21.SqueezeBeatsMatch" = some 9 by kernel_rfl).symm.trans hf) |>.symm
  obtain rfl : fn = Tryd.f9 := (Option.some.inj (Tryd.func9.symm.trans hfn)).symm
  refine ⟨by kernel_rfl, fun j t ht => ?_⟩
  rw [Tryd.params9] at ht
  have hall : ((#[44, 3, 3, 4, 36, 36] : Array TypeId).all fun t => !(Tryd.prog.wantsStandIn t)) = true := by kernel_rfl
  have h := Array.all_eq_true_iff_forall_mem.1 hall t (Array.mem_of_getElem? ht)
  have h2 : Tryd.prog.wantsStandIn t = false := by simpa using h
  exact h2
theorem card : Rows.SqueezeBeatsMatchCardSaid :=
  Claim7.holds_tied_plain_at .later [] _ _ _ _ said (fun _ h => by cases h) (by kernel_rfl) (fun _ h => by cases h) squeezeBeatsMatch_row_tie rfl ⟨rfl, rfl⟩ (by kernel_rfl) rfl plain (by kernel_rfl)
#print axioms card
end Go.Proofs.YtpndhoefmepfdaaDoor.squeezeBeatsMatchRow
namespace Go.Proofs.YtpndhoefmepfdaaDoor
/-- The card, under a short name, for the claim. -/
theorem squeezeBeatsMatch_holds : Rows.SqueezeBeatsMatchCardSaid := squeezeBeatsMatchRow.card
end Go.Proofs.YtpndhoefmepfdaaDoor
