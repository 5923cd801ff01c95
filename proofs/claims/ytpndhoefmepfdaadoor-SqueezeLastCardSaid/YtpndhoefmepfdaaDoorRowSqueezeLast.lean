/- valiselaw21.SqueezeLast returns true for all data, windows, prices, lengths and distances: the least price is at most a beginning's and a last token's, and just that for the row's own last token. Conditions: the row lists the four tables of symbols as the program's text lays them (the card ties them); nothing else is asked. -/
import Derived.Test.YtpndhoefmepfdaaDoorCards
import Derived.Test.YtpndhoefmepfdaaDoorTie
import Derived.Test.YtpndhoefmepfdaaDoorOpen
import Derived.Test.YtpndhoefmepfdaaDoorCheapLast
import Derived.WalkKit
import Derived.ProofKit
import Derived.OpenShut
import Derived.Deep.DeepHandedRow
import Derived.Lib.LaidTab
import Derived.Below
namespace Go.Proofs.YtpndhoefmepfdaaDoor.squeezeLastRow
open Go.ChangeShapes Go.WideShapes Go.ChangeAt Go.RowKit
open Go.Proofs.YtpndhoefmepfdaaDoor.PSq Go.Proofs.YtpndhoefmepfdaaDoor.TS Go.Proofs.YtpndhoefmepfdaaDoor.Open Go.Proofs.YtpndhoefmepfdaaDoorW.PrintWords Go.Proofs.YtpndhoefmepfdaaDoorW.PrintLast
set_option linter.unusedVariables false
theorem own : ownKnob Tryd.prog.godebug = none := by kernel_rfl
theorem laidOut : laidOutB Tryd.prog = true := by kernel_rfl
set_option maxRecDepth 100000 in
theorem contract (H : Type) (enc : TypeId × Value → H) (W : World) (base : Nat) (args : Array Value) (ds gs : List (DataW H)) (before : List MemPlace)
    (hval : ∀ (j : Nat) t v, Tryd.f6.params[j]? = some t → args[j]? = some v → Value.okWide Tryd.prog W .any base t v)
    (hW : DataW.Whole enc Tryd.prog Tryd.f6.params.toList Rows.squeezeLastSpec.vars false W args.toList ds gs before)
    (hsz : (DataW.weightsEach Tryd.prog (Tryd.f6.params.toList ++ Rows.squeezeLastSpec.plain.varTypes Tryd.prog) (ds ++ gs)).all (· ≤ reachBytes) = true)
    (hL : laidMetH Tryd.prog Rows.squeezeLastRow.laid W) :
    Calls Tryd.prog 6 args W fun e W' => ∃ v, e = .returned v ∧ Rows.squeezeLastSpec.post enc Tryd.prog Tryd.f6 false true false false W args v W' := by
  have hW' := hW
  obtain ⟨p, q, hA0, hV, rfl, hfz, hnd⟩ := hW
  have hA : DataW.TrodAll enc Tryd.prog W 0 (fun _ => true) true Tryd.f6.params.toList args.toList ds p := hA0
  rw [Tryd.params6] at hA hval hsz
  obtain ⟨v0, vs0, d0, ds0, p0, q0, hargs, rfl, rfl, h0, r0⟩ := trodAll_cons hA
  obtain ⟨v1, vs1, d1, ds1, p1, q1, rfl, rfl, rfl, h1, r1⟩ := trodAll_cons r0
  obtain ⟨v2, vs2, d2, ds2, p2, q2, rfl, rfl, rfl, h2, r2⟩ := trodAll_cons r1
  obtain ⟨v3, vs3, d3, ds3, p3, q3, rfl, rfl, rfl, h3, r3⟩ := trodAll_cons r2
  obtain ⟨v4, vs4, d4, ds4, p4, q4, rfl, rfl, rfl, h4, r4⟩ := trodAll_cons r3
  obtain ⟨v5, vs5, d5, ds5, p5, q5, rfl, rfl, rfl, h5, r5⟩ := trodAll_cons r4
  obtain ⟨rfl, rfl, rfl⟩ := trodAll_nil r5
  obtain rfl : args = #[v0, v1, v2, v3, v4, v5] := by cases args; simp_all
  obtain ⟨rfl, rfl⟩ := trodVars_none hV
  have lt : ∀ {t v d ps}, DataW.Trod enc Tryd.prog W 0 (fun _ => true) true t v d ps → ∀ x ∈ ps, x.block < W.heap.size := by
    rintro t v d ps ⟨m, hm⟩
    exact DataW.trod_lt m _ _ _ hm
  have s0 := okWide_slice Tryd.underlying44 (hval 0 44 v0 rfl rfl)
  have s2 := okWide_slice Tryd.underlying36 (hval 2 36 v2 rfl rfl)
  have s3 := okWide_slice Tryd.underlying36 (hval 3 36 v3 rfl rfl)
  obtain ⟨A0, c0, l0, e0, hc0, hm0, wf0, C0, z0⟩ := open_nums .u8 Tryd.underlying44 Tryd.underlying5 (by kernel_rfl) s0 h0
  have y0 := z0 _ _ 0 hsz rfl rfl
  rw [show Tryd.prog.bytesOf 5 = 1 from by kernel_rfl] at y0
  have bb0 : ∀ x ∈ l0, 0 ≤ x ∧ x ≤ 255 := fun x hx => by
    have := wf0 x hx
    simp [Lit.wf] at this
    rw [show IntKind.u8.min = 0 from rfl, show IntKind.u8.max = 255 from rfl] at this
    exact this
  have k1 := h1
  obtain ⟨a1, rfl, rfl, rfl, w1⟩ := open_int Tryd.underlying3 (hval 1 3 v1 rfl rfl) h1
  have bb1 : -9223372036854775808 ≤ a1 ∧ a1 ≤ 9223372036854775807 := by
    have := w1
    simp [Lit.wf] at this
    rw [show IntKind.i64.min = -9223372036854775808 from rfl] at this
    exact this
  obtain ⟨A2, c2, l2, e2, hc2, hm2, wf2, C2, z2⟩ := open_nums .i64 Tryd.underlying36 Tryd.underlying3 (by kernel_rfl) s2 h2
  have y2 := z2 _ _ 2 hsz rfl rfl
  rw [show Tryd.prog.bytesOf 3 = 8 from by kernel_rfl] at y2
  obtain ⟨A3, c3, l3, e3, hc3, hm3, wf3, C3, z3⟩ := open_nums .i64 Tryd.underlying36 Tryd.underlying3 (by kernel_rfl) s3 h3
  have y3 := z3 _ _ 3 hsz rfl rfl
  rw [show Tryd.prog.bytesOf 3 = 8 from by kernel_rfl] at y3
  have k4 := h4
  obtain ⟨a4, rfl, rfl, rfl, w4⟩ := open_int Tryd.underlying3 (hval 4 3 v4 rfl rfl) h4
  have bb4 : -9223372036854775808 ≤ a4 ∧ a4 ≤ 9223372036854775807 := by
    have := w4
    simp [Lit.wf] at this
    rw [show IntKind.i64.min = -9223372036854775808 from rfl] at this
    exact this
  have k5 := h5
  obtain ⟨a5, rfl, rfl, rfl, w5⟩ := open_int Tryd.underlying3 (hval 5 3 v5 rfl rfl) h5
  have bb5 : -9223372036854775808 ≤ a5 ∧ a5 ≤ 9223372036854775807 := by
    have := w5
    simp [Lit.wf] at this
    rw [show IntKind.i64.min = -9223372036854775808 from rfl] at this
    exact this
  subst e0 e2 e3
  have hG : Tabs W := Tabs.of_laid (by kernel_rfl) hL (by simp [Rows.squeezeLastRow]) (by simp [Rows.squeezeLastRow]) (by simp [Rows.squeezeLastRow]) (by simp [Rows.squeezeLastRow])
  obtain ⟨k, hk⟩ := CheapLast.law l0 a1 l2 l3 a4 a5 bb0 (by omega) bb1 y2 y3 bb4 bb5
  clear hA0 z0 z2 z3 hsz
  refine (valiselaw21_SqueezeLast.calls k A0 c0 l0 a1 A2 c2 l2 A3 c3 l3 a4 a5 true W C0 hc0 C2 hc2 C3 hc3 hG hk).mono fun e W' ⟨he, bel⟩ => ?_
  subst he
  exact ⟨_, rfl, _, _, _, [], _, [], hW', trodAll_mk1 (shut_bool Tryd.underlying4 _), trodAll_cons_mk (Below.trod laidOut (by kernel_rfl) (of_decide_eq_true (by kernel_rfl)) h0 bel (lt h0)) (trodAll_cons_mk (Below.trod laidOut (by kernel_rfl) (of_decide_eq_true (by kernel_rfl)) k1 bel (lt k1)) (trodAll_cons_mk (Below.trod laidOut (by kernel_rfl) (of_decide_eq_true (by kernel_rfl)) h2 bel (lt h2)) (trodAll_cons_mk (Below.trod laidOut (by kernel_rfl) (of_decide_eq_true (by kernel_rfl)) h3 bel (lt h3)) (trodAll_cons_mk (Below.trod laidOut (by kernel_rfl) (of_decide_eq_true (by kernel_rfl)) k4 bel (lt k4)) (trodAll_cons_mk (Below.trod laidOut (by kernel_rfl) (of_decide_eq_true (by kernel_rfl)) k5 bel (lt k5)) trodAll_mk0))))), rfl, bel.frame _, fun h => by cases h⟩

/-! The row -/
def holdsCells (cs : Array Value) : Obj → Obj
  | .cells _ t frozen => .cells cs t frozen
  | o => o
def vals (l : List Int) : Array Value := (l.map fun x => Value.int .i64 x).toArray
/-- A world for the witness: the settled one, the tables holding what their initialisers lay. -/
noncomputable def laidWorld (os : Os) : World :=
  { World.holding Tryd.prog os ⟨#[], #[], []⟩ with heap := (((((World.holding Tryd.prog os ⟨#[], #[], []⟩).heap.modify 2 (holdsCells (vals TS.tab2))).modify 3 (holdsCells (vals TS.tab3))).modify 4 (holdsCells (vals TS.tab4))).modify 5 (holdsCells (vals TS.tab5))) }
def args0 : Array Value := #[.slice none 0 0, .int .i64 0, .slice none 0 0, .slice none 0 0, .int .i64 0, .int .i64 0]
theorem laid_met (os : Os) : laidMet Tryd.prog Rows.squeezeLastRow.laid ((laidWorld os).forCall (fun _ _ => 0) ⟨#[], args0, []⟩).memory :=
  laidMet_of_run' 8 (by kernel_rfl) (by kernel_rfl)
theorem reads (os : Os) {H : Type} (enc : TypeId × Value → H) : ∃ places, DataW.whole enc Tryd.prog ((laidWorld os).forCall (fun _ _ => 0) ⟨#[], args0, []⟩).memory Tryd.f6.params.toList Rows.squeezeLastSpec.vars false args0.toList 8 = some ([.nil, .lit (.int .i64 0), .nil, .nil, .lit (.int .i64 0), .lit (.int .i64 0)], [], places) :=
  ⟨[], by kernel_rfl⟩
set_option maxRecDepth 100000 in
theorem lifted (os : Os) (started : os.Started) (H : Type) (enc : TypeId × Value → H) (F : Stop.Interp) :
    ReturnsInHanded {} Tryd.checked os 6 .any ((OpenSpec.ofChange Rows.squeezeLastSpec).preRow enc Tryd.prog Tryd.f6 Rows.squeezeLastRow.domain false Rows.squeezeLastRow.laid) (((OpenSpec.ofChange Rows.squeezeLastSpec).at F).post enc Tryd.prog Tryd.f6 false true false false) := by
  obtain ⟨places, hx⟩ := reads os enc
  refine returnsInHanded_of_row (C := Tryd.checked) (s := OpenSpec.ofChange Rows.squeezeLastSpec) own started (by kernel_rfl) Tryd.func6
    (witness_row_at (enc := enc) (C := Tryd.checked) false (laidWorld os) args0 rfl (by kernel_rfl) (by kernel_rfl) (by kernel_rfl)
      (OpenSpec.preRow_of_cond 8 hx (by kernel_rfl) (fun k hk => by cases hk) (by kernel_rfl) (laid_met os))) ?_
  intro W base args ds gs before hval hW _ _ hsz hL _ _
  exact contract H enc W base args ds gs before hval hW hsz hL
theorem said : Rows.SqueezeLastSaid :=
  OpenClaim.holds_of_cond 6 Tryd.f6 rfl rfl rfl rfl rfl rfl rfl ⟨rfl, rfl, rfl, rfl, rfl⟩ rfl rfl rfl rfl rfl (by kernel_rfl) Tryd.func6 (by kernel_rfl)
    (of_decide_eq_true (by kernel_rfl)) (by unfold Func.isWrapper; first | (rw [if_pos (by decide +kernel)]; kernel_rfl) | (rw [if_neg (by decide +kernel)]; exact ⟨rfl, rfl⟩))
    (fun os started H enc _ F => by rw [OpenClaim.pre_eq_preRow]; exact lifted os started H enc F)
theorem plain (f : FuncId) (fn : Func) (hf : Tryd.pinned.checked.prog.funcNamed "valise/valiselaw21.SqueezeLast" = some f) (hfn : Tryd.pinned.checked.prog.funcs[f]? = some fn) :
    false = Tryd.pinned.checked.prog.looks [] ∧ ∀ (j : Nat) t, fn.params[j]? = some t → Tryd.pinned.checked.prog.wantsStandIn t = false := by
  obtain rfl : f = 6 := Option.some.inj ((show Tryd.prog.funcNamed "valise/valiselaw21.SqueezeLast" = some 6 by kernel_rfl).symm.trans hf) |>.symm
  obtain rfl : fn = Tryd.f6 := (Option.some.inj (Tryd.func6.symm.trans hfn)).symm
  refine ⟨by kernel_rfl, fun j t ht => ?_⟩
  rw [Tryd.params6] at ht
  have hall : ((#[44, 3, 36, 36, 3, 3] : Array TypeId).all fun t => !(Tryd.prog.wantsStandIn t)) = true := by kernel_rfl
  have h := Array.all_eq_true_iff_forall_mem.1 hall t (Array.mem_of_getElem? ht)
  have h2 : Tryd.prog.wantsStandIn t = false := by simpa using h
  exact h2
theorem card : Rows.SqueezeLastCardSaid :=
  Claim7.holds_tied_plain_at .later [] _ _ _ _ said (fun _ h => by cases h) (by kernel_rfl) (fun _ h => by cases h) squeezeLast_row_tie rfl ⟨rfl, rfl⟩ (by kernel_rfl) rfl plain (by kernel_rfl)
#print axioms card
end Go.Proofs.YtpndhoefmepfdaaDoor.squeezeLastRow
namespace Go.Proofs.YtpndhoefmepfdaaDoor
/-- The card, under a short name, for the claim. -/
theorem squeezeLast_holds : Rows.SqueezeLastCardSaid := squeezeLastRow.card
end Go.Proofs.YtpndhoefmepfdaaDoor
