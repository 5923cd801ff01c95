/- Package-level variables that hold plain data (numbers, bools, arrays, structs): what their cells are, out of the row's list of laid variables. Conditions: none beyond the row's own. -/
import Derived.Test.YtpndhoefmepfdaaDoorProg
import Derived.WalkKit
import Derived.OpenShut
import Derived.Deep.DeepHandedRow
import Derived.Lib.LaidTab
namespace Go.Proofs.YtpndhoefmepfdaaDoor.Flat
open Go.ChangeShapes Go.WideShapes Go.RowKit

mutual
/-- The cells of a plain datum at a type. -/
def flat {H : Type} (P : Program) : Nat → TypeId → DataW H → Option (List Value)
  | 0, _, _ => none
  | n + 1, t, d => match P.underlying t, d with
    | some .bool, .lit (.bool b) => some [.bool b]
    | some (.int k), .lit (.int k' z) => if k = k' then some [.int k z] else none
    | some (.struct fs), .agg ds => (flatEach P n (P.cellsOf t) 0 fs.toList ds)
    | some (.array m e), .agg ds => if ds.length = m ∧ m * P.cellsOf e = P.cellsOf t then flatAll P n e (P.cellsOf e) ds else none
    | _, _ => none
def flatEach {H : Type} (P : Program) : Nat → Nat → Nat → List Field → List (DataW H) → Option (List Value)
  | 0, _, _, _, _ => none
  | _ + 1, all, off, [], [] => if off = all then some [] else none
  | n + 1, all, off, f :: fs, d :: ds => if f.offset = off then (flat P n f.type d).bind fun a => if a.length = P.cellsOf f.type then (flatEach P n all (off + P.cellsOf f.type) fs ds).map fun b => a ++ b else none else none
  | _ + 1, _, _, _, _ => none
def flatAll {H : Type} (P : Program) : Nat → TypeId → Nat → List (DataW H) → Option (List Value)
  | 0, _, _, _ => none
  | _ + 1, _, _, [] => some []
  | n + 1, e, c, d :: ds => (flat P n e d).bind fun a => if a.length = c then (flatAll P n e c ds).map fun b => a ++ b else none
end

section
variable {H : Type} {enc : TypeId × Value → H} {P : Program} {w : World} {base : Nat} {spare : Nat → Bool} {held : Bool}

theorem flat_all_eq (n : Nat) (ih : ∀ (fuel : Nat) (t : TypeId) (d : DataW H) (cs vs : List Value) (p : List MemPlace), DataW.trod enc P w base spare held fuel t cs = some (d, p) → ∀ m, m < n → flat P m t d = some vs → cs = vs)
    (fuel : Nat) (e : TypeId) : ∀ (m : Nat) (_ : m ≤ n) (xs : List (DataW H × List MemPlace)) (cs vs : List Value), cs.length = xs.length * P.cellsOf e →
      (∀ i, i < xs.length → DataW.trod enc P w base spare held fuel e ((cs.drop (i * P.cellsOf e)).take (P.cellsOf e)) = xs[i]?) → flatAll P m e (P.cellsOf e) (xs.map (·.1)) = some vs → cs = vs := by
  intro m
  induction m with
  | zero => intro _ xs cs vs _ _ h; simp [flatAll] at h
  | succ m ihm =>
    intro hm xs cs vs hl hx h
    cases xs with
    | nil =>
      simp [flatAll] at h
      subst h
      simpa using hl
    | cons x xs =>
      simp only [List.map_cons, flatAll, Option.bind_eq_some_iff] at h
      obtain ⟨a, ha, h⟩ := h
      split at h
      · rename_i hal
        obtain ⟨b, hb, rfl⟩ := Option.map_eq_some_iff.1 h
        have h0 := hx 0 (by simp)
        simp only [Nat.zero_mul, List.drop_zero, List.getElem?_cons_zero] at h0
        have e1 := ih fuel e x.1 _ a x.2 h0 m (by omega) ha
        have e2 := ihm (by omega) xs (cs.drop (P.cellsOf e)) b (by rw [List.length_drop, hl, List.length_cons, Nat.add_mul]; omega) (by
          intro i hi
          have := hx (i + 1) (by simp; omega)
          simp only [List.getElem?_cons_succ] at this
          rw [← this, List.drop_drop, Nat.add_mul, Nat.one_mul, Nat.add_comm]) hb
        rw [← e1, ← e2, List.take_append_drop]
      · cases h

theorem flat_each_eq (n : Nat) (ih : ∀ (fuel : Nat) (t : TypeId) (d : DataW H) (cs vs : List Value) (p : List MemPlace), DataW.trod enc P w base spare held fuel t cs = some (d, p) → ∀ m, m < n → flat P m t d = some vs → cs = vs)
    (fuel all : Nat) (cs : List Value) (hcs : cs.length = all) : ∀ (m : Nat) (_ : m ≤ n) (off : Nat) (fs : List Field) (xs : List (DataW H × List MemPlace)) (vs : List Value), fs.length = xs.length →
      (∀ (i : Nat) (f : Field), fs[i]? = some f → DataW.trod enc P w base spare held fuel f.type ((cs.drop f.offset).take (P.cellsOf f.type)) = xs[i]?) → flatEach P m all off fs (xs.map (·.1)) = some vs → cs.drop off = vs := by
  intro m
  induction m with
  | zero => intro _ off fs xs vs _ _ h; simp [flatEach] at h
  | succ m ihm =>
    intro hm off fs xs vs hl hx h
    cases fs with
    | nil =>
      obtain rfl : xs = [] := List.eq_nil_of_length_eq_zero (by simpa using hl.symm)
      simp only [List.map_nil, flatEach] at h
      split at h
      · rename_i ho
        cases h
        rw [ho, ← hcs]
        simp
      · cases h
    | cons f fs =>
      cases xs with
      | nil => simp at hl
      | cons x xs =>
        simp only [List.map_cons, flatEach] at h
        split at h
        · rename_i hoff
          obtain ⟨a, ha, h⟩ := Option.bind_eq_some_iff.1 h
          split at h
          · rename_i hal
            obtain ⟨b, hb, rfl⟩ := Option.map_eq_some_iff.1 h
            have h0 := hx 0 f (by simp)
            simp only [List.getElem?_cons_zero] at h0
            have e1 := ih fuel f.type x.1 _ a x.2 h0 m (by omega) ha
            have e2 := ihm (by omega) (off + P.cellsOf f.type) fs xs b (by simpa using hl) (fun i g hg => by
              have := hx (i + 1) g (by simpa using hg)
              simpa using this) hb
            rw [← e1, ← e2, hoff, ← List.drop_drop, List.take_append_drop]
          · cases h
        · cases h

theorem flat_eq : ∀ (n : Nat) (fuel : Nat) (t : TypeId) (d : DataW H) (cs vs : List Value) (p : List MemPlace), DataW.trod enc P w base spare held fuel t cs = some (d, p) → flat P n t d = some vs → cs = vs := by
  intro n
  induction n using Nat.strongRecOn with
  | _ n ihn =>
    intro fuel t d cs vs p ht hf
    have ih : ∀ (fuel : Nat) (t : TypeId) (d : DataW H) (cs vs : List Value) (p : List MemPlace), DataW.trod enc P w base spare held fuel t cs = some (d, p) → ∀ m, m < n → flat P m t d = some vs → cs = vs :=
      fun fuel t d cs vs p h m hm hf => ihn m hm fuel t d cs vs p h hf
    cases n with
    | zero => simp [flat] at hf
    | succ n =>
      unfold flat at hf
      split at hf
      · rename_i hu
        obtain ⟨b, rfl, hx⟩ := DataW.trod_bool hu ht
        simp only [Prod.mk.injEq, DataW.lit.injEq, Lit.bool.injEq] at hx
        obtain ⟨rfl, _⟩ := hx
        exact Option.some.inj hf
      · rename_i hu
        obtain ⟨z, rfl, hx, _⟩ := DataW.trod_int hu ht
        simp only [Prod.mk.injEq, DataW.lit.injEq, Lit.int.injEq] at hx
        obtain ⟨⟨rfl, rfl⟩, _⟩ := hx
        rw [if_pos rfl] at hf
        exact Option.some.inj hf
      · rename_i fs ds hu
        obtain ⟨xs, m, rfl, hx, hl, hxl, hall⟩ := DataW.trod_struct hu ht
        simp only [Prod.mk.injEq, DataW.agg.injEq] at hx
        obtain ⟨rfl, _⟩ := hx
        have := flat_each_eq (n + 1) ih m (P.cellsOf t) cs hl n (by omega) 0 fs.toList xs vs (by simp [hxl]) (fun i f hf => hall i f (by simpa using hf)) hf
        simpa using this
      · rename_i m e ds hu
        split at hf
        · rename_i hm
          obtain ⟨xs, q, rfl, hx, hl, hxl, hall⟩ := DataW.trod_array hu ht
          simp only [Prod.mk.injEq, DataW.agg.injEq] at hx
          obtain ⟨rfl, _⟩ := hx
          exact flat_all_eq (n + 1) ih q e n (by omega) xs cs vs (by rw [hl, hxl, hm.2]) (fun i hi => hall i (by omega)) hf
        · cases hf
      · cases hf
end

/-- No handle is listed: the list is met plainly. -/
theorem laidMet_of {P : Program} {laid : List (String × DataW Unit)} {W : World} (hh : (laid.filter fun x => x.2.handleName?.isSome) = []) (h : laidMetH P laid W) : laidMet P laid W := by
  unfold laidMetH at h
  rw [hh] at h
  exact h

/-- A listed variable's cells. -/
theorem var_of_laid {P : Program} {W : World} : ∀ {laid : List (String × DataW Unit)} {ps : List MemPlace}, DataW.LaidVars P W laid ps → ∀ (name : String) (d : DataW Unit), (name, d) ∈ laid → ∀ (g n : Nat) (t : TypeId) (vs : List Value),
    P.globalNamed name = some g → (P.globals[g]?).map (·.type) = some t → flat P n t d = some vs → W.var? P name = some vs.toArray := by
  intro laid
  induction laid with
  | nil => intro ps _ name d hm; cases hm
  | cons x r ih =>
    intro ps h name d hm g n t vs hg hty hf
    obtain ⟨x1, x2⟩ := x
    obtain ⟨g', t', cs, fuel, p, q, hg', ht', hvar, hd, hr, _⟩ := h
    rcases List.mem_cons.1 hm with he | hm
    · injection he with e1 e2
      subst e1 e2
      obtain rfl := Option.some.inj (hg.symm.trans hg')
      obtain rfl := Option.some.inj (hty.symm.trans ht')
      rw [hvar]
      have := flat_eq n fuel t _ cs.toList vs p hd hf
      rw [← this]
    · exact ih hr name d hm g n t vs hg hty hf

theorem cells_of_laid {P : Program} {W : World} {laid : List (String × DataW Unit)} (hh : (laid.filter fun x => x.2.handleName?.isSome) = []) (h : laidMetH P laid W) (name : String) (d : DataW Unit) (hm : (name, d) ∈ laid) (g n : Nat) (t : TypeId) (vs : List Value)
    (hg : P.globalNamed name = some g) (hty : (P.globals[g]?).map (·.type) = some t) (hf : flat P n t d = some vs) (i : Nat) : W.cell? ⟨g, i, none⟩ = vs[i]? := by
  obtain ⟨ps, hl, _⟩ := laidMet_of hh h
  have := World.var?_cell hg (var_of_laid hl name d hm g n t vs hg hty hf) i
  simpa using this
end Go.Proofs.YtpndhoefmepfdaaDoor.Flat
