/- Arguments that are slices, opened: the elements as a list, each read in memory; whatever plain elements they have. No condition beyond the row's own form. -/
import Derived.Test.YtpndhoefmepfdaaDoorProg
import Derived.WalkKit
import Derived.ProofKit
import Derived.OpenShut
import Derived.SizedLaws
import Derived.Deep.Slices
import Derived.Test.YtpndhoefmepfdaaDoorWMore
import Derived.Test.YtpndhoefmepfdaaDoorWNEv
namespace Go.Proofs.YtpndhoefmepfdaaDoor.Open
open Go.ChangeShapes Go.WideShapes Go.RowKit Go.Proofs.YtpndhoefmepfdaaDoorW.PrintWords Go.Proofs.YtpndhoefmepfdaaDoorW.PrintLast

theorem list_of_fun {α : Type} [Inhabited α] (n : Nat) (f : Nat → α) : ∃ l : List α, l.length = n ∧ ∀ j p, l[j]? = some p → j < n ∧ p = f j := by
  refine ⟨(List.range n).map f, by simp, fun j p h => ?_⟩
  rw [List.getElem?_map] at h
  obtain ⟨i, hi, rfl⟩ := Option.map_eq_some_iff.1 h
  have hj : j < n := by
    have := (List.getElem?_eq_some_iff.1 hi).1
    simpa using this
  rw [List.getElem?_range hj] at hi
  injection hi with hi
  exact ⟨hj, by rw [hi]⟩

/-- A slice argument whose elements are plain: nil or not, its elements as a list. -/
theorem open_row {α : Type} [Inhabited α] {H : Type} {enc : TypeId × Value → H} {P : Program} {W : World} {base : Nat} {spare : Nat → Bool} {held : Bool} {t e : TypeId} {v : Value} {d : DataW H} {ps : List MemPlace} {sz : Nat} (cells : α → List Value) (wf : α → Prop)
    (ht : P.underlying t = some (.slice e)) (hsz : P.cellsOf e = sz) (hc : ∀ a, (cells a).length = sz) (hs : ∃ a len cap, v = .slice a len cap)
    (elem : ∀ (fuel : Nat) (cs : List Value) (x : DataW H × List MemPlace), DataW.trod enc P W base spare held fuel e cs = some x → ∃ a : α, cs = cells a ∧ wf a)
    (h : DataW.Trod enc P W base spare held t v d ps) :
    ∃ (A : Option Addr) (c : Nat) (l : List α), v = .slice A l.length c ∧ l.length ≤ c ∧ l.length ≤ 9223372036854775807 ∧ (∀ x ∈ l, wf x) ∧ ReadsRow (fun a cs => cs = cells a) sz W A l.length l ∧
      (∀ (ts : List TypeId) (ds : List (DataW H)) (j : Nat), (DataW.weightsEach P ts ds).all (· ≤ reachBytes) = true → ts[j]? = some t → ds[j]? = some d → l.length * P.bytesOf e ≤ 140737488351232) := by
  obtain ⟨fuel, hf⟩ := h
  obtain ⟨a0, len0, cap0, rfl⟩ := hs
  rcases DataW.trod_slice ht hf with ⟨hcs, _⟩ | ⟨a, len, cap, elems, rest, n, _, hcs, hx, hb, hlc, hcm, hel, hget, _, _⟩
  · simp [Value.cells] at hcs
    obtain ⟨rfl, rfl, rfl⟩ := hcs
    exact ⟨none, 0, [], rfl, by simp, by simp, by simp, ⟨rfl, by simp, fun h => absurd h (Nat.lt_irrefl 0)⟩, fun _ _ _ _ _ _ => by simp⟩
  · simp [Value.cells] at hcs
    obtain ⟨rfl, rfl, rfl⟩ := hcs
    have each : ∀ i, i < len0 → ∃ x : α, W.cells? base (a.add (i * sz)) sz = some (cells x) ∧ wf x := by
      intro i hi
      have h1 := hget i hi
      rw [List.getElem?_eq_getElem (by omega), hsz] at h1
      obtain ⟨cs, hcs, ht2⟩ := Option.bind_eq_some_iff.1 h1
      obtain ⟨x, rfl, hw⟩ := elem _ _ _ ht2
      exact ⟨x, hcs, hw⟩
    obtain ⟨f, hf2⟩ := Go.Deep.choose_lt each
    obtain ⟨l, hl, hlf⟩ := list_of_fun len0 f
    refine ⟨some a, cap0, l, by rw [hl], by omega, by rw [hl]; simp only [maxLen] at hcm; omega, ?_, ⟨rfl, by rw [hl]; simp only [maxLen] at hcm; omega, fun _ => ⟨a, rfl, fun j p hj => ?_⟩⟩, ?_⟩
    · intro x hx2
      obtain ⟨j, hj, rfl⟩ := List.getElem_of_mem hx2
      obtain ⟨h1, h2⟩ := hlf j _ (List.getElem?_eq_getElem hj)
      rw [h2]
      exact (hf2 j h1).2
    · obtain ⟨h1, rfl⟩ := hlf j p hj
      refine ⟨cells (f j), hc _, rfl, fun i u hu => ?_⟩
      obtain ⟨_, _, h3⟩ := World.cells?_some (hf2 j h1).1
      have hi : i < sz := by
        have := (List.getElem?_eq_some_iff.1 hu).1
        rw [hc] at this
        exact this
      rw [← hu, ← h3 i hi, Go.Deep.add_add]
    · intro ts ds j hw htj hdj
      have hd := congrArg Prod.fst hx
      simp only at hd
      subst hd
      have z := sized_slice hw htj hdj ht
      rw [List.length_map, List.length_map, Nat.add_mul] at z
      rw [hl, ← hel]
      have hr : reachBytes = 140737488351232 := rfl
      omega

/-- Whole numbers. -/
theorem open_nums {H : Type} {enc : TypeId × Value → H} {P : Program} {W : World} {base : Nat} {spare : Nat → Bool} {held : Bool} {t e : TypeId} {v : Value} {d : DataW H} {ps : List MemPlace} (k : IntKind)
    (ht : P.underlying t = some (.slice e)) (he : P.underlying e = some (.int k)) (hsz : P.cellsOf e = 1) (hs : ∃ a len cap, v = .slice a len cap) (h : DataW.Trod enc P W base spare held t v d ps) :
    ∃ (A : Option Addr) (c : Nat) (l : List Int), v = .slice A l.length c ∧ l.length ≤ c ∧ l.length ≤ 9223372036854775807 ∧ (∀ x ∈ l, (Lit.int k x).wf = true) ∧ Kd.C (Kd.int k) W A l.length l ∧
      (∀ (ts : List TypeId) (ds : List (DataW H)) (j : Nat), (DataW.weightsEach P ts ds).all (· ≤ reachBytes) = true → ts[j]? = some t → ds[j]? = some d → l.length * P.bytesOf e ≤ 140737488351232) := by
  obtain ⟨A, c, l, hv, h1, h2, h3, h4, h5⟩ := open_row (fun x : Int => [Value.int k x]) (fun x => (Lit.int k x).wf = true) ht hsz (fun _ => rfl) hs (fun fuel cs x hx => by
    obtain ⟨n, rfl, _, hw⟩ := DataW.trod_int he hx
    exact ⟨n, rfl, hw⟩) h
  refine ⟨A, c, l, hv, h1, h2, h3, ?_, h5⟩
  refine Kd.C_of_reads (d := (0 : Int)) (h1 := fun _ => rfl) ⟨rfl, h2, fun hp => ?_⟩
  obtain ⟨ad, hA, hc⟩ := h4.2.2 hp
  refine ⟨ad, hA, fun j hj => ?_⟩
  obtain ⟨c', _, rfl, hu⟩ := hc j _ (List.getElem?_eq_getElem hj)
  have := hu 0 _ rfl
  rw [Nat.mul_one, Nat.add_zero] at this
  rw [this, List.getD_eq_getElem?_getD, List.getElem?_eq_getElem hj, Option.getD_some]

/-- A struct of two ints and a byte. -/
theorem open_token {H : Type} {enc : TypeId × Value → H} {P : Program} {W : World} {base : Nat} {spare : Nat → Bool} {held : Bool} {fuel : Nat} {e t1 t2 t3 : TypeId} {cs : List Value} {x : DataW H × List MemPlace} {fs : Array Field}
    (he : P.underlying e = some (.struct fs)) (hf : (fs.toList.map fun f => (f.type, f.offset)) = [(t1, 0), (t2, 1), (t3, 2)]) (h1 : P.underlying t1 = some (.int .i64)) (h2 : P.underlying t2 = some (.int .i64)) (h3 : P.underlying t3 = some (.int .u8))
    (c1 : P.cellsOf t1 = 1) (c2 : P.cellsOf t2 = 1) (c3 : P.cellsOf t3 = 1) (hc : P.cellsOf e = 3) (h : DataW.trod enc P W base spare held fuel e cs = some x) :
    ∃ a b c : Int, cs = [.int .i64 a, .int .i64 b, .int .u8 c] ∧ (Lit.int .i64 a).wf = true ∧ (Lit.int .i64 b).wf = true ∧ (Lit.int .u8 c).wf = true := by
  obtain ⟨xs, m, rfl, _, hl, hxl, hall⟩ := DataW.trod_struct he h
  rw [hc] at hl
  obtain ⟨f1, f2, f3, hfs⟩ : ∃ f1 f2 f3, fs.toList = [f1, f2, f3] := by
    rcases hq : fs.toList with _ | ⟨f1, _ | ⟨f2, _ | ⟨f3, _ | ⟨f4, r⟩⟩⟩⟩
    · rw [hq] at hf; simp at hf
    · rw [hq] at hf; simp at hf
    · rw [hq] at hf; simp at hf
    · exact ⟨f1, f2, f3, rfl⟩
    · rw [hq] at hf; simp at hf
  rw [hfs] at hf
  simp only [List.map_cons, List.map_nil, List.cons.injEq, Prod.mk.injEq, and_true] at hf
  obtain ⟨⟨e1, o1⟩, ⟨e2, o2⟩, ⟨e3, o3⟩⟩ := hf
  have hg : ∀ i, fs[i]? = [f1, f2, f3][i]? := fun i => by rw [← hfs, Array.getElem?_toList]
  have hsz : fs.size = 3 := by have := congrArg List.length hfs; simpa using this
  match cs, hl with
  | [x1, x2, x3], _ =>
    have r1 := hall 0 f1 (by rw [hg]; rfl)
    have r2 := hall 1 f2 (by rw [hg]; rfl)
    have r3 := hall 2 f3 (by rw [hg]; rfl)
    rw [e1, o1, c1] at r1
    rw [e2, o2, c2] at r2
    rw [e3, o3, c3] at r3
    rw [List.getElem?_eq_getElem (by omega)] at r1 r2 r3
    obtain ⟨a, ha, _, wa⟩ := DataW.trod_int h1 r1
    obtain ⟨b, hb, _, wb⟩ := DataW.trod_int h2 r2
    obtain ⟨c, hc', _, wc⟩ := DataW.trod_int h3 r3
    simp only [List.drop_zero, List.drop_succ_cons, List.take_succ_cons, List.take_zero, List.cons.injEq, and_true] at ha hb hc'
    subst ha hb hc'
    exact ⟨a, b, c, rfl, wa, wb, wc⟩
end Go.Proofs.YtpndhoefmepfdaaDoor.Open
