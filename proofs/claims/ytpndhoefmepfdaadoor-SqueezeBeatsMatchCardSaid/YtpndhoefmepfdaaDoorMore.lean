/- Small lemmas that my own print's additions name: a type's size out of its row; the builtin copy into a row of the call's own, whatever plain elements it has. -/
import Derived.Test.YtpndhoefmepfdaaDoorWMore
import Derived.Test.YtpndhoefmepfdaaDoorWNEv
import Derived.Test.YtpndhoefmepfdaaDoorWArr
namespace Go.Proofs.YtpndhoefmepfdaaDoor.More
open Go.RowKit Go.Proofs.YtpndhoefmepfdaaDoorW.PrintWords Go.Proofs.YtpndhoefmepfdaaDoorW.PrintLast
theorem size_of_info {P : Program} {e : TypeId} {z : Value} {s b : Nat} (h : (P.info? e).map (fun i => (i.zero, i.size, i.bytes)) = some (some z, s, b)) : (P.info? e).map (·.size) = some s := by
  obtain ⟨i, hi, hz⟩ := Option.map_eq_some_iff.1 h
  simp only [Prod.mk.injEq] at hz
  rw [hi, Option.map_some, hz.2.1]

theorem run_copy_cellsN {P : Program} (w : World) (dT sT ty elem : TypeId) (sz b o dLen dCap : Nat) (a : Addr) (sLen sCap : Nat) (cs : List Value)
    (hu : P.underlying dT = some (.slice elem)) (hs : (P.info? elem).map (·.size) = some sz) (hn : cs.length = Nat.min sLen dLen * sz)
    (hsrc : ∀ j v, cs[j]? = some v → w.cell? (a.add j) = some v) (hc : ∀ j, j < cs.length → (w.cell? ⟨b, o + j, none⟩).isSome = true) (hf : ∀ j, j < cs.length → w.frozen? ⟨b, o + j, none⟩ = false) (h1 : ∀ v ∈ cs, v.oneCell' = true) :
    (Builtin.copy_ #[dT, sT] ty #[.slice (some ⟨b, o, none⟩) dLen dCap, .slice (some a) sLen sCap]).run P w = .ok (goInt (Nat.min sLen dLen)) (w.setCells b o cs) := by
  have hl := run_loadCells_list (P := P) w a cs hsrc
  have hst := run_storeCells_cells (P := P) b o cs 0 w (by simpa using hc) (by simpa using hf) h1
  rw [hn] at hl
  cases hq : P.info? elem with
  | none => simp [hq] at hs
  | some i =>
    have hi : i.size = sz := by simpa [hq] using hs
    simp [Builtin.copy_, run_underlying hu, Builtin.lenOf, Builtin.firstCells, sizeOf, typeInfo, hq, hi, hl, hst]
theorem run_copy_noneN {P : Program} (w : World) (dT sT ty elem : TypeId) (sz : Nat) (d a : Option Addr) (dLen dCap sLen sCap : Nat) (hu : P.underlying dT = some (.slice elem)) (hs : (P.info? elem).map (·.size) = some sz) (hn : Nat.min sLen dLen = 0) :
    (Builtin.copy_ #[dT, sT] ty #[.slice d dLen dCap, .slice a sLen sCap]).run P w = .ok (goInt 0) w := by
  cases hq : P.info? elem with
  | none => simp [hq] at hs
  | some i =>
    have hl : ∀ (x : Addr), (loadCells x 0).run P w = .ok #[] w := fun x => by simpa using run_loadCells_list (P := P) w x [] (by simp)
    cases d <;> cases a <;> simp [Builtin.copy_, run_underlying hu, Builtin.lenOf, Builtin.firstCells, sizeOf, typeInfo, hq, hn, storeCells, hl]

/-- An element's kind whose cells alone tell it: no rows inside. -/
def Flat {α : Type} (d : Kd α) : Prop := ∀ (w : World) (x : α) (cs : List Value) (w' : World) (base : Nat) (ok : Nat → Prop), d.K w x cs → d.M w' base ok x cs
theorem flat_int (k : IntKind) : Flat (Kd.int k) := fun _ _ _ _ _ _ h => h

section
variable {P : Program} {ops : Array Oper} {rest : List Oper} {o : Oper} {a : Act} {Q : Exit → Act → World → Prop}
/-- copy(v, ys), v a row of the call's own, its elements plain: its first elements are ys' then. -/
theorem R_copyF {α : Type} {e : TypeId} (d : Kd α) (hF : Flat d) {w0 W : World} (base : Nat) (hgd : o.guard = none) (s x : Operand) (t t' : TypeId)
    (ho : o.op = .call { callee := .builtin .copy, args := #[s, x], argTypes := #[t, t'] }) (ht : P.underlying t = some (.slice e)) (hinfo : (P.info? e).map (·.size) = some d.sz) (hs0 : 0 < d.sz)
    (v : Value) (xs ys : List α) (A : Option Addr) (m c : Nat) (ok : Nat → Prop) (hs : a.eval s = v) (hx : a.eval x = .slice A m c)
    (HO : d.R e W base ok v xs) (HR : d.C W A m ys) (HB : Below base w0 W) (hbase : base ≤ W.heap.size)
    (h : ∀ w1, d.R e w1 base ok v (ys.take (min m xs.length) ++ xs.drop (min m xs.length)) → Below base w0 w1 → W.grownBy w1 v.ownBlock → wpList P ops Q rest (a.put o.dst (.int .i64 ((min m xs.length : Nat) : Int))) w1) :
    wpList P ops Q (o :: rest) a W := by
  have hm : ys.length = m := HR.1
  obtain ⟨hok, inner, hown, hr⟩ := HO
  have fin : ∀ w1, (Builtin.copy_ #[t, t'] o.type #[v, .slice A m c]).run P W = .ok (goInt ((min m xs.length : Nat) : Int)) w1 → d.R e w1 base ok v (ys.take (min m xs.length) ++ xs.drop (min m xs.length)) → W.grownBy w1 v.ownBlock → wpList P ops Q (o :: rest) a W := by
    intro w1 hr1 hrow hg
    refine wpList_plain hgd fun K hK => ?_
    unfold Oper.wp execOp
    simp only [ho, resolve, invoke, builtin, Sem.run_bind, Sem.run_pure, Result.andThen_ok, List.map_toArray, List.map_cons, List.map_nil, hs, hx, hr1]
    exact hK _ _ (h w1 hrow (HB.grown hg hbase (own_base hown)) hg)
  rcases Nat.eq_zero_or_pos (min m xs.length) with h0 | hp
  · obtain ⟨A', c', hv⟩ := own_slice hown
    refine fin W ?_ (by rw [h0, List.take_zero, List.drop_zero, List.nil_append]; exact ⟨hok, inner, hown, hr⟩) (World.grownBy.refl W _)
    rw [h0, hv]
    exact run_copy_noneN W t t' o.type e d.sz A' A xs.length c' m c ht hinfo h0
  · obtain ⟨ad, rfl, _⟩ := HR.2.2 (by omega)
    rcases hown.2 with ⟨_, hx0⟩ | ⟨g, cap, cur, hv, hb, hh, hnc, hcm, hcs, htake⟩
    · omega
    obtain ⟨news, hnr, hnc2⟩ := ReadsRow.inner_ HR
    have hq1 : min m xs.length ≤ ys.length := by omega
    have hnr1 := Kd.reps_take hnr hq1
    have hnM : Reps (d.M W base (fun k => ok k ∧ some k ≠ v.ownBlock)) d.sz (ys.take (min m xs.length)) (news.take (min m xs.length * d.sz)) := hnr1.imp_ (fun _ _ hk => hF _ _ _ _ _ _ hk)
    have hnl : (news.take (min m xs.length * d.sz)).length = min m xs.length * d.sz := by
      have := hnr1.1
      rw [this, List.length_take, Nat.min_eq_left hq1]
    have hone : ∀ u ∈ news.take (min m xs.length * d.sz), u.oneCell' = true := Kd.reps_one hnr1 hs0 (fun p c hk => d.K_one hk)
    have hin : inner.length = xs.length * d.sz := hr.1
    have hfit : min m xs.length * d.sz ≤ cur.size := by
      rw [hcs]
      exact Nat.mul_le_mul_right _ (by omega)
    have hrun := run_copy_cellsN (P := P) W t t' o.type e d.sz g 0 xs.length cap ad m c (news.take (min m xs.length * d.sz)) ht hinfo hnl
      (fun j u hu => hnc2 j u (by
        rw [List.getElem?_take] at hu
        split at hu
        · exact hu
        · cases hu))
      (fun j hj => by rw [cell_of_row W g _ cur e (0, 0) hh]; simp; omega) (fun j _ => blk_frozen hh _) hone
    obtain ⟨cur', h3, h4, h5⟩ := setCells_row (news.take (min m xs.length * d.sz)) 0 W cur hh (by rw [hnl]; omega)
    obtain ⟨s1, s2, s3, s4⟩ := setCells_same g (news.take (min m xs.length * d.sz)) 0 W
    have hg : W.grownBy (W.setCells g 0 (news.take (min m xs.length * d.sz))) v.ownBlock := ⟨s1, s2, s3, by rw [s4]; exact Nat.le_refl _, fun k _ hk => setCells_far _ _ k (fun he => hk (by rw [hv, he]; simp [Value.ownBlock]))⟩
    have hln : (ys.take (min m xs.length) ++ xs.drop (min m xs.length)).length = xs.length := by
      rw [List.length_append, List.length_take, List.length_drop]
      omega
    have hrep : Reps (d.M (W.setCells g 0 (news.take (min m xs.length * d.sz))) base (fun k => ok k ∧ some k ≠ v.ownBlock)) d.sz (ys.take (min m xs.length) ++ xs.drop (min m xs.length)) (news.take (min m xs.length * d.sz) ++ inner.drop (min m xs.length * d.sz)) :=
      Kd.reps_append (hnM.imp_ (fun _ _ hk => hF _ _ _ _ _ _ (d.K_of_M hk))) ((Kd.reps_drop hr).imp_ (fun _ _ hk => hF _ _ _ _ _ _ (d.K_of_M hk)))
    refine fin _ (by rw [hv, hrun]) ⟨hok, _, ?_, hrep⟩ hg
    rw [hln]
    refine ⟨by rw [List.length_append, hnl, List.length_drop, hin, ← Nat.add_sub_assoc (Nat.mul_le_mul_right _ (Nat.min_le_right _ _)), Nat.add_sub_cancel_left], .inr ⟨g, cap, cur', hv, hb, h3, hnc, hcm, by rw [h4, hcs], ?_⟩⟩
    have hle : min m xs.length * d.sz ≤ xs.length * d.sz := Nat.mul_le_mul_right _ (Nat.min_le_right _ _)
    rw [h5, List.take_zero, List.nil_append, hnl, Nat.zero_add]
    rw [List.take_append, hnl, List.take_of_length_le (by rw [hnl]; exact hle)]
    congr 1
    rw [← htake, List.drop_take]
end
end Go.Proofs.YtpndhoefmepfdaaDoor.More
