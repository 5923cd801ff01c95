/- squeeze.newSearch: the walk. -/
import Derived.Test.YtpndhoefmepfdaaDoorCheapPlace
import Derived.Test.YtpndhoefmepfdaaDoorCheapPure
import Derived.Test.YtpndhoefmepfdaaDoorWFour
import Derived.Test.YtpndhoefmepfdaaDoorSqSym0
namespace Go.Proofs.YtpndhoefmepfdaaDoor.PSq
open Go.RowKit Go.Proofs.YtpndhoefmepfdaaDoorW.PrintWords Go.Proofs.YtpndhoefmepfdaaDoorW.PrintLast Go.Proofs.YtpndhoefmepfdaaDoorW.PrintMore Go.Proofs.YtpndhoefmepfdaaDoor.TS
set_option linter.unusedVariables false
/-- What the four makes leave. -/
def Made4 (w W1 : World) (W M : Int) (v3 v6 v9 v11 : Value) : Prop :=
  Kd.R (Kd.int .i64) 3 W1 w.heap.size (fun _ => True) v3 (List.replicate (W + 1).toNat 0) ∧ Kd.R (Kd.int .i64) 3 W1 w.heap.size (fun _ => True) v6 (List.replicate (W + 1).toNat 0) ∧
  Kd.R (Kd.int .i64) 3 W1 w.heap.size (fun _ => True) v9 (List.replicate (M + 1).toNat 0) ∧ Kd.R k56 56 W1 w.heap.size (fun _ => True) v11 (List.replicate M.toNat z56) ∧ Below w.heap.size w W1 ∧
  (∀ b, v3.ownBlock = some b → v6.ownBlock ≠ some b) ∧ (∀ b, v3.ownBlock = some b → v9.ownBlock ≠ some b) ∧ (∀ b, v6.ownBlock = some b → v9.ownBlock ≠ some b) ∧ (∃ b, v11.ownBlock = some b)
theorem R_only {base g n c : Nat} {ok : Nat → Prop} {W : World} {xs : List S56} (h : Kd.R k56 56 W base ok (.slice (some ⟨g, 0, none⟩) n c) xs) : Kd.R k56 56 W base (fun k => k = g) (.slice (some ⟨g, 0, none⟩) n c) xs := by
  obtain ⟨_, inner, ho, hr⟩ := h
  refine ⟨fun k hk => (Option.some.inj hk).symm, inner, ho, ?_⟩
  exact hr.imp_ (fun p cs hm => by rw [k56_openM hm]; exact k56_mkM _ _ _ _)
theorem R_mineI {base g n c : Nat} {ok : Nat → Prop} {W : World} {xs : List Int} (h : Kd.R (Kd.int .i64) 3 W base ok (.slice (some ⟨g, 0, none⟩) n c) xs) : Kd.R (Kd.int .i64) 3 W base (fun k => k = g) (.slice (some ⟨g, 0, none⟩) n c) xs := Kd.R_of_own (Kd.own_of_R h) (fun k hk => (Option.some.inj hk).symm)
theorem R_heads {α : Type} {d : Kd α} {e base : Nat} {ok : Nat → Prop} {W : World} {v : Value} {xs : List α} (h : d.R e W base ok v xs) (hb : ∃ b, v.ownBlock = some b) : ∃ g c, v = .slice (some ⟨g, 0, none⟩) xs.length c := by
  obtain ⟨_, inner, ho, _⟩ := h
  rcases ho.2 with ⟨rfl, _⟩ | ⟨g, cap, cur, rfl, _⟩
  · obtain ⟨b, hb⟩ := hb
    simp [Value.ownBlock] at hb
  · exact ⟨g, cap, rfl⟩
def lenS (m : Int) : Int := ((block_LengthSymbol.f 200 m).getD (0, 0, 0, 0)).1
def distS (d : Int) : Int := ((block_DistSymbol.f 200 d).getD (0, 0, 0, 0)).1
/-- The lengths' prices below m. -/
def Lf (lit : List Int) (m : Int) : Int → Int := fun j => if 3 ≤ j ∧ j < m then rd lit (lenS j) else 0
theorem Lf_put (lit : List Int) (m s : Int) (h3 : 3 ≤ m) (hs : lenS m = s) : updI (Lf lit m) m (rd lit s) = Lf lit (m + 1) := by
  funext j
  unfold updI Lf
  by_cases hj : j = m
  · subst hj
    rw [if_pos rfl, if_pos ⟨h3, by omega⟩, hs]
  · rw [if_neg hj]
    by_cases h : 3 ≤ j ∧ j < m
    · rw [if_pos h, if_pos ⟨h.1, by omega⟩]
    · rw [if_neg h, if_neg (by omega)]
/-- The state that newSearch makes. -/
structure NS (w W1 : World) (n N gD gu gr gt G cD cU cR cT : Nat) (vd vL : Value) (L : Int → Int) (D U R : List Int) (T : List S56) : Prop where
  hg : W1.heap[G]? = some (.cells (gcells vd (.slice (some ⟨gD, 0, none⟩) n cD) (.slice (some ⟨gu, 0, none⟩) n cU) (.slice (some ⟨gr, 0, none⟩) (N + 1) cR) (.slice (some ⟨gt, 0, none⟩) N cT) vL L) 79 (0, 0))
  hd : Kd.R (Kd.int .i64) 3 W1 w.heap.size (fun k => k = gD) (.slice (some ⟨gD, 0, none⟩) n cD) D
  hs : PS w W1 w.heap.size gu gr gt n N cU cR cT U R T
  hb : Below w.heap.size w W1
  du : gD ≠ gu
  dr : gD ≠ gr
  gb : w.heap.size ≤ G
section
variable {w W W1 : World} {n N gD gu gr gt G cD cU cR cT : Nat} {vd vL : Value} {L : Int → Int} {D U R : List Int} {T : List S56}
theorem NS.below (h : NS w W n N gD gu gr gt G cD cU cR cT vd vL L D U R T) (hb : Below W.heap.size W W1) : NS w W1 n N gD gu gr gt G cD cU cR cT vd vL L D U R T :=
  ⟨blk_below h.hg hb, Kd.R_below h.hd hb, h.hs.below hb, below_step h.hb hb, h.du, h.dr, h.gb⟩
theorem NS.drewN (h : NS w W n N gD gu gr gt G cD cU cR cT vd vL L D U R T) (m : Nat) : NS w (W.drewN m) n N gD gu gr gt G cD cU cR cT vd vL L D U R T := h.below (pw_below_drewN (Below.refl _ _) m)
theorem NS.drew (h : NS w W n N gD gu gr gt G cD cU cR cT vd vL L D U R T) : NS w W.drew n N gD gu gr gt G cD cU cR cT vd vL L D U R T := h.below (below_drew (Below.refl _ _))
theorem NS.putG (h : NS w W n N gD gu gr gt G cD cU cR cT vd vL L D U R T) (m v : Int) (h0 : 0 ≤ m) (h1 : m < 259) : NS w (W.setCell ⟨G, 1 + m.toNat, none⟩ (.int .i64 v)) n N gD gu gr gt G cD cU cR cT vd vL (updI L m v) D U R T := by
  have ty : ∀ q, q ∈ (3 : Nat) :: (Kd.int .i64).E → q ≠ 79 := fun q hq => by rcases List.mem_cons.1 hq with rfl | h; decide; cases h
  have ty2 : ∀ q, q ∈ (56 : Nat) :: k56.E → q ≠ 79 := fun q hq => by rcases List.mem_cons.1 hq with rfl | h; decide; cases h
  have hb2 := below_set (j := 1 + m.toNat) (v := .int .i64 v) h.hb h.gb
  exact ⟨blk_put h.hg _ _ (g_set _ _ _ _ _ _ _ m v h0 h1), Kd.R_set h.hd h.hg ty _ _, ⟨Kd.R_set h.hs.hu h.hg ty _ _, Kd.R_set h.hs.hr h.hg ty _ _, Kd.R_set h.hs.ht h.hg ty2 _ _, Kept.of_below hb2 _, h.hs.ur, ⟨hb2.os, hb2.tape, hb2.output⟩⟩, hb2, h.du, h.dr, h.gb⟩
theorem NS.dt (h : NS w W n N gD gu gr gt G cD cU cR cT vd vL L D U R T) : gD ≠ gt := by
  intro he
  obtain ⟨c1, h1⟩ := own_typed (Kd.own_of_R h.hd) gD rfl
  exact absurd (Kd.R_ne (g := gD) h.hs.ht h1 (by decide)) (by rw [he]; simp [Value.ownBlock])
theorem NS.dg (h : NS w W n N gD gu gr gt G cD cU cR cT vd vL L D U R T) : G ≠ gD := by
  intro he
  exact absurd (Kd.R_ne (g := G) h.hd h.hg (by decide)) (by rw [he]; simp [Value.ownBlock])
theorem NS.gS (h : NS w W n N gD gu gr gt G cD cU cR cT vd vL L D U R T) : ¬ Own3 gu gr gt G := by
  rintro (he | he | he)
  · exact absurd (Kd.R_ne (g := G) h.hs.hu h.hg (by decide)) (by rw [he]; simp [Value.ownBlock])
  · exact absurd (Kd.R_ne (g := G) h.hs.hr h.hg (by decide)) (by rw [he]; simp [Value.ownBlock])
  · exact absurd (Kd.R_ne (g := G) h.hs.ht h.hg (by decide)) (by rw [he]; simp [Value.ownBlock])
theorem NS.putD (h : NS w W n N gD gu gr gt G cD cU cR cT vd vL L D U R T) (i v : Int) : NS w (W.setCell ⟨gD, i.toNat, none⟩ (.int .i64 v)) n N gD gu gr gt G cD cU cR cT vd vL L (D.set i.toNat v) U R T := by
  have hg : W.grownBy (W.setCell ⟨gD, i.toNat, none⟩ (.int .i64 v)) (some gD) := grown_put (World.grownBy.refl W _) (.inl rfl) _
  have hb2 := below_set (j := i.toNat) (v := .int .i64 v) h.hb (Kd.R_base h.hd gD rfl)
  exact ⟨blk_far h.hg h.dg _, Kd.R_putn h.hd i v, ⟨Kd.R_grown h.hs.hu hg (fun k hk he => h.du (by rw [← hk, Option.some.inj he])), Kd.R_grown h.hs.hr hg (fun k hk he => h.dr (by rw [← hk, Option.some.inj he])), Kd.R_grown h.hs.ht hg (fun k hk he => h.dt (by rw [← hk, Option.some.inj he])), Kept.of_below hb2 _, h.hs.ur, ⟨hb2.os, hb2.tape, hb2.output⟩⟩, hb2, h.du, h.dr, h.gb⟩
end
/-- The distances' prices up to W. -/
def dlF (dist : List Int) (j : Int) : Int := if 1 ≤ j then rd dist (distS j) else 0
def Dl (dist : List Int) (W : Int) : List Int := (List.range (W + 1).toNat).map fun (j : Nat) => dlF dist (j : Int)
theorem Dl_len (dist : List Int) (W : Int) : (Dl dist W).length = (W + 1).toNat := by simp [Dl]
theorem Dl_rd (dist : List Int) (W j : Int) (h0 : 0 ≤ j) (h1 : j ≤ W) : rd (Dl dist W) j = dlF dist j := by
  unfold rd Dl
  rw [List.getD_eq_getElem?_getD, List.getElem?_map, List.getElem?_range (by omega), Option.map_some, Option.getD_some, Int.toNat_of_nonneg h0]
theorem Dl_of {dist : List Int} {W : Int} {D : List Int} (hl : D.length = (W + 1).toNat) (h : ∀ j, 0 ≤ j → j ≤ W → rd D j = dlF dist j) : D = Dl dist W := by
  apply List.ext_getElem?
  intro i
  by_cases hi : i < (W + 1).toNat
  · have a := h (i : Int) (by omega) (by omega)
    rw [← Dl_rd dist W (i : Int) (by omega) (by omega)] at a
    unfold rd at a
    rw [Int.toNat_natCast, List.getD_eq_getElem?_getD, List.getD_eq_getElem?_getD, List.getElem?_eq_getElem (by omega), List.getElem?_eq_getElem (by rw [Dl_len]; omega)] at a
    rw [List.getElem?_eq_getElem (by omega), List.getElem?_eq_getElem (by rw [Dl_len]; omega)]
    exact congrArg some a
  · rw [List.getElem?_eq_none (by omega), List.getElem?_eq_none (by rw [Dl_len]; omega)]
/-- What newSearch answers. -/
def NewPost (w : World) (n : Nat) (W : Int) (vd vL : Value) (lit dist : List Int) (e : Ending) (w' : World) : Prop :=
  ∃ (G gD gu gr gt cD cU cR cT : Nat), e = .returned (.pointer (some ⟨G, 0, none⟩)) ∧
    NS w w' (W + 1).toNat n gD gu gr gt G cD cU cR cT vd vL (Lf lit 259) (Dl dist W) (List.replicate (W + 1).toNat 0) (List.replicate (n + 1) 0) (List.replicate n z56)
attribute [local go_sem] max2_int min2_int max_two min_two
set_option maxHeartbeats 16000000 in
set_option maxRecDepth 100000 in
theorem new_calls (A0 A2 A3 : Option Addr) (c0 c2 c3 n : Nat) (data lit dist : List Int) (window W M : Int) (w : World) (hr0 : Kd.C (Kd.int .u8) w A0 n data) (hr2 : Kd.C (Kd.int .i64) w A2 286 lit) (hr3 : Kd.C (Kd.int .i64) w A3 30 dist) (hG : Tabs w)
    (hn : n ≤ 65536) (hM : (n : Int) = M) (hw : 1 ≤ window ∧ window ≤ 32768) (hW : (if (if 1 < M then M - 1 else 0) < window then (if 1 < M then M - 1 else 0) else window) = W) :
    Calls Tryd.prog 38 #[.slice A0 n c0, .int .i64 window, .slice A2 286 c2, .slice A3 30 c3] w (NewPost w n W (.slice A0 n c0) (.slice A2 286 c2) lit dist) := by
  have HSZ := Aside0.mk (show 0 ≤ W ∧ W ≤ 32768 ∧ 0 ≤ M ∧ M ≤ 65536 by
    refine ⟨?_, ?_, by omega, by omega⟩
    · rw [← hW]; split <;> split <;> omega
    · rw [← hW]; split <;> omega)
  have H0 := Aside0.mk hr0
  have H2 := Aside0.mk hr2
  have H3 := Aside0.mk hr3
  have HG := Aside0.mk hG
  have HN := Aside0.mk hn
  have HWW := Aside0.mk hw
  clear hr0 hr2 hr3 hG hn hw
  have hm1 : wrap64 (M - 1) = M - 1 := by have := HSZ.out; unfold wrap64; omega
  have hm2 : IntKind.i64.wrap (M - 1) = M - 1 := IntWalk.i64_in _ (by have := HSZ.out; omega)
  have HM := Aside0.mk hM
  obtain ⟨X, hX⟩ : ∃ X, (if 1 < M then M - 1 else 0) = X := ⟨_, rfl⟩
  rw [hX] at hW
  go_enter Tryd.func38, Tryd.ntmps38
  go_upto_region 3 with fail
  clear hW hm1 hm2 hX
  have hw1 : IntKind.i64.wrap (W + 1) = W + 1 := IntWalk.i64_in _ (by have := HSZ.out; omega)
  have hw2 : IntKind.i64.wrap (M + 1) = M + 1 := IntWalk.i64_in _ (by have := HSZ.out; omega)
  refine start_ (n := 16) (S := fun w' => True) (ds := []) #[false, false, false, false, false, false, false, false, false, false, false, false, false, false, false, false] (by kernel_rfl) rfl rfl trivial (fun hHeld => ?_)
  refine pure_ (i := 0) (N := some 28) (v := ?_) (a' := ?_) #[true, false, false, false, false, false, false, false, false, false, false, false, false, false, false, false] rfl rfl (by kernel_rfl) (fun _ _ _ h => h) (Or.inl ⟨by rfl, ?_⟩) ?_ ?_
  rotate_left
  · intro w'
    go_simp
    with_reducible rfl
  rotate_left
  · simp only [Act.put, List.setIfInBounds_toArray, List.set_cons_zero, List.set_cons_succ]
    rfl
  refine pure_ (i := 1) (N := some 29) (v := ?_) (a' := ?_) #[true, true, false, false, false, false, false, false, false, false, false, false, false, false, false, false] rfl rfl (by kernel_rfl) (fun _ _ _ h => h) (Or.inl ⟨by rfl, ?_⟩) ?_ ?_
  rotate_left
  · intro w'
    go_simp
    with_reducible rfl
  rotate_left
  · simp only [Act.put, List.setIfInBounds_toArray, List.set_cons_zero, List.set_cons_succ]
    rfl
  refine pure_ (i := 2) (N := some 30) (v := ?_) (a' := ?_) #[true, true, true, false, false, false, false, false, false, false, false, false, false, false, false, false] rfl rfl (by kernel_rfl) (fun _ _ _ h => h) (Or.inl ⟨by rfl, ?_⟩) ?_ ?_
  rotate_left
  · intro w'
    go_simp
    with_reducible rfl
  rotate_left
  · simp only [Act.put, List.setIfInBounds_toArray, List.set_cons_zero, List.set_cons_succ]
    rfl
  refine pure_ (i := 4) (N := some 32) (v := ?_) (a' := ?_) #[true, true, true, false, true, false, false, false, false, false, false, false, false, false, false, false] rfl rfl (by kernel_rfl) (fun _ _ _ h => h) (Or.inl ⟨by rfl, ?_⟩) ?_ ?_
  rotate_left
  · intro w'
    go_simp
    with_reducible rfl
  rotate_left
  · simp only [Act.put, List.setIfInBounds_toArray, List.set_cons_zero, List.set_cons_succ]
    rfl
  refine pure_ (i := 5) (N := some 33) (v := ?_) (a' := ?_) #[true, true, true, false, true, true, false, false, false, false, false, false, false, false, false, false] rfl rfl (by kernel_rfl) (fun _ _ _ h => h) (Or.inl ⟨by rfl, ?_⟩) ?_ ?_
  rotate_left
  · intro w'
    go_simp
    with_reducible rfl
  rotate_left
  · simp only [Act.put, List.setIfInBounds_toArray, List.set_cons_zero, List.set_cons_succ]
    rfl
  refine pure_ (i := 7) (N := some 35) (v := ?_) (a' := ?_) #[true, true, true, false, true, true, false, true, false, false, false, false, false, false, false, false] rfl rfl (by kernel_rfl) (fun _ _ _ h => h) (Or.inl ⟨by rfl, ?_⟩) ?_ ?_
  rotate_left
  · intro w'
    go_simp
    with_reducible rfl
  rotate_left
  · simp only [Act.put, List.setIfInBounds_toArray, List.set_cons_zero, List.set_cons_succ]
    rfl
  refine pure_ (i := 8) (N := some 36) (v := ?_) (a' := ?_) #[true, true, true, false, true, true, false, true, true, false, false, false, false, false, false, false] rfl rfl (by kernel_rfl) (fun _ _ _ h => h) (Or.inl ⟨by rfl, ?_⟩) ?_ ?_
  rotate_left
  · intro w'
    go_simp
    with_reducible rfl
  rotate_left
  · simp only [Act.put, List.setIfInBounds_toArray, List.set_cons_zero, List.set_cons_succ]
    rfl
  refine pure_ (i := 10) (N := some 38) (v := ?_) (a' := ?_) #[true, true, true, false, true, true, false, true, true, false, true, false, false, false, false, false] rfl rfl (by kernel_rfl) (fun _ _ _ h => h) (Or.inl ⟨by rfl, ?_⟩) ?_ ?_
  rotate_left
  · intro w'
    go_simp
    with_reducible rfl
  rotate_left
  · simp only [Act.put, List.setIfInBounds_toArray, List.set_cons_zero, List.set_cons_succ]
    rfl
  refine pure_ (i := 12) (N := some 40) (v := ?_) (a' := ?_) #[true, true, true, false, true, true, false, true, true, false, true, false, true, false, false, false] rfl rfl (by kernel_rfl) (fun _ _ _ h => h) (Or.inl ⟨by rfl, ?_⟩) ?_ ?_
  rotate_left
  · intro w'
    go_simp
    with_reducible rfl
  rotate_left
  · simp only [Act.put, List.setIfInBounds_toArray, List.set_cons_zero, List.set_cons_succ]
    rfl
  have hb0 : Below w.heap.size w w.drew := below_drew (Below.refl _ _)
  refine join_ (σ := Value × Value × Value × Value) 3 #[true, true, true, true, true, true, true, true, true, true, true, true, true, false, false, false] (fun s => [(31, s.1), (34, s.2.1), (37, s.2.2.1), (39, s.2.2.2)]) (fun s W1 => Made4 w W1 W M s.1 s.2.1 s.2.2.1 s.2.2.2) ?_ ?_
  rotate_left
  · intro hCont
    refine four_ (i := 3) (j := 6) (k := 9) (m := 11) (Ni := some 31) (Nj := some 34) (Nk := some 37) (Nm := some 39) #[true, true, true, true, true, true, false, true, true, false, true, false, true, false, false, false] #[true, true, true, false, true, true, true, true, true, false, true, false, true, false, false, false] #[true, true, true, false, true, true, false, true, true, true, true, false, true, false, false, false] #[true, true, true, false, true, true, false, true, true, false, true, true, true, false, false, false] rfl rfl rfl rfl rfl rfl rfl rfl (by kernel_rfl) (by decide) (by decide) (by decide) (by decide) (fun K hK => ?_) (fun K hK => ?_) (fun K hK => ?_) (fun K hK => ?_)
    · skip
      refine Kd.R_make_step (Kd.int .i64) (w0 := w) w.heap.size 3 (by rfl) rfl 36 (.tmp 30) (.tmp 30) rfl (W + 1) (by rfl) (by rfl) Tryd.underlying36 (.int .i64 0) 8 info3 rfl (by decide) (by decide) 0 (ok := fun _ => True) (okp := fun _ => True) ?_ (fun _ hk => hk) trivial (by have := HSZ.out; omega) (by have := HSZ.out; omega) hb0 (below_size hb0) ?_
      · exact (show Kd.M (Kd.int .i64) _ _ _ _ [_] from rfl)
      intro v3 w1 ho3 hb1 hg1 ha3
      refine hK.out _ _ trivial (fun hHeld => ?_)
      clear hK K
      refine norm_ (a' := ?_) ?_ ?_
      rotate_left
      · show Act.put _ (some 31) _ = _
        simp only [Act.put, List.setIfInBounds_toArray, List.set_cons_zero, List.set_cons_succ]
        rfl
      refine three_ (i := 6) (j := 9) (k := 11) (Ni := some 34) (Nj := some 37) (Nk := some 39) #[true, true, true, true, true, true, true, true, true, false, true, false, true, false, false, false] #[true, true, true, true, true, true, false, true, true, true, true, false, true, false, false, false] #[true, true, true, true, true, true, false, true, true, false, true, true, true, false, false, false] rfl rfl rfl rfl rfl rfl (by kernel_rfl) (by decide) (by decide) (by decide) (fun K hK => ?_) (fun K hK => ?_) (fun K hK => ?_)
      · skip
        refine Kd.R_make_step (Kd.int .i64) (w0 := w) w.heap.size 3 (by rfl) rfl 36 (.tmp 33) (.tmp 33) rfl (W + 1) (by rfl) (by rfl) Tryd.underlying36 (.int .i64 0) 8 info3 rfl (by decide) (by decide) 0 (ok := fun _ => True) (okp := fun _ => True) ?_ (fun _ hk => hk) trivial (by have := HSZ.out; omega) (by have := HSZ.out; omega) hb1 (below_size hb1) ?_
        · exact (show Kd.M (Kd.int .i64) _ _ _ _ [_] from rfl)
        intro v6 w2 ho6 hb2 hg2 ha6
        have ne3_6 : ∀ b, v3.ownBlock = some b → v6.ownBlock ≠ some b := fun b h1 h2 => by obtain ⟨c, h3, h4⟩ := ha6; have h5 := Kd.R_lt ho3 b h1; rw [h2] at h3; injection h3 with h3; omega
        replace ho3 := Kd.R_grown ho3 hg2 (fun _ _ he => by cases he)
        refine hK.out _ _ trivial (fun hHeld => ?_)
        clear hK K
        refine norm_ (a' := ?_) ?_ ?_
        rotate_left
        · show Act.put _ (some 34) _ = _
          simp only [Act.put, List.setIfInBounds_toArray, List.set_cons_zero, List.set_cons_succ]
          rfl
        refine two_ (i := 9) (j := 11) (Ni := some 37) (Nj := some 39) #[true, true, true, true, true, true, true, true, true, true, true, false, true, false, false, false] #[true, true, true, true, true, true, true, true, true, false, true, true, true, false, false, false] rfl rfl rfl rfl (by kernel_rfl) (by decide) (by decide) (fun K hK => ?_) (fun K hK => ?_)
        · skip
          refine Kd.R_make_step (Kd.int .i64) (w0 := w) w.heap.size 3 (by rfl) rfl 36 (.tmp 36) (.tmp 36) rfl (M + 1) (by rfl) (by rfl) Tryd.underlying36 (.int .i64 0) 8 info3 rfl (by decide) (by decide) 0 (ok := fun _ => True) (okp := fun _ => True) ?_ (fun _ hk => hk) trivial (by have := HSZ.out; omega) (by have := HSZ.out; omega) hb2 (below_size hb2) ?_
          · exact (show Kd.M (Kd.int .i64) _ _ _ _ [_] from rfl)
          intro v9 w3 ho9 hb3 hg3 ha9
          have ne3_9 : ∀ b, v3.ownBlock = some b → v9.ownBlock ≠ some b := fun b h1 h2 => by obtain ⟨c, h3, h4⟩ := ha9; have h5 := Kd.R_lt ho3 b h1; rw [h2] at h3; injection h3 with h3; omega
          have ne6_9 : ∀ b, v6.ownBlock = some b → v9.ownBlock ≠ some b := fun b h1 h2 => by obtain ⟨c, h3, h4⟩ := ha9; have h5 := Kd.R_lt ho6 b h1; rw [h2] at h3; injection h3 with h3; omega
          replace ho3 := Kd.R_grown ho3 hg3 (fun _ _ he => by cases he)
          replace ho6 := Kd.R_grown ho6 hg3 (fun _ _ he => by cases he)
          refine hK.out _ _ trivial (fun hHeld => ?_)
          clear hK K
          refine norm_ (a' := ?_) ?_ ?_
          rotate_left
          · show Act.put _ (some 37) _ = _
            simp only [Act.put, List.setIfInBounds_toArray, List.set_cons_zero, List.set_cons_succ]
            rfl
          refine one_ (i := 11) (N := some 39) #[true, true, true, true, true, true, true, true, true, true, true, true, true, false, false, false] rfl rfl (by kernel_rfl) (by decide) (fun K hK => ?_)
          refine Kd.R_make_step k56 (w0 := w) w.heap.size 56 (by rfl) rfl 35 (.tmp 38) (.tmp 38) rfl M (by rfl) (by rfl) Tryd.underlying35 (.agg #[.int .i64 0, .int .i64 0, .int .u8 0]) 24 info56 rfl (by decide) (by decide) z56 (ok := fun _ => True) (okp := fun _ => True) ?_ (fun _ hk => hk) trivial (by have := HSZ.out; omega) (by have := HSZ.out; omega) hb3 (below_size hb3) ?_
          · exact k56_mkM _ _ _ _
          intro v11 w4 ho11 hb4 hg4 ha11
          replace ho3 := Kd.R_grown ho3 hg4 (fun _ _ he => by cases he)
          replace ho6 := Kd.R_grown ho6 hg4 (fun _ _ he => by cases he)
          replace ho9 := Kd.R_grown ho9 hg4 (fun _ _ he => by cases he)
          refine hK.out _ _ trivial (fun hHeld => ?_)
          clear hK K
          refine norm_ (a' := ?_) ?_ ?_
          rotate_left
          · show Act.put _ (some 39) _ = _
            simp only [Act.put, List.setIfInBounds_toArray, List.set_cons_zero, List.set_cons_succ]
            rfl
          exact norm_ (by simp only [putAll, Act.put, List.setIfInBounds_toArray, List.set_cons_zero, List.set_cons_succ]) (hCont (v3, v6, v9, v11) _ ⟨ho3, ho6, ho9, ho11, hb4, ne3_6, ne3_9, ne6_9, ⟨ha11.choose, ha11.choose_spec.1⟩⟩)
        · skip
          refine Kd.R_make_step k56 (w0 := w) w.heap.size 56 (by rfl) rfl 35 (.tmp 38) (.tmp 38) rfl M (by rfl) (by rfl) Tryd.underlying35 (.agg #[.int .i64 0, .int .i64 0, .int .u8 0]) 24 info56 rfl (by decide) (by decide) z56 (ok := fun _ => True) (okp := fun _ => True) ?_ (fun _ hk => hk) trivial (by have := HSZ.out; omega) (by have := HSZ.out; omega) hb2 (below_size hb2) ?_
          · exact k56_mkM _ _ _ _
          intro v11 w3 ho11 hb3 hg3 ha11
          replace ho3 := Kd.R_grown ho3 hg3 (fun _ _ he => by cases he)
          replace ho6 := Kd.R_grown ho6 hg3 (fun _ _ he => by cases he)
          refine hK.out _ _ trivial (fun hHeld => ?_)
          clear hK K
          refine norm_ (a' := ?_) ?_ ?_
          rotate_left
          · show Act.put _ (some 39) _ = _
            simp only [Act.put, List.setIfInBounds_toArray, List.set_cons_zero, List.set_cons_succ]
            rfl
          refine one_ (i := 9) (N := some 37) #[true, true, true, true, true, true, true, true, true, true, true, true, true, false, false, false] rfl rfl (by kernel_rfl) (by decide) (fun K hK => ?_)
          refine Kd.R_make_step (Kd.int .i64) (w0 := w) w.heap.size 3 (by rfl) rfl 36 (.tmp 36) (.tmp 36) rfl (M + 1) (by rfl) (by rfl) Tryd.underlying36 (.int .i64 0) 8 info3 rfl (by decide) (by decide) 0 (ok := fun _ => True) (okp := fun _ => True) ?_ (fun _ hk => hk) trivial (by have := HSZ.out; omega) (by have := HSZ.out; omega) hb3 (below_size hb3) ?_
          · exact (show Kd.M (Kd.int .i64) _ _ _ _ [_] from rfl)
          intro v9 w4 ho9 hb4 hg4 ha9
          have ne3_9 : ∀ b, v3.ownBlock = some b → v9.ownBlock ≠ some b := fun b h1 h2 => by obtain ⟨c, h3, h4⟩ := ha9; have h5 := Kd.R_lt ho3 b h1; rw [h2] at h3; injection h3 with h3; omega
          have ne6_9 : ∀ b, v6.ownBlock = some b → v9.ownBlock ≠ some b := fun b h1 h2 => by obtain ⟨c, h3, h4⟩ := ha9; have h5 := Kd.R_lt ho6 b h1; rw [h2] at h3; injection h3 with h3; omega
          replace ho3 := Kd.R_grown ho3 hg4 (fun _ _ he => by cases he)
          replace ho6 := Kd.R_grown ho6 hg4 (fun _ _ he => by cases he)
          replace ho11 := Kd.R_grown ho11 hg4 (fun _ _ he => by cases he)
          refine hK.out _ _ trivial (fun hHeld => ?_)
          clear hK K
          refine norm_ (a' := ?_) ?_ ?_
          rotate_left
          · show Act.put _ (some 37) _ = _
            simp only [Act.put, List.setIfInBounds_toArray, List.set_cons_zero, List.set_cons_succ]
            rfl
          exact norm_ (by simp only [putAll, Act.put, List.setIfInBounds_toArray, List.set_cons_zero, List.set_cons_succ]) (hCont (v3, v6, v9, v11) _ ⟨ho3, ho6, ho9, ho11, hb4, ne3_6, ne3_9, ne6_9, ⟨ha11.choose, ha11.choose_spec.1⟩⟩)
      · skip
        refine Kd.R_make_step (Kd.int .i64) (w0 := w) w.heap.size 3 (by rfl) rfl 36 (.tmp 36) (.tmp 36) rfl (M + 1) (by rfl) (by rfl) Tryd.underlying36 (.int .i64 0) 8 info3 rfl (by decide) (by decide) 0 (ok := fun _ => True) (okp := fun _ => True) ?_ (fun _ hk => hk) trivial (by have := HSZ.out; omega) (by have := HSZ.out; omega) hb1 (below_size hb1) ?_
        · exact (show Kd.M (Kd.int .i64) _ _ _ _ [_] from rfl)
        intro v9 w2 ho9 hb2 hg2 ha9
        have ne3_9 : ∀ b, v3.ownBlock = some b → v9.ownBlock ≠ some b := fun b h1 h2 => by obtain ⟨c, h3, h4⟩ := ha9; have h5 := Kd.R_lt ho3 b h1; rw [h2] at h3; injection h3 with h3; omega
        replace ho3 := Kd.R_grown ho3 hg2 (fun _ _ he => by cases he)
        refine hK.out _ _ trivial (fun hHeld => ?_)
        clear hK K
        refine norm_ (a' := ?_) ?_ ?_
        rotate_left
        · show Act.put _ (some 37) _ = _
          simp only [Act.put, List.setIfInBounds_toArray, List.set_cons_zero, List.set_cons_succ]
          rfl
        refine two_ (i := 6) (j := 11) (Ni := some 34) (Nj := some 39) #[true, true, true, true, true, true, true, true, true, true, true, false, true, false, false, false] #[true, true, true, true, true, true, false, true, true, true, true, true, true, false, false, false] rfl rfl rfl rfl (by kernel_rfl) (by decide) (by decide) (fun K hK => ?_) (fun K hK => ?_)
        · skip
          refine Kd.R_make_step (Kd.int .i64) (w0 := w) w.heap.size 3 (by rfl) rfl 36 (.tmp 33) (.tmp 33) rfl (W + 1) (by rfl) (by rfl) Tryd.underlying36 (.int .i64 0) 8 info3 rfl (by decide) (by decide) 0 (ok := fun _ => True) (okp := fun _ => True) ?_ (fun _ hk => hk) trivial (by have := HSZ.out; omega) (by have := HSZ.out; omega) hb2 (below_size hb2) ?_
          · exact (show Kd.M (Kd.int .i64) _ _ _ _ [_] from rfl)
          intro v6 w3 ho6 hb3 hg3 ha6
          have ne3_6 : ∀ b, v3.ownBlock = some b → v6.ownBlock ≠ some b := fun b h1 h2 => by obtain ⟨c, h3, h4⟩ := ha6; have h5 := Kd.R_lt ho3 b h1; rw [h2] at h3; injection h3 with h3; omega
          have ne9_6 : ∀ b, v9.ownBlock = some b → v6.ownBlock ≠ some b := fun b h1 h2 => by obtain ⟨c, h3, h4⟩ := ha6; have h5 := Kd.R_lt ho9 b h1; rw [h2] at h3; injection h3 with h3; omega
          replace ho3 := Kd.R_grown ho3 hg3 (fun _ _ he => by cases he)
          replace ho9 := Kd.R_grown ho9 hg3 (fun _ _ he => by cases he)
          refine hK.out _ _ trivial (fun hHeld => ?_)
          clear hK K
          refine norm_ (a' := ?_) ?_ ?_
          rotate_left
          · show Act.put _ (some 34) _ = _
            simp only [Act.put, List.setIfInBounds_toArray, List.set_cons_zero, List.set_cons_succ]
            rfl
          refine one_ (i := 11) (N := some 39) #[true, true, true, true, true, true, true, true, true, true, true, true, true, false, false, false] rfl rfl (by kernel_rfl) (by decide) (fun K hK => ?_)
          refine Kd.R_make_step k56 (w0 := w) w.heap.size 56 (by rfl) rfl 35 (.tmp 38) (.tmp 38) rfl M (by rfl) (by rfl) Tryd.underlying35 (.agg #[.int .i64 0, .int .i64 0, .int .u8 0]) 24 info56 rfl (by decide) (by decide) z56 (ok := fun _ => True) (okp := fun _ => True) ?_ (fun _ hk => hk) trivial (by have := HSZ.out; omega) (by have := HSZ.out; omega) hb3 (below_size hb3) ?_
          · exact k56_mkM _ _ _ _
          intro v11 w4 ho11 hb4 hg4 ha11
          replace ho3 := Kd.R_grown ho3 hg4 (fun _ _ he => by cases he)
          replace ho9 := Kd.R_grown ho9 hg4 (fun _ _ he => by cases he)
          replace ho6 := Kd.R_grown ho6 hg4 (fun _ _ he => by cases he)
          refine hK.out _ _ trivial (fun hHeld => ?_)
          clear hK K
          refine norm_ (a' := ?_) ?_ ?_
          rotate_left
          · show Act.put _ (some 39) _ = _
            simp only [Act.put, List.setIfInBounds_toArray, List.set_cons_zero, List.set_cons_succ]
            rfl
          exact norm_ (by simp only [putAll, Act.put, List.setIfInBounds_toArray, List.set_cons_zero, List.set_cons_succ]) (hCont (v3, v6, v9, v11) _ ⟨ho3, ho6, ho9, ho11, hb4, ne3_6, ne3_9, (fun b h1 h2 => ne9_6 b h2 h1), ⟨ha11.choose, ha11.choose_spec.1⟩⟩)
        · skip
          refine Kd.R_make_step k56 (w0 := w) w.heap.size 56 (by rfl) rfl 35 (.tmp 38) (.tmp 38) rfl M (by rfl) (by rfl) Tryd.underlying35 (.agg #[.int .i64 0, .int .i64 0, .int .u8 0]) 24 info56 rfl (by decide) (by decide) z56 (ok := fun _ => True) (okp := fun _ => True) ?_ (fun _ hk => hk) trivial (by have := HSZ.out; omega) (by have := HSZ.out; omega) hb2 (below_size hb2) ?_
          · exact k56_mkM _ _ _ _
          intro v11 w3 ho11 hb3 hg3 ha11
          replace ho3 := Kd.R_grown ho3 hg3 (fun _ _ he => by cases he)
          replace ho9 := Kd.R_grown ho9 hg3 (fun _ _ he => by cases he)
          refine hK.out _ _ trivial (fun hHeld => ?_)
          clear hK K
          refine norm_ (a' := ?_) ?_ ?_
          rotate_left
          · show Act.put _ (some 39) _ = _
            simp only [Act.put, List.setIfInBounds_toArray, List.set_cons_zero, List.set_cons_succ]
            rfl
          refine one_ (i := 6) (N := some 34) #[true, true, true, true, true, true, true, true, true, true, true, true, true, false, false, false] rfl rfl (by kernel_rfl) (by decide) (fun K hK => ?_)
          refine Kd.R_make_step (Kd.int .i64) (w0 := w) w.heap.size 3 (by rfl) rfl 36 (.tmp 33) (.tmp 33) rfl (W + 1) (by rfl) (by rfl) Tryd.underlying36 (.int .i64 0) 8 info3 rfl (by decide) (by decide) 0 (ok := fun _ => True) (okp := fun _ => True) ?_ (fun _ hk => hk) trivial (by have := HSZ.out; omega) (by have := HSZ.out; omega) hb3 (below_size hb3) ?_
          · exact (show Kd.M (Kd.int .i64) _ _ _ _ [_] from rfl)
          intro v6 w4 ho6 hb4 hg4 ha6
          have ne3_6 : ∀ b, v3.ownBlock = some b → v6.ownBlock ≠ some b := fun b h1 h2 => by obtain ⟨c, h3, h4⟩ := ha6; have h5 := Kd.R_lt ho3 b h1; rw [h2] at h3; injection h3 with h3; omega
          have ne9_6 : ∀ b, v9.ownBlock = some b → v6.ownBlock ≠ some b := fun b h1 h2 => by obtain ⟨c, h3, h4⟩ := ha6; have h5 := Kd.R_lt ho9 b h1; rw [h2] at h3; injection h3 with h3; omega
          replace ho3 := Kd.R_grown ho3 hg4 (fun _ _ he => by cases he)
          replace ho9 := Kd.R_grown ho9 hg4 (fun _ _ he => by cases he)
          replace ho11 := Kd.R_grown ho11 hg4 (fun _ _ he => by cases he)
          refine hK.out _ _ trivial (fun hHeld => ?_)
          clear hK K
          refine norm_ (a' := ?_) ?_ ?_
          rotate_left
          · show Act.put _ (some 34) _ = _
            simp only [Act.put, List.setIfInBounds_toArray, List.set_cons_zero, List.set_cons_succ]
            rfl
          exact norm_ (by simp only [putAll, Act.put, List.setIfInBounds_toArray, List.set_cons_zero, List.set_cons_succ]) (hCont (v3, v6, v9, v11) _ ⟨ho3, ho6, ho9, ho11, hb4, ne3_6, ne3_9, (fun b h1 h2 => ne9_6 b h2 h1), ⟨ha11.choose, ha11.choose_spec.1⟩⟩)
      · skip
        refine Kd.R_make_step k56 (w0 := w) w.heap.size 56 (by rfl) rfl 35 (.tmp 38) (.tmp 38) rfl M (by rfl) (by rfl) Tryd.underlying35 (.agg #[.int .i64 0, .int .i64 0, .int .u8 0]) 24 info56 rfl (by decide) (by decide) z56 (ok := fun _ => True) (okp := fun _ => True) ?_ (fun _ hk => hk) trivial (by have := HSZ.out; omega) (by have := HSZ.out; omega) hb1 (below_size hb1) ?_
        · exact k56_mkM _ _ _ _
        intro v11 w2 ho11 hb2 hg2 ha11
        replace ho3 := Kd.R_grown ho3 hg2 (fun _ _ he => by cases he)
        refine hK.out _ _ trivial (fun hHeld => ?_)
        clear hK K
        refine norm_ (a' := ?_) ?_ ?_
        rotate_left
        · show Act.put _ (some 39) _ = _
          simp only [Act.put, List.setIfInBounds_toArray, List.set_cons_zero, List.set_cons_succ]
          rfl
        refine two_ (i := 6) (j := 9) (Ni := some 34) (Nj := some 37) #[true, true, true, true, true, true, true, true, true, false, true, true, true, false, false, false] #[true, true, true, true, true, true, false, true, true, true, true, true, true, false, false, false] rfl rfl rfl rfl (by kernel_rfl) (by decide) (by decide) (fun K hK => ?_) (fun K hK => ?_)
        · skip
          refine Kd.R_make_step (Kd.int .i64) (w0 := w) w.heap.size 3 (by rfl) rfl 36 (.tmp 33) (.tmp 33) rfl (W + 1) (by rfl) (by rfl) Tryd.underlying36 (.int .i64 0) 8 info3 rfl (by decide) (by decide) 0 (ok := fun _ => True) (okp := fun _ => True) ?_ (fun _ hk => hk) trivial (by have := HSZ.out; omega) (by have := HSZ.out; omega) hb2 (below_size hb2) ?_
          · exact (show Kd.M (Kd.int .i64) _ _ _ _ [_] from rfl)
          intro v6 w3 ho6 hb3 hg3 ha6
          have ne3_6 : ∀ b, v3.ownBlock = some b → v6.ownBlock ≠ some b := fun b h1 h2 => by obtain ⟨c, h3, h4⟩ := ha6; have h5 := Kd.R_lt ho3 b h1; rw [h2] at h3; injection h3 with h3; omega
          replace ho3 := Kd.R_grown ho3 hg3 (fun _ _ he => by cases he)
          replace ho11 := Kd.R_grown ho11 hg3 (fun _ _ he => by cases he)
          refine hK.out _ _ trivial (fun hHeld => ?_)
          clear hK K
          refine norm_ (a' := ?_) ?_ ?_
          rotate_left
          · show Act.put _ (some 34) _ = _
            simp only [Act.put, List.setIfInBounds_toArray, List.set_cons_zero, List.set_cons_succ]
            rfl
          refine one_ (i := 9) (N := some 37) #[true, true, true, true, true, true, true, true, true, true, true, true, true, false, false, false] rfl rfl (by kernel_rfl) (by decide) (fun K hK => ?_)
          refine Kd.R_make_step (Kd.int .i64) (w0 := w) w.heap.size 3 (by rfl) rfl 36 (.tmp 36) (.tmp 36) rfl (M + 1) (by rfl) (by rfl) Tryd.underlying36 (.int .i64 0) 8 info3 rfl (by decide) (by decide) 0 (ok := fun _ => True) (okp := fun _ => True) ?_ (fun _ hk => hk) trivial (by have := HSZ.out; omega) (by have := HSZ.out; omega) hb3 (below_size hb3) ?_
          · exact (show Kd.M (Kd.int .i64) _ _ _ _ [_] from rfl)
          intro v9 w4 ho9 hb4 hg4 ha9
          have ne3_9 : ∀ b, v3.ownBlock = some b → v9.ownBlock ≠ some b := fun b h1 h2 => by obtain ⟨c, h3, h4⟩ := ha9; have h5 := Kd.R_lt ho3 b h1; rw [h2] at h3; injection h3 with h3; omega
          have ne6_9 : ∀ b, v6.ownBlock = some b → v9.ownBlock ≠ some b := fun b h1 h2 => by obtain ⟨c, h3, h4⟩ := ha9; have h5 := Kd.R_lt ho6 b h1; rw [h2] at h3; injection h3 with h3; omega
          replace ho3 := Kd.R_grown ho3 hg4 (fun _ _ he => by cases he)
          replace ho11 := Kd.R_grown ho11 hg4 (fun _ _ he => by cases he)
          replace ho6 := Kd.R_grown ho6 hg4 (fun _ _ he => by cases he)
          refine hK.out _ _ trivial (fun hHeld => ?_)
          clear hK K
          refine norm_ (a' := ?_) ?_ ?_
          rotate_left
          · show Act.put _ (some 37) _ = _
            simp only [Act.put, List.setIfInBounds_toArray, List.set_cons_zero, List.set_cons_succ]
            rfl
          exact norm_ (by simp only [putAll, Act.put, List.setIfInBounds_toArray, List.set_cons_zero, List.set_cons_succ]) (hCont (v3, v6, v9, v11) _ ⟨ho3, ho6, ho9, ho11, hb4, ne3_6, ne3_9, ne6_9, ⟨ha11.choose, ha11.choose_spec.1⟩⟩)
        · skip
          refine Kd.R_make_step (Kd.int .i64) (w0 := w) w.heap.size 3 (by rfl) rfl 36 (.tmp 36) (.tmp 36) rfl (M + 1) (by rfl) (by rfl) Tryd.underlying36 (.int .i64 0) 8 info3 rfl (by decide) (by decide) 0 (ok := fun _ => True) (okp := fun _ => True) ?_ (fun _ hk => hk) trivial (by have := HSZ.out; omega) (by have := HSZ.out; omega) hb2 (below_size hb2) ?_
          · exact (show Kd.M (Kd.int .i64) _ _ _ _ [_] from rfl)
          intro v9 w3 ho9 hb3 hg3 ha9
          have ne3_9 : ∀ b, v3.ownBlock = some b → v9.ownBlock ≠ some b := fun b h1 h2 => by obtain ⟨c, h3, h4⟩ := ha9; have h5 := Kd.R_lt ho3 b h1; rw [h2] at h3; injection h3 with h3; omega
          replace ho3 := Kd.R_grown ho3 hg3 (fun _ _ he => by cases he)
          replace ho11 := Kd.R_grown ho11 hg3 (fun _ _ he => by cases he)
          refine hK.out _ _ trivial (fun hHeld => ?_)
          clear hK K
          refine norm_ (a' := ?_) ?_ ?_
          rotate_left
          · show Act.put _ (some 37) _ = _
            simp only [Act.put, List.setIfInBounds_toArray, List.set_cons_zero, List.set_cons_succ]
            rfl
          refine one_ (i := 6) (N := some 34) #[true, true, true, true, true, true, true, true, true, true, true, true, true, false, false, false] rfl rfl (by kernel_rfl) (by decide) (fun K hK => ?_)
          refine Kd.R_make_step (Kd.int .i64) (w0 := w) w.heap.size 3 (by rfl) rfl 36 (.tmp 33) (.tmp 33) rfl (W + 1) (by rfl) (by rfl) Tryd.underlying36 (.int .i64 0) 8 info3 rfl (by decide) (by decide) 0 (ok := fun _ => True) (okp := fun _ => True) ?_ (fun _ hk => hk) trivial (by have := HSZ.out; omega) (by have := HSZ.out; omega) hb3 (below_size hb3) ?_
          · exact (show Kd.M (Kd.int .i64) _ _ _ _ [_] from rfl)
          intro v6 w4 ho6 hb4 hg4 ha6
          have ne3_6 : ∀ b, v3.ownBlock = some b → v6.ownBlock ≠ some b := fun b h1 h2 => by obtain ⟨c, h3, h4⟩ := ha6; have h5 := Kd.R_lt ho3 b h1; rw [h2] at h3; injection h3 with h3; omega
          have ne9_6 : ∀ b, v9.ownBlock = some b → v6.ownBlock ≠ some b := fun b h1 h2 => by obtain ⟨c, h3, h4⟩ := ha6; have h5 := Kd.R_lt ho9 b h1; rw [h2] at h3; injection h3 with h3; omega
          replace ho3 := Kd.R_grown ho3 hg4 (fun _ _ he => by cases he)
          replace ho11 := Kd.R_grown ho11 hg4 (fun _ _ he => by cases he)
          replace ho9 := Kd.R_grown ho9 hg4 (fun _ _ he => by cases he)
          refine hK.out _ _ trivial (fun hHeld => ?_)
          clear hK K
          refine norm_ (a' := ?_) ?_ ?_
          rotate_left
          · show Act.put _ (some 34) _ = _
            simp only [Act.put, List.setIfInBounds_toArray, List.set_cons_zero, List.set_cons_succ]
            rfl
          exact norm_ (by simp only [putAll, Act.put, List.setIfInBounds_toArray, List.set_cons_zero, List.set_cons_succ]) (hCont (v3, v6, v9, v11) _ ⟨ho3, ho6, ho9, ho11, hb4, ne3_6, ne3_9, (fun b h1 h2 => ne9_6 b h2 h1), ⟨ha11.choose, ha11.choose_spec.1⟩⟩)
    · skip
      refine Kd.R_make_step (Kd.int .i64) (w0 := w) w.heap.size 3 (by rfl) rfl 36 (.tmp 33) (.tmp 33) rfl (W + 1) (by rfl) (by rfl) Tryd.underlying36 (.int .i64 0) 8 info3 rfl (by decide) (by decide) 0 (ok := fun _ => True) (okp := fun _ => True) ?_ (fun _ hk => hk) trivial (by have := HSZ.out; omega) (by have := HSZ.out; omega) hb0 (below_size hb0) ?_
      · exact (show Kd.M (Kd.int .i64) _ _ _ _ [_] from rfl)
      intro v6 w1 ho6 hb1 hg1 ha6
      refine hK.out _ _ trivial (fun hHeld => ?_)
      clear hK K
      refine norm_ (a' := ?_) ?_ ?_
      rotate_left
      · show Act.put _ (some 34) _ = _
        simp only [Act.put, List.setIfInBounds_toArray, List.set_cons_zero, List.set_cons_succ]
        rfl
      refine three_ (i := 3) (j := 9) (k := 11) (Ni := some 31) (Nj := some 37) (Nk := some 39) #[true, true, true, true, true, true, true, true, true, false, true, false, true, false, false, false] #[true, true, true, false, true, true, true, true, true, true, true, false, true, false, false, false] #[true, true, true, false, true, true, true, true, true, false, true, true, true, false, false, false] rfl rfl rfl rfl rfl rfl (by kernel_rfl) (by decide) (by decide) (by decide) (fun K hK => ?_) (fun K hK => ?_) (fun K hK => ?_)
      · skip
        refine Kd.R_make_step (Kd.int .i64) (w0 := w) w.heap.size 3 (by rfl) rfl 36 (.tmp 30) (.tmp 30) rfl (W + 1) (by rfl) (by rfl) Tryd.underlying36 (.int .i64 0) 8 info3 rfl (by decide) (by decide) 0 (ok := fun _ => True) (okp := fun _ => True) ?_ (fun _ hk => hk) trivial (by have := HSZ.out; omega) (by have := HSZ.out; omega) hb1 (below_size hb1) ?_
        · exact (show Kd.M (Kd.int .i64) _ _ _ _ [_] from rfl)
        intro v3 w2 ho3 hb2 hg2 ha3
        have ne6_3 : ∀ b, v6.ownBlock = some b → v3.ownBlock ≠ some b := fun b h1 h2 => by obtain ⟨c, h3, h4⟩ := ha3; have h5 := Kd.R_lt ho6 b h1; rw [h2] at h3; injection h3 with h3; omega
        replace ho6 := Kd.R_grown ho6 hg2 (fun _ _ he => by cases he)
        refine hK.out _ _ trivial (fun hHeld => ?_)
        clear hK K
        refine norm_ (a' := ?_) ?_ ?_
        rotate_left
        · show Act.put _ (some 31) _ = _
          simp only [Act.put, List.setIfInBounds_toArray, List.set_cons_zero, List.set_cons_succ]
          rfl
        refine two_ (i := 9) (j := 11) (Ni := some 37) (Nj := some 39) #[true, true, true, true, true, true, true, true, true, true, true, false, true, false, false, false] #[true, true, true, true, true, true, true, true, true, false, true, true, true, false, false, false] rfl rfl rfl rfl (by kernel_rfl) (by decide) (by decide) (fun K hK => ?_) (fun K hK => ?_)
        · skip
          refine Kd.R_make_step (Kd.int .i64) (w0 := w) w.heap.size 3 (by rfl) rfl 36 (.tmp 36) (.tmp 36) rfl (M + 1) (by rfl) (by rfl) Tryd.underlying36 (.int .i64 0) 8 info3 rfl (by decide) (by decide) 0 (ok := fun _ => True) (okp := fun _ => True) ?_ (fun _ hk => hk) trivial (by have := HSZ.out; omega) (by have := HSZ.out; omega) hb2 (below_size hb2) ?_
          · exact (show Kd.M (Kd.int .i64) _ _ _ _ [_] from rfl)
          intro v9 w3 ho9 hb3 hg3 ha9
          have ne6_9 : ∀ b, v6.ownBlock = some b → v9.ownBlock ≠ some b := fun b h1 h2 => by obtain ⟨c, h3, h4⟩ := ha9; have h5 := Kd.R_lt ho6 b h1; rw [h2] at h3; injection h3 with h3; omega
          have ne3_9 : ∀ b, v3.ownBlock = some b → v9.ownBlock ≠ some b := fun b h1 h2 => by obtain ⟨c, h3, h4⟩ := ha9; have h5 := Kd.R_lt ho3 b h1; rw [h2] at h3; injection h3 with h3; omega
          replace ho6 := Kd.R_grown ho6 hg3 (fun _ _ he => by cases he)
          replace ho3 := Kd.R_grown ho3 hg3 (fun _ _ he => by cases he)
          refine hK.out _ _ trivial (fun hHeld => ?_)
          clear hK K
          refine norm_ (a' := ?_) ?_ ?_
          rotate_left
          · show Act.put _ (some 37) _ = _
            simp only [Act.put, List.setIfInBounds_toArray, List.set_cons_zero, List.set_cons_succ]
            rfl
          refine one_ (i := 11) (N := some 39) #[true, true, true, true, true, true, true, true, true, true, true, true, true, false, false, false] rfl rfl (by kernel_rfl) (by decide) (fun K hK => ?_)
          refine Kd.R_make_step k56 (w0 := w) w.heap.size 56 (by rfl) rfl 35 (.tmp 38) (.tmp 38) rfl M (by rfl) (by rfl) Tryd.underlying35 (.agg #[.int .i64 0, .int .i64 0, .int .u8 0]) 24 info56 rfl (by decide) (by decide) z56 (ok := fun _ => True) (okp := fun _ => True) ?_ (fun _ hk => hk) trivial (by have := HSZ.out; omega) (by have := HSZ.out; omega) hb3 (below_size hb3) ?_
          · exact k56_mkM _ _ _ _
          intro v11 w4 ho11 hb4 hg4 ha11
          replace ho6 := Kd.R_grown ho6 hg4 (fun _ _ he => by cases he)
          replace ho3 := Kd.R_grown ho3 hg4 (fun _ _ he => by cases he)
          replace ho9 := Kd.R_grown ho9 hg4 (fun _ _ he => by cases he)
          refine hK.out _ _ trivial (fun hHeld => ?_)
          clear hK K
          refine norm_ (a' := ?_) ?_ ?_
          rotate_left
          · show Act.put _ (some 39) _ = _
            simp only [Act.put, List.setIfInBounds_toArray, List.set_cons_zero, List.set_cons_succ]
            rfl
          exact norm_ (by simp only [putAll, Act.put, List.setIfInBounds_toArray, List.set_cons_zero, List.set_cons_succ]) (hCont (v3, v6, v9, v11) _ ⟨ho3, ho6, ho9, ho11, hb4, (fun b h1 h2 => ne6_3 b h2 h1), ne3_9, ne6_9, ⟨ha11.choose, ha11.choose_spec.1⟩⟩)
        · skip
          refine Kd.R_make_step k56 (w0 := w) w.heap.size 56 (by rfl) rfl 35 (.tmp 38) (.tmp 38) rfl M (by rfl) (by rfl) Tryd.underlying35 (.agg #[.int .i64 0, .int .i64 0, .int .u8 0]) 24 info56 rfl (by decide) (by decide) z56 (ok := fun _ => True) (okp := fun _ => True) ?_ (fun _ hk => hk) trivial (by have := HSZ.out; omega) (by have := HSZ.out; omega) hb2 (below_size hb2) ?_
          · exact k56_mkM _ _ _ _
          intro v11 w3 ho11 hb3 hg3 ha11
          replace ho6 := Kd.R_grown ho6 hg3 (fun _ _ he => by cases he)
          replace ho3 := Kd.R_grown ho3 hg3 (fun _ _ he => by cases he)
          refine hK.out _ _ trivial (fun hHeld => ?_)
          clear hK K
          refine norm_ (a' := ?_) ?_ ?_
          rotate_left
          · show Act.put _ (some 39) _ = _
            simp only [Act.put, List.setIfInBounds_toArray, List.set_cons_zero, List.set_cons_succ]
            rfl
          refine one_ (i := 9) (N := some 37) #[true, true, true, true, true, true, true, true, true, true, true, true, true, false, false, false] rfl rfl (by kernel_rfl) (by decide) (fun K hK => ?_)
          refine Kd.R_make_step (Kd.int .i64) (w0 := w) w.heap.size 3 (by rfl) rfl 36 (.tmp 36) (.tmp 36) rfl (M + 1) (by rfl) (by rfl) Tryd.underlying36 (.int .i64 0) 8 info3 rfl (by decide) (by decide) 0 (ok := fun _ => True) (okp := fun _ => True) ?_ (fun _ hk => hk) trivial (by have := HSZ.out; omega) (by have := HSZ.out; omega) hb3 (below_size hb3) ?_
          · exact (show Kd.M (Kd.int .i64) _ _ _ _ [_] from rfl)
          intro v9 w4 ho9 hb4 hg4 ha9
          have ne6_9 : ∀ b, v6.ownBlock = some b → v9.ownBlock ≠ some b := fun b h1 h2 => by obtain ⟨c, h3, h4⟩ := ha9; have h5 := Kd.R_lt ho6 b h1; rw [h2] at h3; injection h3 with h3; omega
          have ne3_9 : ∀ b, v3.ownBlock = some b → v9.ownBlock ≠ some b := fun b h1 h2 => by obtain ⟨c, h3, h4⟩ := ha9; have h5 := Kd.R_lt ho3 b h1; rw [h2] at h3; injection h3 with h3; omega
          replace ho6 := Kd.R_grown ho6 hg4 (fun _ _ he => by cases he)
          replace ho3 := Kd.R_grown ho3 hg4 (fun _ _ he => by cases he)
          replace ho11 := Kd.R_grown ho11 hg4 (fun _ _ he => by cases he)
          refine hK.out _ _ trivial (fun hHeld => ?_)
          clear hK K
          refine norm_ (a' := ?_) ?_ ?_
          rotate_left
          · show Act.put _ (some 37) _ = _
            simp only [Act.put, List.setIfInBounds_toArray, List.set_cons_zero, List.set_cons_succ]
            rfl
          exact norm_ (by simp only [putAll, Act.put, List.setIfInBounds_toArray, List.set_cons_zero, List.set_cons_succ]) (hCont (v3, v6, v9, v11) _ ⟨ho3, ho6, ho9, ho11, hb4, (fun b h1 h2 => ne6_3 b h2 h1), ne3_9, ne6_9, ⟨ha11.choose, ha11.choose_spec.1⟩⟩)
      · skip
        refine Kd.R_make_step (Kd.int .i64) (w0 := w) w.heap.size 3 (by rfl) rfl 36 (.tmp 36) (.tmp 36) rfl (M + 1) (by rfl) (by rfl) Tryd.underlying36 (.int .i64 0) 8 info3 rfl (by decide) (by decide) 0 (ok := fun _ => True) (okp := fun _ => True) ?_ (fun _ hk => hk) trivial (by have := HSZ.out; omega) (by have := HSZ.out; omega) hb1 (below_size hb1) ?_
        · exact (show Kd.M (Kd.int .i64) _ _ _ _ [_] from rfl)
        intro v9 w2 ho9 hb2 hg2 ha9
        have ne6_9 : ∀ b, v6.ownBlock = some b → v9.ownBlock ≠ some b := fun b h1 h2 => by obtain ⟨c, h3, h4⟩ := ha9; have h5 := Kd.R_lt ho6 b h1; rw [h2] at h3; injection h3 with h3; omega
        replace ho6 := Kd.R_grown ho6 hg2 (fun _ _ he => by cases he)
        refine hK.out _ _ trivial (fun hHeld => ?_)
        clear hK K
        refine norm_ (a' := ?_) ?_ ?_
        rotate_left
        · show Act.put _ (some 37) _ = _
          simp only [Act.put, List.setIfInBounds_toArray, List.set_cons_zero, List.set_cons_succ]
          rfl
        refine two_ (i := 3) (j := 11) (Ni := some 31) (Nj := some 39) #[true, true, true, true, true, true, true, true, true, true, true, false, true, false, false, false] #[true, true, true, false, true, true, true, true, true, true, true, true, true, false, false, false] rfl rfl rfl rfl (by kernel_rfl) (by decide) (by decide) (fun K hK => ?_) (fun K hK => ?_)
        · skip
          refine Kd.R_make_step (Kd.int .i64) (w0 := w) w.heap.size 3 (by rfl) rfl 36 (.tmp 30) (.tmp 30) rfl (W + 1) (by rfl) (by rfl) Tryd.underlying36 (.int .i64 0) 8 info3 rfl (by decide) (by decide) 0 (ok := fun _ => True) (okp := fun _ => True) ?_ (fun _ hk => hk) trivial (by have := HSZ.out; omega) (by have := HSZ.out; omega) hb2 (below_size hb2) ?_
          · exact (show Kd.M (Kd.int .i64) _ _ _ _ [_] from rfl)
          intro v3 w3 ho3 hb3 hg3 ha3
          have ne6_3 : ∀ b, v6.ownBlock = some b → v3.ownBlock ≠ some b := fun b h1 h2 => by obtain ⟨c, h3, h4⟩ := ha3; have h5 := Kd.R_lt ho6 b h1; rw [h2] at h3; injection h3 with h3; omega
          have ne9_3 : ∀ b, v9.ownBlock = some b → v3.ownBlock ≠ some b := fun b h1 h2 => by obtain ⟨c, h3, h4⟩ := ha3; have h5 := Kd.R_lt ho9 b h1; rw [h2] at h3; injection h3 with h3; omega
          replace ho6 := Kd.R_grown ho6 hg3 (fun _ _ he => by cases he)
          replace ho9 := Kd.R_grown ho9 hg3 (fun _ _ he => by cases he)
          refine hK.out _ _ trivial (fun hHeld => ?_)
          clear hK K
          refine norm_ (a' := ?_) ?_ ?_
          rotate_left
          · show Act.put _ (some 31) _ = _
            simp only [Act.put, List.setIfInBounds_toArray, List.set_cons_zero, List.set_cons_succ]
            rfl
          refine one_ (i := 11) (N := some 39) #[true, true, true, true, true, true, true, true, true, true, true, true, true, false, false, false] rfl rfl (by kernel_rfl) (by decide) (fun K hK => ?_)
          refine Kd.R_make_step k56 (w0 := w) w.heap.size 56 (by rfl) rfl 35 (.tmp 38) (.tmp 38) rfl M (by rfl) (by rfl) Tryd.underlying35 (.agg #[.int .i64 0, .int .i64 0, .int .u8 0]) 24 info56 rfl (by decide) (by decide) z56 (ok := fun _ => True) (okp := fun _ => True) ?_ (fun _ hk => hk) trivial (by have := HSZ.out; omega) (by have := HSZ.out; omega) hb3 (below_size hb3) ?_
          · exact k56_mkM _ _ _ _
          intro v11 w4 ho11 hb4 hg4 ha11
          replace ho6 := Kd.R_grown ho6 hg4 (fun _ _ he => by cases he)
          replace ho9 := Kd.R_grown ho9 hg4 (fun _ _ he => by cases he)
          replace ho3 := Kd.R_grown ho3 hg4 (fun _ _ he => by cases he)
          refine hK.out _ _ trivial (fun hHeld => ?_)
          clear hK K
          refine norm_ (a' := ?_) ?_ ?_
          rotate_left
          · show Act.put _ (some 39) _ = _
            simp only [Act.put, List.setIfInBounds_toArray, List.set_cons_zero, List.set_cons_succ]
            rfl
          exact norm_ (by simp only [putAll, Act.put, List.setIfInBounds_toArray, List.set_cons_zero, List.set_cons_succ]) (hCont (v3, v6, v9, v11) _ ⟨ho3, ho6, ho9, ho11, hb4, (fun b h1 h2 => ne6_3 b h2 h1), (fun b h1 h2 => ne9_3 b h2 h1), ne6_9, ⟨ha11.choose, ha11.choose_spec.1⟩⟩)
        · skip
          refine Kd.R_make_step k56 (w0 := w) w.heap.size 56 (by rfl) rfl 35 (.tmp 38) (.tmp 38) rfl M (by rfl) (by rfl) Tryd.underlying35 (.agg #[.int .i64 0, .int .i64 0, .int .u8 0]) 24 info56 rfl (by decide) (by decide) z56 (ok := fun _ => True) (okp := fun _ => True) ?_ (fun _ hk => hk) trivial (by have := HSZ.out; omega) (by have := HSZ.out; omega) hb2 (below_size hb2) ?_
          · exact k56_mkM _ _ _ _
          intro v11 w3 ho11 hb3 hg3 ha11
          replace ho6 := Kd.R_grown ho6 hg3 (fun _ _ he => by cases he)
          replace ho9 := Kd.R_grown ho9 hg3 (fun _ _ he => by cases he)
          refine hK.out _ _ trivial (fun hHeld => ?_)
          clear hK K
          refine norm_ (a' := ?_) ?_ ?_
          rotate_left
          · show Act.put _ (some 39) _ = _
            simp only [Act.put, List.setIfInBounds_toArray, List.set_cons_zero, List.set_cons_succ]
            rfl
          refine one_ (i := 3) (N := some 31) #[true, true, true, true, true, true, true, true, true, true, true, true, true, false, false, false] rfl rfl (by kernel_rfl) (by decide) (fun K hK => ?_)
          refine Kd.R_make_step (Kd.int .i64) (w0 := w) w.heap.size 3 (by rfl) rfl 36 (.tmp 30) (.tmp 30) rfl (W + 1) (by rfl) (by rfl) Tryd.underlying36 (.int .i64 0) 8 info3 rfl (by decide) (by decide) 0 (ok := fun _ => True) (okp := fun _ => True) ?_ (fun _ hk => hk) trivial (by have := HSZ.out; omega) (by have := HSZ.out; omega) hb3 (below_size hb3) ?_
          · exact (show Kd.M (Kd.int .i64) _ _ _ _ [_] from rfl)
          intro v3 w4 ho3 hb4 hg4 ha3
          have ne6_3 : ∀ b, v6.ownBlock = some b → v3.ownBlock ≠ some b := fun b h1 h2 => by obtain ⟨c, h3, h4⟩ := ha3; have h5 := Kd.R_lt ho6 b h1; rw [h2] at h3; injection h3 with h3; omega
          have ne9_3 : ∀ b, v9.ownBlock = some b → v3.ownBlock ≠ some b := fun b h1 h2 => by obtain ⟨c, h3, h4⟩ := ha3; have h5 := Kd.R_lt ho9 b h1; rw [h2] at h3; injection h3 with h3; omega
          replace ho6 := Kd.R_grown ho6 hg4 (fun _ _ he => by cases he)
          replace ho9 := Kd.R_grown ho9 hg4 (fun _ _ he => by cases he)
          replace ho11 := Kd.R_grown ho11 hg4 (fun _ _ he => by cases he)
          refine hK.out _ _ trivial (fun hHeld => ?_)
          clear hK K
          refine norm_ (a' := ?_) ?_ ?_
          rotate_left
          · show Act.put _ (some 31) _ = _
            simp only [Act.put, List.setIfInBounds_toArray, List.set_cons_zero, List.set_cons_succ]
            rfl
          exact norm_ (by simp only [putAll, Act.put, List.setIfInBounds_toArray, List.set_cons_zero, List.set_cons_succ]) (hCont (v3, v6, v9, v11) _ ⟨ho3, ho6, ho9, ho11, hb4, (fun b h1 h2 => ne6_3 b h2 h1), (fun b h1 h2 => ne9_3 b h2 h1), ne6_9, ⟨ha11.choose, ha11.choose_spec.1⟩⟩)
      · skip
        refine Kd.R_make_step k56 (w0 := w) w.heap.size 56 (by rfl) rfl 35 (.tmp 38) (.tmp 38) rfl M (by rfl) (by rfl) Tryd.underlying35 (.agg #[.int .i64 0, .int .i64 0, .int .u8 0]) 24 info56 rfl (by decide) (by decide) z56 (ok := fun _ => True) (okp := fun _ => True) ?_ (fun _ hk => hk) trivial (by have := HSZ.out; omega) (by have := HSZ.out; omega) hb1 (below_size hb1) ?_
        · exact k56_mkM _ _ _ _
        intro v11 w2 ho11 hb2 hg2 ha11
        replace ho6 := Kd.R_grown ho6 hg2 (fun _ _ he => by cases he)
        refine hK.out _ _ trivial (fun hHeld => ?_)
        clear hK K
        refine norm_ (a' := ?_) ?_ ?_
        rotate_left
        · show Act.put _ (some 39) _ = _
          simp only [Act.put, List.setIfInBounds_toArray, List.set_cons_zero, List.set_cons_succ]
          rfl
        refine two_ (i := 3) (j := 9) (Ni := some 31) (Nj := some 37) #[true, true, true, true, true, true, true, true, true, false, true, true, true, false, false, false] #[true, true, true, false, true, true, true, true, true, true, true, true, true, false, false, false] rfl rfl rfl rfl (by kernel_rfl) (by decide) (by decide) (fun K hK => ?_) (fun K hK => ?_)
        · skip
          refine Kd.R_make_step (Kd.int .i64) (w0 := w) w.heap.size 3 (by rfl) rfl 36 (.tmp 30) (.tmp 30) rfl (W + 1) (by rfl) (by rfl) Tryd.underlying36 (.int .i64 0) 8 info3 rfl (by decide) (by decide) 0 (ok := fun _ => True) (okp := fun _ => True) ?_ (fun _ hk => hk) trivial (by have := HSZ.out; omega) (by have := HSZ.out; omega) hb2 (below_size hb2) ?_
          · exact (show Kd.M (Kd.int .i64) _ _ _ _ [_] from rfl)
          intro v3 w3 ho3 hb3 hg3 ha3
          have ne6_3 : ∀ b, v6.ownBlock = some b → v3.ownBlock ≠ some b := fun b h1 h2 => by obtain ⟨c, h3, h4⟩ := ha3; have h5 := Kd.R_lt ho6 b h1; rw [h2] at h3; injection h3 with h3; omega
          replace ho6 := Kd.R_grown ho6 hg3 (fun _ _ he => by cases he)
          replace ho11 := Kd.R_grown ho11 hg3 (fun _ _ he => by cases he)
          refine hK.out _ _ trivial (fun hHeld => ?_)
          clear hK K
          refine norm_ (a' := ?_) ?_ ?_
          rotate_left
          · show Act.put _ (some 31) _ = _
            simp only [Act.put, List.setIfInBounds_toArray, List.set_cons_zero, List.set_cons_succ]
            rfl
          refine one_ (i := 9) (N := some 37) #[true, true, true, true, true, true, true, true, true, true, true, true, true, false, false, false] rfl rfl (by kernel_rfl) (by decide) (fun K hK => ?_)
          refine Kd.R_make_step (Kd.int .i64) (w0 := w) w.heap.size 3 (by rfl) rfl 36 (.tmp 36) (.tmp 36) rfl (M + 1) (by rfl) (by rfl) Tryd.underlying36 (.int .i64 0) 8 info3 rfl (by decide) (by decide) 0 (ok := fun _ => True) (okp := fun _ => True) ?_ (fun _ hk => hk) trivial (by have := HSZ.out; omega) (by have := HSZ.out; omega) hb3 (below_size hb3) ?_
          · exact (show Kd.M (Kd.int .i64) _ _ _ _ [_] from rfl)
          intro v9 w4 ho9 hb4 hg4 ha9
          have ne6_9 : ∀ b, v6.ownBlock = some b → v9.ownBlock ≠ some b := fun b h1 h2 => by obtain ⟨c, h3, h4⟩ := ha9; have h5 := Kd.R_lt ho6 b h1; rw [h2] at h3; injection h3 with h3; omega
          have ne3_9 : ∀ b, v3.ownBlock = some b → v9.ownBlock ≠ some b := fun b h1 h2 => by obtain ⟨c, h3, h4⟩ := ha9; have h5 := Kd.R_lt ho3 b h1; rw [h2] at h3; injection h3 with h3; omega
          replace ho6 := Kd.R_grown ho6 hg4 (fun _ _ he => by cases he)
          replace ho11 := Kd.R_grown ho11 hg4 (fun _ _ he => by cases he)
          replace ho3 := Kd.R_grown ho3 hg4 (fun _ _ he => by cases he)
          refine hK.out _ _ trivial (fun hHeld => ?_)
          clear hK K
          refine norm_ (a' := ?_) ?_ ?_
          rotate_left
          · show Act.put _ (some 37) _ = _
            simp only [Act.put, List.setIfInBounds_toArray, List.set_cons_zero, List.set_cons_succ]
            rfl
          exact norm_ (by simp only [putAll, Act.put, List.setIfInBounds_toArray, List.set_cons_zero, List.set_cons_succ]) (hCont (v3, v6, v9, v11) _ ⟨ho3, ho6, ho9, ho11, hb4, (fun b h1 h2 => ne6_3 b h2 h1), ne3_9, ne6_9, ⟨ha11.choose, ha11.choose_spec.1⟩⟩)
        · skip
          refine Kd.R_make_step (Kd.int .i64) (w0 := w) w.heap.size 3 (by rfl) rfl 36 (.tmp 36) (.tmp 36) rfl (M + 1) (by rfl) (by rfl) Tryd.underlying36 (.int .i64 0) 8 info3 rfl (by decide) (by decide) 0 (ok := fun _ => True) (okp := fun _ => True) ?_ (fun _ hk => hk) trivial (by have := HSZ.out; omega) (by have := HSZ.out; omega) hb2 (below_size hb2) ?_
          · exact (show Kd.M (Kd.int .i64) _ _ _ _ [_] from rfl)
          intro v9 w3 ho9 hb3 hg3 ha9
          have ne6_9 : ∀ b, v6.ownBlock = some b → v9.ownBlock ≠ some b := fun b h1 h2 => by obtain ⟨c, h3, h4⟩ := ha9; have h5 := Kd.R_lt ho6 b h1; rw [h2] at h3; injection h3 with h3; omega
          replace ho6 := Kd.R_grown ho6 hg3 (fun _ _ he => by cases he)
          replace ho11 := Kd.R_grown ho11 hg3 (fun _ _ he => by cases he)
          refine hK.out _ _ trivial (fun hHeld => ?_)
          clear hK K
          refine norm_ (a' := ?_) ?_ ?_
          rotate_left
          · show Act.put _ (some 37) _ = _
            simp only [Act.put, List.setIfInBounds_toArray, List.set_cons_zero, List.set_cons_succ]
            rfl
          refine one_ (i := 3) (N := some 31) #[true, true, true, true, true, true, true, true, true, true, true, true, true, false, false, false] rfl rfl (by kernel_rfl) (by decide) (fun K hK => ?_)
          refine Kd.R_make_step (Kd.int .i64) (w0 := w) w.heap.size 3 (by rfl) rfl 36 (.tmp 30) (.tmp 30) rfl (W + 1) (by rfl) (by rfl) Tryd.underlying36 (.int .i64 0) 8 info3 rfl (by decide) (by decide) 0 (ok := fun _ => True) (okp := fun _ => True) ?_ (fun _ hk => hk) trivial (by have := HSZ.out; omega) (by have := HSZ.out; omega) hb3 (below_size hb3) ?_
          · exact (show Kd.M (Kd.int .i64) _ _ _ _ [_] from rfl)
          intro v3 w4 ho3 hb4 hg4 ha3
          have ne6_3 : ∀ b, v6.ownBlock = some b → v3.ownBlock ≠ some b := fun b h1 h2 => by obtain ⟨c, h3, h4⟩ := ha3; have h5 := Kd.R_lt ho6 b h1; rw [h2] at h3; injection h3 with h3; omega
          have ne9_3 : ∀ b, v9.ownBlock = some b → v3.ownBlock ≠ some b := fun b h1 h2 => by obtain ⟨c, h3, h4⟩ := ha3; have h5 := Kd.R_lt ho9 b h1; rw [h2] at h3; injection h3 with h3; omega
          replace ho6 := Kd.R_grown ho6 hg4 (fun _ _ he => by cases he)
          replace ho11 := Kd.R_grown ho11 hg4 (fun _ _ he => by cases he)
          replace ho9 := Kd.R_grown ho9 hg4 (fun _ _ he => by cases he)
          refine hK.out _ _ trivial (fun hHeld => ?_)
          clear hK K
          refine norm_ (a' := ?_) ?_ ?_
          rotate_left
          · show Act.put _ (some 31) _ = _
            simp only [Act.put, List.setIfInBounds_toArray, List.set_cons_zero, List.set_cons_succ]
            rfl
          exact norm_ (by simp only [putAll, Act.put, List.setIfInBounds_toArray, List.set_cons_zero, List.set_cons_succ]) (hCont (v3, v6, v9, v11) _ ⟨ho3, ho6, ho9, ho11, hb4, (fun b h1 h2 => ne6_3 b h2 h1), (fun b h1 h2 => ne9_3 b h2 h1), ne6_9, ⟨ha11.choose, ha11.choose_spec.1⟩⟩)
    · skip
      refine Kd.R_make_step (Kd.int .i64) (w0 := w) w.heap.size 3 (by rfl) rfl 36 (.tmp 36) (.tmp 36) rfl (M + 1) (by rfl) (by rfl) Tryd.underlying36 (.int .i64 0) 8 info3 rfl (by decide) (by decide) 0 (ok := fun _ => True) (okp := fun _ => True) ?_ (fun _ hk => hk) trivial (by have := HSZ.out; omega) (by have := HSZ.out; omega) hb0 (below_size hb0) ?_
      · exact (show Kd.M (Kd.int .i64) _ _ _ _ [_] from rfl)
      intro v9 w1 ho9 hb1 hg1 ha9
      refine hK.out _ _ trivial (fun hHeld => ?_)
      clear hK K
      refine norm_ (a' := ?_) ?_ ?_
      rotate_left
      · show Act.put _ (some 37) _ = _
        simp only [Act.put, List.setIfInBounds_toArray, List.set_cons_zero, List.set_cons_succ]
        rfl
      refine three_ (i := 3) (j := 6) (k := 11) (Ni := some 31) (Nj := some 34) (Nk := some 39) #[true, true, true, true, true, true, false, true, true, true, true, false, true, false, false, false] #[true, true, true, false, true, true, true, true, true, true, true, false, true, false, false, false] #[true, true, true, false, true, true, false, true, true, true, true, true, true, false, false, false] rfl rfl rfl rfl rfl rfl (by kernel_rfl) (by decide) (by decide) (by decide) (fun K hK => ?_) (fun K hK => ?_) (fun K hK => ?_)
      · skip
        refine Kd.R_make_step (Kd.int .i64) (w0 := w) w.heap.size 3 (by rfl) rfl 36 (.tmp 30) (.tmp 30) rfl (W + 1) (by rfl) (by rfl) Tryd.underlying36 (.int .i64 0) 8 info3 rfl (by decide) (by decide) 0 (ok := fun _ => True) (okp := fun _ => True) ?_ (fun _ hk => hk) trivial (by have := HSZ.out; omega) (by have := HSZ.out; omega) hb1 (below_size hb1) ?_
        · exact (show Kd.M (Kd.int .i64) _ _ _ _ [_] from rfl)
        intro v3 w2 ho3 hb2 hg2 ha3
        have ne9_3 : ∀ b, v9.ownBlock = some b → v3.ownBlock ≠ some b := fun b h1 h2 => by obtain ⟨c, h3, h4⟩ := ha3; have h5 := Kd.R_lt ho9 b h1; rw [h2] at h3; injection h3 with h3; omega
        replace ho9 := Kd.R_grown ho9 hg2 (fun _ _ he => by cases he)
        refine hK.out _ _ trivial (fun hHeld => ?_)
        clear hK K
        refine norm_ (a' := ?_) ?_ ?_
        rotate_left
        · show Act.put _ (some 31) _ = _
          simp only [Act.put, List.setIfInBounds_toArray, List.set_cons_zero, List.set_cons_succ]
          rfl
        refine two_ (i := 6) (j := 11) (Ni := some 34) (Nj := some 39) #[true, true, true, true, true, true, true, true, true, true, true, false, true, false, false, false] #[true, true, true, true, true, true, false, true, true, true, true, true, true, false, false, false] rfl rfl rfl rfl (by kernel_rfl) (by decide) (by decide) (fun K hK => ?_) (fun K hK => ?_)
        · skip
          refine Kd.R_make_step (Kd.int .i64) (w0 := w) w.heap.size 3 (by rfl) rfl 36 (.tmp 33) (.tmp 33) rfl (W + 1) (by rfl) (by rfl) Tryd.underlying36 (.int .i64 0) 8 info3 rfl (by decide) (by decide) 0 (ok := fun _ => True) (okp := fun _ => True) ?_ (fun _ hk => hk) trivial (by have := HSZ.out; omega) (by have := HSZ.out; omega) hb2 (below_size hb2) ?_
          · exact (show Kd.M (Kd.int .i64) _ _ _ _ [_] from rfl)
          intro v6 w3 ho6 hb3 hg3 ha6
          have ne9_6 : ∀ b, v9.ownBlock = some b → v6.ownBlock ≠ some b := fun b h1 h2 => by obtain ⟨c, h3, h4⟩ := ha6; have h5 := Kd.R_lt ho9 b h1; rw [h2] at h3; injection h3 with h3; omega
          have ne3_6 : ∀ b, v3.ownBlock = some b → v6.ownBlock ≠ some b := fun b h1 h2 => by obtain ⟨c, h3, h4⟩ := ha6; have h5 := Kd.R_lt ho3 b h1; rw [h2] at h3; injection h3 with h3; omega
          replace ho9 := Kd.R_grown ho9 hg3 (fun _ _ he => by cases he)
          replace ho3 := Kd.R_grown ho3 hg3 (fun _ _ he => by cases he)
          refine hK.out _ _ trivial (fun hHeld => ?_)
          clear hK K
          refine norm_ (a' := ?_) ?_ ?_
          rotate_left
          · show Act.put _ (some 34) _ = _
            simp only [Act.put, List.setIfInBounds_toArray, List.set_cons_zero, List.set_cons_succ]
            rfl
          refine one_ (i := 11) (N := some 39) #[true, true, true, true, true, true, true, true, true, true, true, true, true, false, false, false] rfl rfl (by kernel_rfl) (by decide) (fun K hK => ?_)
          refine Kd.R_make_step k56 (w0 := w) w.heap.size 56 (by rfl) rfl 35 (.tmp 38) (.tmp 38) rfl M (by rfl) (by rfl) Tryd.underlying35 (.agg #[.int .i64 0, .int .i64 0, .int .u8 0]) 24 info56 rfl (by decide) (by decide) z56 (ok := fun _ => True) (okp := fun _ => True) ?_ (fun _ hk => hk) trivial (by have := HSZ.out; omega) (by have := HSZ.out; omega) hb3 (below_size hb3) ?_
          · exact k56_mkM _ _ _ _
          intro v11 w4 ho11 hb4 hg4 ha11
          replace ho9 := Kd.R_grown ho9 hg4 (fun _ _ he => by cases he)
          replace ho3 := Kd.R_grown ho3 hg4 (fun _ _ he => by cases he)
          replace ho6 := Kd.R_grown ho6 hg4 (fun _ _ he => by cases he)
          refine hK.out _ _ trivial (fun hHeld => ?_)
          clear hK K
          refine norm_ (a' := ?_) ?_ ?_
          rotate_left
          · show Act.put _ (some 39) _ = _
            simp only [Act.put, List.setIfInBounds_toArray, List.set_cons_zero, List.set_cons_succ]
            rfl
          exact norm_ (by simp only [putAll, Act.put, List.setIfInBounds_toArray, List.set_cons_zero, List.set_cons_succ]) (hCont (v3, v6, v9, v11) _ ⟨ho3, ho6, ho9, ho11, hb4, ne3_6, (fun b h1 h2 => ne9_3 b h2 h1), (fun b h1 h2 => ne9_6 b h2 h1), ⟨ha11.choose, ha11.choose_spec.1⟩⟩)
        · skip
          refine Kd.R_make_step k56 (w0 := w) w.heap.size 56 (by rfl) rfl 35 (.tmp 38) (.tmp 38) rfl M (by rfl) (by rfl) Tryd.underlying35 (.agg #[.int .i64 0, .int .i64 0, .int .u8 0]) 24 info56 rfl (by decide) (by decide) z56 (ok := fun _ => True) (okp := fun _ => True) ?_ (fun _ hk => hk) trivial (by have := HSZ.out; omega) (by have := HSZ.out; omega) hb2 (below_size hb2) ?_
          · exact k56_mkM _ _ _ _
          intro v11 w3 ho11 hb3 hg3 ha11
          replace ho9 := Kd.R_grown ho9 hg3 (fun _ _ he => by cases he)
          replace ho3 := Kd.R_grown ho3 hg3 (fun _ _ he => by cases he)
          refine hK.out _ _ trivial (fun hHeld => ?_)
          clear hK K
          refine norm_ (a' := ?_) ?_ ?_
          rotate_left
          · show Act.put _ (some 39) _ = _
            simp only [Act.put, List.setIfInBounds_toArray, List.set_cons_zero, List.set_cons_succ]
            rfl
          refine one_ (i := 6) (N := some 34) #[true, true, true, true, true, true, true, true, true, true, true, true, true, false, false, false] rfl rfl (by kernel_rfl) (by decide) (fun K hK => ?_)
          refine Kd.R_make_step (Kd.int .i64) (w0 := w) w.heap.size 3 (by rfl) rfl 36 (.tmp 33) (.tmp 33) rfl (W + 1) (by rfl) (by rfl) Tryd.underlying36 (.int .i64 0) 8 info3 rfl (by decide) (by decide) 0 (ok := fun _ => True) (okp := fun _ => True) ?_ (fun _ hk => hk) trivial (by have := HSZ.out; omega) (by have := HSZ.out; omega) hb3 (below_size hb3) ?_
          · exact (show Kd.M (Kd.int .i64) _ _ _ _ [_] from rfl)
          intro v6 w4 ho6 hb4 hg4 ha6
          have ne9_6 : ∀ b, v9.ownBlock = some b → v6.ownBlock ≠ some b := fun b h1 h2 => by obtain ⟨c, h3, h4⟩ := ha6; have h5 := Kd.R_lt ho9 b h1; rw [h2] at h3; injection h3 with h3; omega
          have ne3_6 : ∀ b, v3.ownBlock = some b → v6.ownBlock ≠ some b := fun b h1 h2 => by obtain ⟨c, h3, h4⟩ := ha6; have h5 := Kd.R_lt ho3 b h1; rw [h2] at h3; injection h3 with h3; omega
          replace ho9 := Kd.R_grown ho9 hg4 (fun _ _ he => by cases he)
          replace ho3 := Kd.R_grown ho3 hg4 (fun _ _ he => by cases he)
          replace ho11 := Kd.R_grown ho11 hg4 (fun _ _ he => by cases he)
          refine hK.out _ _ trivial (fun hHeld => ?_)
          clear hK K
          refine norm_ (a' := ?_) ?_ ?_
          rotate_left
          · show Act.put _ (some 34) _ = _
            simp only [Act.put, List.setIfInBounds_toArray, List.set_cons_zero, List.set_cons_succ]
            rfl
          exact norm_ (by simp only [putAll, Act.put, List.setIfInBounds_toArray, List.set_cons_zero, List.set_cons_succ]) (hCont (v3, v6, v9, v11) _ ⟨ho3, ho6, ho9, ho11, hb4, ne3_6, (fun b h1 h2 => ne9_3 b h2 h1), (fun b h1 h2 => ne9_6 b h2 h1), ⟨ha11.choose, ha11.choose_spec.1⟩⟩)
      · skip
        refine Kd.R_make_step (Kd.int .i64) (w0 := w) w.heap.size 3 (by rfl) rfl 36 (.tmp 33) (.tmp 33) rfl (W + 1) (by rfl) (by rfl) Tryd.underlying36 (.int .i64 0) 8 info3 rfl (by decide) (by decide) 0 (ok := fun _ => True) (okp := fun _ => True) ?_ (fun _ hk => hk) trivial (by have := HSZ.out; omega) (by have := HSZ.out; omega) hb1 (below_size hb1) ?_
        · exact (show Kd.M (Kd.int .i64) _ _ _ _ [_] from rfl)
        intro v6 w2 ho6 hb2 hg2 ha6
        have ne9_6 : ∀ b, v9.ownBlock = some b → v6.ownBlock ≠ some b := fun b h1 h2 => by obtain ⟨c, h3, h4⟩ := ha6; have h5 := Kd.R_lt ho9 b h1; rw [h2] at h3; injection h3 with h3; omega
        replace ho9 := Kd.R_grown ho9 hg2 (fun _ _ he => by cases he)
        refine hK.out _ _ trivial (fun hHeld => ?_)
        clear hK K
        refine norm_ (a' := ?_) ?_ ?_
        rotate_left
        · show Act.put _ (some 34) _ = _
          simp only [Act.put, List.setIfInBounds_toArray, List.set_cons_zero, List.set_cons_succ]
          rfl
        refine two_ (i := 3) (j := 11) (Ni := some 31) (Nj := some 39) #[true, true, true, true, true, true, true, true, true, true, true, false, true, false, false, false] #[true, true, true, false, true, true, true, true, true, true, true, true, true, false, false, false] rfl rfl rfl rfl (by kernel_rfl) (by decide) (by decide) (fun K hK => ?_) (fun K hK => ?_)
        · skip
          refine Kd.R_make_step (Kd.int .i64) (w0 := w) w.heap.size 3 (by rfl) rfl 36 (.tmp 30) (.tmp 30) rfl (W + 1) (by rfl) (by rfl) Tryd.underlying36 (.int .i64 0) 8 info3 rfl (by decide) (by decide) 0 (ok := fun _ => True) (okp := fun _ => True) ?_ (fun _ hk => hk) trivial (by have := HSZ.out; omega) (by have := HSZ.out; omega) hb2 (below_size hb2) ?_
          · exact (show Kd.M (Kd.int .i64) _ _ _ _ [_] from rfl)
          intro v3 w3 ho3 hb3 hg3 ha3
          have ne9_3 : ∀ b, v9.ownBlock = some b → v3.ownBlock ≠ some b := fun b h1 h2 => by obtain ⟨c, h3, h4⟩ := ha3; have h5 := Kd.R_lt ho9 b h1; rw [h2] at h3; injection h3 with h3; omega
          have ne6_3 : ∀ b, v6.ownBlock = some b → v3.ownBlock ≠ some b := fun b h1 h2 => by obtain ⟨c, h3, h4⟩ := ha3; have h5 := Kd.R_lt ho6 b h1; rw [h2] at h3; injection h3 with h3; omega
          replace ho9 := Kd.R_grown ho9 hg3 (fun _ _ he => by cases he)
          replace ho6 := Kd.R_grown ho6 hg3 (fun _ _ he => by cases he)
          refine hK.out _ _ trivial (fun hHeld => ?_)
          clear hK K
          refine norm_ (a' := ?_) ?_ ?_
          rotate_left
          · show Act.put _ (some 31) _ = _
            simp only [Act.put, List.setIfInBounds_toArray, List.set_cons_zero, List.set_cons_succ]
            rfl
          refine one_ (i := 11) (N := some 39) #[true, true, true, true, true, true, true, true, true, true, true, true, true, false, false, false] rfl rfl (by kernel_rfl) (by decide) (fun K hK => ?_)
          refine Kd.R_make_step k56 (w0 := w) w.heap.size 56 (by rfl) rfl 35 (.tmp 38) (.tmp 38) rfl M (by rfl) (by rfl) Tryd.underlying35 (.agg #[.int .i64 0, .int .i64 0, .int .u8 0]) 24 info56 rfl (by decide) (by decide) z56 (ok := fun _ => True) (okp := fun _ => True) ?_ (fun _ hk => hk) trivial (by have := HSZ.out; omega) (by have := HSZ.out; omega) hb3 (below_size hb3) ?_
          · exact k56_mkM _ _ _ _
          intro v11 w4 ho11 hb4 hg4 ha11
          replace ho9 := Kd.R_grown ho9 hg4 (fun _ _ he => by cases he)
          replace ho6 := Kd.R_grown ho6 hg4 (fun _ _ he => by cases he)
          replace ho3 := Kd.R_grown ho3 hg4 (fun _ _ he => by cases he)
          refine hK.out _ _ trivial (fun hHeld => ?_)
          clear hK K
          refine norm_ (a' := ?_) ?_ ?_
          rotate_left
          · show Act.put _ (some 39) _ = _
            simp only [Act.put, List.setIfInBounds_toArray, List.set_cons_zero, List.set_cons_succ]
            rfl
          exact norm_ (by simp only [putAll, Act.put, List.setIfInBounds_toArray, List.set_cons_zero, List.set_cons_succ]) (hCont (v3, v6, v9, v11) _ ⟨ho3, ho6, ho9, ho11, hb4, (fun b h1 h2 => ne6_3 b h2 h1), (fun b h1 h2 => ne9_3 b h2 h1), (fun b h1 h2 => ne9_6 b h2 h1), ⟨ha11.choose, ha11.choose_spec.1⟩⟩)
        · skip
          refine Kd.R_make_step k56 (w0 := w) w.heap.size 56 (by rfl) rfl 35 (.tmp 38) (.tmp 38) rfl M (by rfl) (by rfl) Tryd.underlying35 (.agg #[.int .i64 0, .int .i64 0, .int .u8 0]) 24 info56 rfl (by decide) (by decide) z56 (ok := fun _ => True) (okp := fun _ => True) ?_ (fun _ hk => hk) trivial (by have := HSZ.out; omega) (by have := HSZ.out; omega) hb2 (below_size hb2) ?_
          · exact k56_mkM _ _ _ _
          intro v11 w3 ho11 hb3 hg3 ha11
          replace ho9 := Kd.R_grown ho9 hg3 (fun _ _ he => by cases he)
          replace ho6 := Kd.R_grown ho6 hg3 (fun _ _ he => by cases he)
          refine hK.out _ _ trivial (fun hHeld => ?_)
          clear hK K
          refine norm_ (a' := ?_) ?_ ?_
          rotate_left
          · show Act.put _ (some 39) _ = _
            simp only [Act.put, List.setIfInBounds_toArray, List.set_cons_zero, List.set_cons_succ]
            rfl
          refine one_ (i := 3) (N := some 31) #[true, true, true, true, true, true, true, true, true, true, true, true, true, false, false, false] rfl rfl (by kernel_rfl) (by decide) (fun K hK => ?_)
          refine Kd.R_make_step (Kd.int .i64) (w0 := w) w.heap.size 3 (by rfl) rfl 36 (.tmp 30) (.tmp 30) rfl (W + 1) (by rfl) (by rfl) Tryd.underlying36 (.int .i64 0) 8 info3 rfl (by decide) (by decide) 0 (ok := fun _ => True) (okp := fun _ => True) ?_ (fun _ hk => hk) trivial (by have := HSZ.out; omega) (by have := HSZ.out; omega) hb3 (below_size hb3) ?_
          · exact (show Kd.M (Kd.int .i64) _ _ _ _ [_] from rfl)
          intro v3 w4 ho3 hb4 hg4 ha3
          have ne9_3 : ∀ b, v9.ownBlock = some b → v3.ownBlock ≠ some b := fun b h1 h2 => by obtain ⟨c, h3, h4⟩ := ha3; have h5 := Kd.R_lt ho9 b h1; rw [h2] at h3; injection h3 with h3; omega
          have ne6_3 : ∀ b, v6.ownBlock = some b → v3.ownBlock ≠ some b := fun b h1 h2 => by obtain ⟨c, h3, h4⟩ := ha3; have h5 := Kd.R_lt ho6 b h1; rw [h2] at h3; injection h3 with h3; omega
          replace ho9 := Kd.R_grown ho9 hg4 (fun _ _ he => by cases he)
          replace ho6 := Kd.R_grown ho6 hg4 (fun _ _ he => by cases he)
          replace ho11 := Kd.R_grown ho11 hg4 (fun _ _ he => by cases he)
          refine hK.out _ _ trivial (fun hHeld => ?_)
          clear hK K
          refine norm_ (a' := ?_) ?_ ?_
          rotate_left
          · show Act.put _ (some 31) _ = _
            simp only [Act.put, List.setIfInBounds_toArray, List.set_cons_zero, List.set_cons_succ]
            rfl
          exact norm_ (by simp only [putAll, Act.put, List.setIfInBounds_toArray, List.set_cons_zero, List.set_cons_succ]) (hCont (v3, v6, v9, v11) _ ⟨ho3, ho6, ho9, ho11, hb4, (fun b h1 h2 => ne6_3 b h2 h1), (fun b h1 h2 => ne9_3 b h2 h1), (fun b h1 h2 => ne9_6 b h2 h1), ⟨ha11.choose, ha11.choose_spec.1⟩⟩)
      · skip
        refine Kd.R_make_step k56 (w0 := w) w.heap.size 56 (by rfl) rfl 35 (.tmp 38) (.tmp 38) rfl M (by rfl) (by rfl) Tryd.underlying35 (.agg #[.int .i64 0, .int .i64 0, .int .u8 0]) 24 info56 rfl (by decide) (by decide) z56 (ok := fun _ => True) (okp := fun _ => True) ?_ (fun _ hk => hk) trivial (by have := HSZ.out; omega) (by have := HSZ.out; omega) hb1 (below_size hb1) ?_
        · exact k56_mkM _ _ _ _
        intro v11 w2 ho11 hb2 hg2 ha11
        replace ho9 := Kd.R_grown ho9 hg2 (fun _ _ he => by cases he)
        refine hK.out _ _ trivial (fun hHeld => ?_)
        clear hK K
        refine norm_ (a' := ?_) ?_ ?_
        rotate_left
        · show Act.put _ (some 39) _ = _
          simp only [Act.put, List.setIfInBounds_toArray, List.set_cons_zero, List.set_cons_succ]
          rfl
        refine two_ (i := 3) (j := 6) (Ni := some 31) (Nj := some 34) #[true, true, true, true, true, true, false, true, true, true, true, true, true, false, false, false] #[true, true, true, false, true, true, true, true, true, true, true, true, true, false, false, false] rfl rfl rfl rfl (by kernel_rfl) (by decide) (by decide) (fun K hK => ?_) (fun K hK => ?_)
        · skip
          refine Kd.R_make_step (Kd.int .i64) (w0 := w) w.heap.size 3 (by rfl) rfl 36 (.tmp 30) (.tmp 30) rfl (W + 1) (by rfl) (by rfl) Tryd.underlying36 (.int .i64 0) 8 info3 rfl (by decide) (by decide) 0 (ok := fun _ => True) (okp := fun _ => True) ?_ (fun _ hk => hk) trivial (by have := HSZ.out; omega) (by have := HSZ.out; omega) hb2 (below_size hb2) ?_
          · exact (show Kd.M (Kd.int .i64) _ _ _ _ [_] from rfl)
          intro v3 w3 ho3 hb3 hg3 ha3
          have ne9_3 : ∀ b, v9.ownBlock = some b → v3.ownBlock ≠ some b := fun b h1 h2 => by obtain ⟨c, h3, h4⟩ := ha3; have h5 := Kd.R_lt ho9 b h1; rw [h2] at h3; injection h3 with h3; omega
          replace ho9 := Kd.R_grown ho9 hg3 (fun _ _ he => by cases he)
          replace ho11 := Kd.R_grown ho11 hg3 (fun _ _ he => by cases he)
          refine hK.out _ _ trivial (fun hHeld => ?_)
          clear hK K
          refine norm_ (a' := ?_) ?_ ?_
          rotate_left
          · show Act.put _ (some 31) _ = _
            simp only [Act.put, List.setIfInBounds_toArray, List.set_cons_zero, List.set_cons_succ]
            rfl
          refine one_ (i := 6) (N := some 34) #[true, true, true, true, true, true, true, true, true, true, true, true, true, false, false, false] rfl rfl (by kernel_rfl) (by decide) (fun K hK => ?_)
          refine Kd.R_make_step (Kd.int .i64) (w0 := w) w.heap.size 3 (by rfl) rfl 36 (.tmp 33) (.tmp 33) rfl (W + 1) (by rfl) (by rfl) Tryd.underlying36 (.int .i64 0) 8 info3 rfl (by decide) (by decide) 0 (ok := fun _ => True) (okp := fun _ => True) ?_ (fun _ hk => hk) trivial (by have := HSZ.out; omega) (by have := HSZ.out; omega) hb3 (below_size hb3) ?_
          · exact (show Kd.M (Kd.int .i64) _ _ _ _ [_] from rfl)
          intro v6 w4 ho6 hb4 hg4 ha6
          have ne9_6 : ∀ b, v9.ownBlock = some b → v6.ownBlock ≠ some b := fun b h1 h2 => by obtain ⟨c, h3, h4⟩ := ha6; have h5 := Kd.R_lt ho9 b h1; rw [h2] at h3; injection h3 with h3; omega
          have ne3_6 : ∀ b, v3.ownBlock = some b → v6.ownBlock ≠ some b := fun b h1 h2 => by obtain ⟨c, h3, h4⟩ := ha6; have h5 := Kd.R_lt ho3 b h1; rw [h2] at h3; injection h3 with h3; omega
          replace ho9 := Kd.R_grown ho9 hg4 (fun _ _ he => by cases he)
          replace ho11 := Kd.R_grown ho11 hg4 (fun _ _ he => by cases he)
          replace ho3 := Kd.R_grown ho3 hg4 (fun _ _ he => by cases he)
          refine hK.out _ _ trivial (fun hHeld => ?_)
          clear hK K
          refine norm_ (a' := ?_) ?_ ?_
          rotate_left
          · show Act.put _ (some 34) _ = _
            simp only [Act.put, List.setIfInBounds_toArray, List.set_cons_zero, List.set_cons_succ]
            rfl
          exact norm_ (by simp only [putAll, Act.put, List.setIfInBounds_toArray, List.set_cons_zero, List.set_cons_succ]) (hCont (v3, v6, v9, v11) _ ⟨ho3, ho6, ho9, ho11, hb4, ne3_6, (fun b h1 h2 => ne9_3 b h2 h1), (fun b h1 h2 => ne9_6 b h2 h1), ⟨ha11.choose, ha11.choose_spec.1⟩⟩)
        · skip
          refine Kd.R_make_step (Kd.int .i64) (w0 := w) w.heap.size 3 (by rfl) rfl 36 (.tmp 33) (.tmp 33) rfl (W + 1) (by rfl) (by rfl) Tryd.underlying36 (.int .i64 0) 8 info3 rfl (by decide) (by decide) 0 (ok := fun _ => True) (okp := fun _ => True) ?_ (fun _ hk => hk) trivial (by have := HSZ.out; omega) (by have := HSZ.out; omega) hb2 (below_size hb2) ?_
          · exact (show Kd.M (Kd.int .i64) _ _ _ _ [_] from rfl)
          intro v6 w3 ho6 hb3 hg3 ha6
          have ne9_6 : ∀ b, v9.ownBlock = some b → v6.ownBlock ≠ some b := fun b h1 h2 => by obtain ⟨c, h3, h4⟩ := ha6; have h5 := Kd.R_lt ho9 b h1; rw [h2] at h3; injection h3 with h3; omega
          replace ho9 := Kd.R_grown ho9 hg3 (fun _ _ he => by cases he)
          replace ho11 := Kd.R_grown ho11 hg3 (fun _ _ he => by cases he)
          refine hK.out _ _ trivial (fun hHeld => ?_)
          clear hK K
          refine norm_ (a' := ?_) ?_ ?_
          rotate_left
          · show Act.put _ (some 34) _ = _
            simp only [Act.put, List.setIfInBounds_toArray, List.set_cons_zero, List.set_cons_succ]
            rfl
          refine one_ (i := 3) (N := some 31) #[true, true, true, true, true, true, true, true, true, true, true, true, true, false, false, false] rfl rfl (by kernel_rfl) (by decide) (fun K hK => ?_)
          refine Kd.R_make_step (Kd.int .i64) (w0 := w) w.heap.size 3 (by rfl) rfl 36 (.tmp 30) (.tmp 30) rfl (W + 1) (by rfl) (by rfl) Tryd.underlying36 (.int .i64 0) 8 info3 rfl (by decide) (by decide) 0 (ok := fun _ => True) (okp := fun _ => True) ?_ (fun _ hk => hk) trivial (by have := HSZ.out; omega) (by have := HSZ.out; omega) hb3 (below_size hb3) ?_
          · exact (show Kd.M (Kd.int .i64) _ _ _ _ [_] from rfl)
          intro v3 w4 ho3 hb4 hg4 ha3
          have ne9_3 : ∀ b, v9.ownBlock = some b → v3.ownBlock ≠ some b := fun b h1 h2 => by obtain ⟨c, h3, h4⟩ := ha3; have h5 := Kd.R_lt ho9 b h1; rw [h2] at h3; injection h3 with h3; omega
          have ne6_3 : ∀ b, v6.ownBlock = some b → v3.ownBlock ≠ some b := fun b h1 h2 => by obtain ⟨c, h3, h4⟩ := ha3; have h5 := Kd.R_lt ho6 b h1; rw [h2] at h3; injection h3 with h3; omega
          replace ho9 := Kd.R_grown ho9 hg4 (fun _ _ he => by cases he)
          replace ho11 := Kd.R_grown ho11 hg4 (fun _ _ he => by cases he)
          replace ho6 := Kd.R_grown ho6 hg4 (fun _ _ he => by cases he)
          refine hK.out _ _ trivial (fun hHeld => ?_)
          clear hK K
          refine norm_ (a' := ?_) ?_ ?_
          rotate_left
          · show Act.put _ (some 31) _ = _
            simp only [Act.put, List.setIfInBounds_toArray, List.set_cons_zero, List.set_cons_succ]
            rfl
          exact norm_ (by simp only [putAll, Act.put, List.setIfInBounds_toArray, List.set_cons_zero, List.set_cons_succ]) (hCont (v3, v6, v9, v11) _ ⟨ho3, ho6, ho9, ho11, hb4, (fun b h1 h2 => ne6_3 b h2 h1), (fun b h1 h2 => ne9_3 b h2 h1), (fun b h1 h2 => ne9_6 b h2 h1), ⟨ha11.choose, ha11.choose_spec.1⟩⟩)
    · skip
      refine Kd.R_make_step k56 (w0 := w) w.heap.size 56 (by rfl) rfl 35 (.tmp 38) (.tmp 38) rfl M (by rfl) (by rfl) Tryd.underlying35 (.agg #[.int .i64 0, .int .i64 0, .int .u8 0]) 24 info56 rfl (by decide) (by decide) z56 (ok := fun _ => True) (okp := fun _ => True) ?_ (fun _ hk => hk) trivial (by have := HSZ.out; omega) (by have := HSZ.out; omega) hb0 (below_size hb0) ?_
      · exact k56_mkM _ _ _ _
      intro v11 w1 ho11 hb1 hg1 ha11
      refine hK.out _ _ trivial (fun hHeld => ?_)
      clear hK K
      refine norm_ (a' := ?_) ?_ ?_
      rotate_left
      · show Act.put _ (some 39) _ = _
        simp only [Act.put, List.setIfInBounds_toArray, List.set_cons_zero, List.set_cons_succ]
        rfl
      refine three_ (i := 3) (j := 6) (k := 9) (Ni := some 31) (Nj := some 34) (Nk := some 37) #[true, true, true, true, true, true, false, true, true, false, true, true, true, false, false, false] #[true, true, true, false, true, true, true, true, true, false, true, true, true, false, false, false] #[true, true, true, false, true, true, false, true, true, true, true, true, true, false, false, false] rfl rfl rfl rfl rfl rfl (by kernel_rfl) (by decide) (by decide) (by decide) (fun K hK => ?_) (fun K hK => ?_) (fun K hK => ?_)
      · skip
        refine Kd.R_make_step (Kd.int .i64) (w0 := w) w.heap.size 3 (by rfl) rfl 36 (.tmp 30) (.tmp 30) rfl (W + 1) (by rfl) (by rfl) Tryd.underlying36 (.int .i64 0) 8 info3 rfl (by decide) (by decide) 0 (ok := fun _ => True) (okp := fun _ => True) ?_ (fun _ hk => hk) trivial (by have := HSZ.out; omega) (by have := HSZ.out; omega) hb1 (below_size hb1) ?_
        · exact (show Kd.M (Kd.int .i64) _ _ _ _ [_] from rfl)
        intro v3 w2 ho3 hb2 hg2 ha3
        replace ho11 := Kd.R_grown ho11 hg2 (fun _ _ he => by cases he)
        refine hK.out _ _ trivial (fun hHeld => ?_)
        clear hK K
        refine norm_ (a' := ?_) ?_ ?_
        rotate_left
        · show Act.put _ (some 31) _ = _
          simp only [Act.put, List.setIfInBounds_toArray, List.set_cons_zero, List.set_cons_succ]
          rfl
        refine two_ (i := 6) (j := 9) (Ni := some 34) (Nj := some 37) #[true, true, true, true, true, true, true, true, true, false, true, true, true, false, false, false] #[true, true, true, true, true, true, false, true, true, true, true, true, true, false, false, false] rfl rfl rfl rfl (by kernel_rfl) (by decide) (by decide) (fun K hK => ?_) (fun K hK => ?_)
        · skip
          refine Kd.R_make_step (Kd.int .i64) (w0 := w) w.heap.size 3 (by rfl) rfl 36 (.tmp 33) (.tmp 33) rfl (W + 1) (by rfl) (by rfl) Tryd.underlying36 (.int .i64 0) 8 info3 rfl (by decide) (by decide) 0 (ok := fun _ => True) (okp := fun _ => True) ?_ (fun _ hk => hk) trivial (by have := HSZ.out; omega) (by have := HSZ.out; omega) hb2 (below_size hb2) ?_
          · exact (show Kd.M (Kd.int .i64) _ _ _ _ [_] from rfl)
          intro v6 w3 ho6 hb3 hg3 ha6
          have ne3_6 : ∀ b, v3.ownBlock = some b → v6.ownBlock ≠ some b := fun b h1 h2 => by obtain ⟨c, h3, h4⟩ := ha6; have h5 := Kd.R_lt ho3 b h1; rw [h2] at h3; injection h3 with h3; omega
          replace ho11 := Kd.R_grown ho11 hg3 (fun _ _ he => by cases he)
          replace ho3 := Kd.R_grown ho3 hg3 (fun _ _ he => by cases he)
          refine hK.out _ _ trivial (fun hHeld => ?_)
          clear hK K
          refine norm_ (a' := ?_) ?_ ?_
          rotate_left
          · show Act.put _ (some 34) _ = _
            simp only [Act.put, List.setIfInBounds_toArray, List.set_cons_zero, List.set_cons_succ]
            rfl
          refine one_ (i := 9) (N := some 37) #[true, true, true, true, true, true, true, true, true, true, true, true, true, false, false, false] rfl rfl (by kernel_rfl) (by decide) (fun K hK => ?_)
          refine Kd.R_make_step (Kd.int .i64) (w0 := w) w.heap.size 3 (by rfl) rfl 36 (.tmp 36) (.tmp 36) rfl (M + 1) (by rfl) (by rfl) Tryd.underlying36 (.int .i64 0) 8 info3 rfl (by decide) (by decide) 0 (ok := fun _ => True) (okp := fun _ => True) ?_ (fun _ hk => hk) trivial (by have := HSZ.out; omega) (by have := HSZ.out; omega) hb3 (below_size hb3) ?_
          · exact (show Kd.M (Kd.int .i64) _ _ _ _ [_] from rfl)
          intro v9 w4 ho9 hb4 hg4 ha9
          have ne3_9 : ∀ b, v3.ownBlock = some b → v9.ownBlock ≠ some b := fun b h1 h2 => by obtain ⟨c, h3, h4⟩ := ha9; have h5 := Kd.R_lt ho3 b h1; rw [h2] at h3; injection h3 with h3; omega
          have ne6_9 : ∀ b, v6.ownBlock = some b → v9.ownBlock ≠ some b := fun b h1 h2 => by obtain ⟨c, h3, h4⟩ := ha9; have h5 := Kd.R_lt ho6 b h1; rw [h2] at h3; injection h3 with h3; omega
          replace ho11 := Kd.R_grown ho11 hg4 (fun _ _ he => by cases he)
          replace ho3 := Kd.R_grown ho3 hg4 (fun _ _ he => by cases he)
          replace ho6 := Kd.R_grown ho6 hg4 (fun _ _ he => by cases he)
          refine hK.out _ _ trivial (fun hHeld => ?_)
          clear hK K
          refine norm_ (a' := ?_) ?_ ?_
          rotate_left
          · show Act.put _ (some 37) _ = _
            simp only [Act.put, List.setIfInBounds_toArray, List.set_cons_zero, List.set_cons_succ]
            rfl
          exact norm_ (by simp only [putAll, Act.put, List.setIfInBounds_toArray, List.set_cons_zero, List.set_cons_succ]) (hCont (v3, v6, v9, v11) _ ⟨ho3, ho6, ho9, ho11, hb4, ne3_6, ne3_9, ne6_9, ⟨ha11.choose, ha11.choose_spec.1⟩⟩)
        · skip
          refine Kd.R_make_step (Kd.int .i64) (w0 := w) w.heap.size 3 (by rfl) rfl 36 (.tmp 36) (.tmp 36) rfl (M + 1) (by rfl) (by rfl) Tryd.underlying36 (.int .i64 0) 8 info3 rfl (by decide) (by decide) 0 (ok := fun _ => True) (okp := fun _ => True) ?_ (fun _ hk => hk) trivial (by have := HSZ.out; omega) (by have := HSZ.out; omega) hb2 (below_size hb2) ?_
          · exact (show Kd.M (Kd.int .i64) _ _ _ _ [_] from rfl)
          intro v9 w3 ho9 hb3 hg3 ha9
          have ne3_9 : ∀ b, v3.ownBlock = some b → v9.ownBlock ≠ some b := fun b h1 h2 => by obtain ⟨c, h3, h4⟩ := ha9; have h5 := Kd.R_lt ho3 b h1; rw [h2] at h3; injection h3 with h3; omega
          replace ho11 := Kd.R_grown ho11 hg3 (fun _ _ he => by cases he)
          replace ho3 := Kd.R_grown ho3 hg3 (fun _ _ he => by cases he)
          refine hK.out _ _ trivial (fun hHeld => ?_)
          clear hK K
          refine norm_ (a' := ?_) ?_ ?_
          rotate_left
          · show Act.put _ (some 37) _ = _
            simp only [Act.put, List.setIfInBounds_toArray, List.set_cons_zero, List.set_cons_succ]
            rfl
          refine one_ (i := 6) (N := some 34) #[true, true, true, true, true, true, true, true, true, true, true, true, true, false, false, false] rfl rfl (by kernel_rfl) (by decide) (fun K hK => ?_)
          refine Kd.R_make_step (Kd.int .i64) (w0 := w) w.heap.size 3 (by rfl) rfl 36 (.tmp 33) (.tmp 33) rfl (W + 1) (by rfl) (by rfl) Tryd.underlying36 (.int .i64 0) 8 info3 rfl (by decide) (by decide) 0 (ok := fun _ => True) (okp := fun _ => True) ?_ (fun _ hk => hk) trivial (by have := HSZ.out; omega) (by have := HSZ.out; omega) hb3 (below_size hb3) ?_
          · exact (show Kd.M (Kd.int .i64) _ _ _ _ [_] from rfl)
          intro v6 w4 ho6 hb4 hg4 ha6
          have ne3_6 : ∀ b, v3.ownBlock = some b → v6.ownBlock ≠ some b := fun b h1 h2 => by obtain ⟨c, h3, h4⟩ := ha6; have h5 := Kd.R_lt ho3 b h1; rw [h2] at h3; injection h3 with h3; omega
          have ne9_6 : ∀ b, v9.ownBlock = some b → v6.ownBlock ≠ some b := fun b h1 h2 => by obtain ⟨c, h3, h4⟩ := ha6; have h5 := Kd.R_lt ho9 b h1; rw [h2] at h3; injection h3 with h3; omega
          replace ho11 := Kd.R_grown ho11 hg4 (fun _ _ he => by cases he)
          replace ho3 := Kd.R_grown ho3 hg4 (fun _ _ he => by cases he)
          replace ho9 := Kd.R_grown ho9 hg4 (fun _ _ he => by cases he)
          refine hK.out _ _ trivial (fun hHeld => ?_)
          clear hK K
          refine norm_ (a' := ?_) ?_ ?_
          rotate_left
          · show Act.put _ (some 34) _ = _
            simp only [Act.put, List.setIfInBounds_toArray, List.set_cons_zero, List.set_cons_succ]
            rfl
          exact norm_ (by simp only [putAll, Act.put, List.setIfInBounds_toArray, List.set_cons_zero, List.set_cons_succ]) (hCont (v3, v6, v9, v11) _ ⟨ho3, ho6, ho9, ho11, hb4, ne3_6, ne3_9, (fun b h1 h2 => ne9_6 b h2 h1), ⟨ha11.choose, ha11.choose_spec.1⟩⟩)
      · skip
        refine Kd.R_make_step (Kd.int .i64) (w0 := w) w.heap.size 3 (by rfl) rfl 36 (.tmp 33) (.tmp 33) rfl (W + 1) (by rfl) (by rfl) Tryd.underlying36 (.int .i64 0) 8 info3 rfl (by decide) (by decide) 0 (ok := fun _ => True) (okp := fun _ => True) ?_ (fun _ hk => hk) trivial (by have := HSZ.out; omega) (by have := HSZ.out; omega) hb1 (below_size hb1) ?_
        · exact (show Kd.M (Kd.int .i64) _ _ _ _ [_] from rfl)
        intro v6 w2 ho6 hb2 hg2 ha6
        replace ho11 := Kd.R_grown ho11 hg2 (fun _ _ he => by cases he)
        refine hK.out _ _ trivial (fun hHeld => ?_)
        clear hK K
        refine norm_ (a' := ?_) ?_ ?_
        rotate_left
        · show Act.put _ (some 34) _ = _
          simp only [Act.put, List.setIfInBounds_toArray, List.set_cons_zero, List.set_cons_succ]
          rfl
        refine two_ (i := 3) (j := 9) (Ni := some 31) (Nj := some 37) #[true, true, true, true, true, true, true, true, true, false, true, true, true, false, false, false] #[true, true, true, false, true, true, true, true, true, true, true, true, true, false, false, false] rfl rfl rfl rfl (by kernel_rfl) (by decide) (by decide) (fun K hK => ?_) (fun K hK => ?_)
        · skip
          refine Kd.R_make_step (Kd.int .i64) (w0 := w) w.heap.size 3 (by rfl) rfl 36 (.tmp 30) (.tmp 30) rfl (W + 1) (by rfl) (by rfl) Tryd.underlying36 (.int .i64 0) 8 info3 rfl (by decide) (by decide) 0 (ok := fun _ => True) (okp := fun _ => True) ?_ (fun _ hk => hk) trivial (by have := HSZ.out; omega) (by have := HSZ.out; omega) hb2 (below_size hb2) ?_
          · exact (show Kd.M (Kd.int .i64) _ _ _ _ [_] from rfl)
          intro v3 w3 ho3 hb3 hg3 ha3
          have ne6_3 : ∀ b, v6.ownBlock = some b → v3.ownBlock ≠ some b := fun b h1 h2 => by obtain ⟨c, h3, h4⟩ := ha3; have h5 := Kd.R_lt ho6 b h1; rw [h2] at h3; injection h3 with h3; omega
          replace ho11 := Kd.R_grown ho11 hg3 (fun _ _ he => by cases he)
          replace ho6 := Kd.R_grown ho6 hg3 (fun _ _ he => by cases he)
          refine hK.out _ _ trivial (fun hHeld => ?_)
          clear hK K
          refine norm_ (a' := ?_) ?_ ?_
          rotate_left
          · show Act.put _ (some 31) _ = _
            simp only [Act.put, List.setIfInBounds_toArray, List.set_cons_zero, List.set_cons_succ]
            rfl
          refine one_ (i := 9) (N := some 37) #[true, true, true, true, true, true, true, true, true, true, true, true, true, false, false, false] rfl rfl (by kernel_rfl) (by decide) (fun K hK => ?_)
          refine Kd.R_make_step (Kd.int .i64) (w0 := w) w.heap.size 3 (by rfl) rfl 36 (.tmp 36) (.tmp 36) rfl (M + 1) (by rfl) (by rfl) Tryd.underlying36 (.int .i64 0) 8 info3 rfl (by decide) (by decide) 0 (ok := fun _ => True) (okp := fun _ => True) ?_ (fun _ hk => hk) trivial (by have := HSZ.out; omega) (by have := HSZ.out; omega) hb3 (below_size hb3) ?_
          · exact (show Kd.M (Kd.int .i64) _ _ _ _ [_] from rfl)
          intro v9 w4 ho9 hb4 hg4 ha9
          have ne6_9 : ∀ b, v6.ownBlock = some b → v9.ownBlock ≠ some b := fun b h1 h2 => by obtain ⟨c, h3, h4⟩ := ha9; have h5 := Kd.R_lt ho6 b h1; rw [h2] at h3; injection h3 with h3; omega
          have ne3_9 : ∀ b, v3.ownBlock = some b → v9.ownBlock ≠ some b := fun b h1 h2 => by obtain ⟨c, h3, h4⟩ := ha9; have h5 := Kd.R_lt ho3 b h1; rw [h2] at h3; injection h3 with h3; omega
          replace ho11 := Kd.R_grown ho11 hg4 (fun _ _ he => by cases he)
          replace ho6 := Kd.R_grown ho6 hg4 (fun _ _ he => by cases he)
          replace ho3 := Kd.R_grown ho3 hg4 (fun _ _ he => by cases he)
          refine hK.out _ _ trivial (fun hHeld => ?_)
          clear hK K
          refine norm_ (a' := ?_) ?_ ?_
          rotate_left
          · show Act.put _ (some 37) _ = _
            simp only [Act.put, List.setIfInBounds_toArray, List.set_cons_zero, List.set_cons_succ]
            rfl
          exact norm_ (by simp only [putAll, Act.put, List.setIfInBounds_toArray, List.set_cons_zero, List.set_cons_succ]) (hCont (v3, v6, v9, v11) _ ⟨ho3, ho6, ho9, ho11, hb4, (fun b h1 h2 => ne6_3 b h2 h1), ne3_9, ne6_9, ⟨ha11.choose, ha11.choose_spec.1⟩⟩)
        · skip
          refine Kd.R_make_step (Kd.int .i64) (w0 := w) w.heap.size 3 (by rfl) rfl 36 (.tmp 36) (.tmp 36) rfl (M + 1) (by rfl) (by rfl) Tryd.underlying36 (.int .i64 0) 8 info3 rfl (by decide) (by decide) 0 (ok := fun _ => True) (okp := fun _ => True) ?_ (fun _ hk => hk) trivial (by have := HSZ.out; omega) (by have := HSZ.out; omega) hb2 (below_size hb2) ?_
          · exact (show Kd.M (Kd.int .i64) _ _ _ _ [_] from rfl)
          intro v9 w3 ho9 hb3 hg3 ha9
          have ne6_9 : ∀ b, v6.ownBlock = some b → v9.ownBlock ≠ some b := fun b h1 h2 => by obtain ⟨c, h3, h4⟩ := ha9; have h5 := Kd.R_lt ho6 b h1; rw [h2] at h3; injection h3 with h3; omega
          replace ho11 := Kd.R_grown ho11 hg3 (fun _ _ he => by cases he)
          replace ho6 := Kd.R_grown ho6 hg3 (fun _ _ he => by cases he)
          refine hK.out _ _ trivial (fun hHeld => ?_)
          clear hK K
          refine norm_ (a' := ?_) ?_ ?_
          rotate_left
          · show Act.put _ (some 37) _ = _
            simp only [Act.put, List.setIfInBounds_toArray, List.set_cons_zero, List.set_cons_succ]
            rfl
          refine one_ (i := 3) (N := some 31) #[true, true, true, true, true, true, true, true, true, true, true, true, true, false, false, false] rfl rfl (by kernel_rfl) (by decide) (fun K hK => ?_)
          refine Kd.R_make_step (Kd.int .i64) (w0 := w) w.heap.size 3 (by rfl) rfl 36 (.tmp 30) (.tmp 30) rfl (W + 1) (by rfl) (by rfl) Tryd.underlying36 (.int .i64 0) 8 info3 rfl (by decide) (by decide) 0 (ok := fun _ => True) (okp := fun _ => True) ?_ (fun _ hk => hk) trivial (by have := HSZ.out; omega) (by have := HSZ.out; omega) hb3 (below_size hb3) ?_
          · exact (show Kd.M (Kd.int .i64) _ _ _ _ [_] from rfl)
          intro v3 w4 ho3 hb4 hg4 ha3
          have ne6_3 : ∀ b, v6.ownBlock = some b → v3.ownBlock ≠ some b := fun b h1 h2 => by obtain ⟨c, h3, h4⟩ := ha3; have h5 := Kd.R_lt ho6 b h1; rw [h2] at h3; injection h3 with h3; omega
          have ne9_3 : ∀ b, v9.ownBlock = some b → v3.ownBlock ≠ some b := fun b h1 h2 => by obtain ⟨c, h3, h4⟩ := ha3; have h5 := Kd.R_lt ho9 b h1; rw [h2] at h3; injection h3 with h3; omega
          replace ho11 := Kd.R_grown ho11 hg4 (fun _ _ he => by cases he)
          replace ho6 := Kd.R_grown ho6 hg4 (fun _ _ he => by cases he)
          replace ho9 := Kd.R_grown ho9 hg4 (fun _ _ he => by cases he)
          refine hK.out _ _ trivial (fun hHeld => ?_)
          clear hK K
          refine norm_ (a' := ?_) ?_ ?_
          rotate_left
          · show Act.put _ (some 31) _ = _
            simp only [Act.put, List.setIfInBounds_toArray, List.set_cons_zero, List.set_cons_succ]
            rfl
          exact norm_ (by simp only [putAll, Act.put, List.setIfInBounds_toArray, List.set_cons_zero, List.set_cons_succ]) (hCont (v3, v6, v9, v11) _ ⟨ho3, ho6, ho9, ho11, hb4, (fun b h1 h2 => ne6_3 b h2 h1), (fun b h1 h2 => ne9_3 b h2 h1), ne6_9, ⟨ha11.choose, ha11.choose_spec.1⟩⟩)
      · skip
        refine Kd.R_make_step (Kd.int .i64) (w0 := w) w.heap.size 3 (by rfl) rfl 36 (.tmp 36) (.tmp 36) rfl (M + 1) (by rfl) (by rfl) Tryd.underlying36 (.int .i64 0) 8 info3 rfl (by decide) (by decide) 0 (ok := fun _ => True) (okp := fun _ => True) ?_ (fun _ hk => hk) trivial (by have := HSZ.out; omega) (by have := HSZ.out; omega) hb1 (below_size hb1) ?_
        · exact (show Kd.M (Kd.int .i64) _ _ _ _ [_] from rfl)
        intro v9 w2 ho9 hb2 hg2 ha9
        replace ho11 := Kd.R_grown ho11 hg2 (fun _ _ he => by cases he)
        refine hK.out _ _ trivial (fun hHeld => ?_)
        clear hK K
        refine norm_ (a' := ?_) ?_ ?_
        rotate_left
        · show Act.put _ (some 37) _ = _
          simp only [Act.put, List.setIfInBounds_toArray, List.set_cons_zero, List.set_cons_succ]
          rfl
        refine two_ (i := 3) (j := 6) (Ni := some 31) (Nj := some 34) #[true, true, true, true, true, true, false, true, true, true, true, true, true, false, false, false] #[true, true, true, false, true, true, true, true, true, true, true, true, true, false, false, false] rfl rfl rfl rfl (by kernel_rfl) (by decide) (by decide) (fun K hK => ?_) (fun K hK => ?_)
        · skip
          refine Kd.R_make_step (Kd.int .i64) (w0 := w) w.heap.size 3 (by rfl) rfl 36 (.tmp 30) (.tmp 30) rfl (W + 1) (by rfl) (by rfl) Tryd.underlying36 (.int .i64 0) 8 info3 rfl (by decide) (by decide) 0 (ok := fun _ => True) (okp := fun _ => True) ?_ (fun _ hk => hk) trivial (by have := HSZ.out; omega) (by have := HSZ.out; omega) hb2 (below_size hb2) ?_
          · exact (show Kd.M (Kd.int .i64) _ _ _ _ [_] from rfl)
          intro v3 w3 ho3 hb3 hg3 ha3
          have ne9_3 : ∀ b, v9.ownBlock = some b → v3.ownBlock ≠ some b := fun b h1 h2 => by obtain ⟨c, h3, h4⟩ := ha3; have h5 := Kd.R_lt ho9 b h1; rw [h2] at h3; injection h3 with h3; omega
          replace ho11 := Kd.R_grown ho11 hg3 (fun _ _ he => by cases he)
          replace ho9 := Kd.R_grown ho9 hg3 (fun _ _ he => by cases he)
          refine hK.out _ _ trivial (fun hHeld => ?_)
          clear hK K
          refine norm_ (a' := ?_) ?_ ?_
          rotate_left
          · show Act.put _ (some 31) _ = _
            simp only [Act.put, List.setIfInBounds_toArray, List.set_cons_zero, List.set_cons_succ]
            rfl
          refine one_ (i := 6) (N := some 34) #[true, true, true, true, true, true, true, true, true, true, true, true, true, false, false, false] rfl rfl (by kernel_rfl) (by decide) (fun K hK => ?_)
          refine Kd.R_make_step (Kd.int .i64) (w0 := w) w.heap.size 3 (by rfl) rfl 36 (.tmp 33) (.tmp 33) rfl (W + 1) (by rfl) (by rfl) Tryd.underlying36 (.int .i64 0) 8 info3 rfl (by decide) (by decide) 0 (ok := fun _ => True) (okp := fun _ => True) ?_ (fun _ hk => hk) trivial (by have := HSZ.out; omega) (by have := HSZ.out; omega) hb3 (below_size hb3) ?_
          · exact (show Kd.M (Kd.int .i64) _ _ _ _ [_] from rfl)
          intro v6 w4 ho6 hb4 hg4 ha6
          have ne9_6 : ∀ b, v9.ownBlock = some b → v6.ownBlock ≠ some b := fun b h1 h2 => by obtain ⟨c, h3, h4⟩ := ha6; have h5 := Kd.R_lt ho9 b h1; rw [h2] at h3; injection h3 with h3; omega
          have ne3_6 : ∀ b, v3.ownBlock = some b → v6.ownBlock ≠ some b := fun b h1 h2 => by obtain ⟨c, h3, h4⟩ := ha6; have h5 := Kd.R_lt ho3 b h1; rw [h2] at h3; injection h3 with h3; omega
          replace ho11 := Kd.R_grown ho11 hg4 (fun _ _ he => by cases he)
          replace ho9 := Kd.R_grown ho9 hg4 (fun _ _ he => by cases he)
          replace ho3 := Kd.R_grown ho3 hg4 (fun _ _ he => by cases he)
          refine hK.out _ _ trivial (fun hHeld => ?_)
          clear hK K
          refine norm_ (a' := ?_) ?_ ?_
          rotate_left
          · show Act.put _ (some 34) _ = _
            simp only [Act.put, List.setIfInBounds_toArray, List.set_cons_zero, List.set_cons_succ]
            rfl
          exact norm_ (by simp only [putAll, Act.put, List.setIfInBounds_toArray, List.set_cons_zero, List.set_cons_succ]) (hCont (v3, v6, v9, v11) _ ⟨ho3, ho6, ho9, ho11, hb4, ne3_6, (fun b h1 h2 => ne9_3 b h2 h1), (fun b h1 h2 => ne9_6 b h2 h1), ⟨ha11.choose, ha11.choose_spec.1⟩⟩)
        · skip
          refine Kd.R_make_step (Kd.int .i64) (w0 := w) w.heap.size 3 (by rfl) rfl 36 (.tmp 33) (.tmp 33) rfl (W + 1) (by rfl) (by rfl) Tryd.underlying36 (.int .i64 0) 8 info3 rfl (by decide) (by decide) 0 (ok := fun _ => True) (okp := fun _ => True) ?_ (fun _ hk => hk) trivial (by have := HSZ.out; omega) (by have := HSZ.out; omega) hb2 (below_size hb2) ?_
          · exact (show Kd.M (Kd.int .i64) _ _ _ _ [_] from rfl)
          intro v6 w3 ho6 hb3 hg3 ha6
          have ne9_6 : ∀ b, v9.ownBlock = some b → v6.ownBlock ≠ some b := fun b h1 h2 => by obtain ⟨c, h3, h4⟩ := ha6; have h5 := Kd.R_lt ho9 b h1; rw [h2] at h3; injection h3 with h3; omega
          replace ho11 := Kd.R_grown ho11 hg3 (fun _ _ he => by cases he)
          replace ho9 := Kd.R_grown ho9 hg3 (fun _ _ he => by cases he)
          refine hK.out _ _ trivial (fun hHeld => ?_)
          clear hK K
          refine norm_ (a' := ?_) ?_ ?_
          rotate_left
          · show Act.put _ (some 34) _ = _
            simp only [Act.put, List.setIfInBounds_toArray, List.set_cons_zero, List.set_cons_succ]
            rfl
          refine one_ (i := 3) (N := some 31) #[true, true, true, true, true, true, true, true, true, true, true, true, true, false, false, false] rfl rfl (by kernel_rfl) (by decide) (fun K hK => ?_)
          refine Kd.R_make_step (Kd.int .i64) (w0 := w) w.heap.size 3 (by rfl) rfl 36 (.tmp 30) (.tmp 30) rfl (W + 1) (by rfl) (by rfl) Tryd.underlying36 (.int .i64 0) 8 info3 rfl (by decide) (by decide) 0 (ok := fun _ => True) (okp := fun _ => True) ?_ (fun _ hk => hk) trivial (by have := HSZ.out; omega) (by have := HSZ.out; omega) hb3 (below_size hb3) ?_
          · exact (show Kd.M (Kd.int .i64) _ _ _ _ [_] from rfl)
          intro v3 w4 ho3 hb4 hg4 ha3
          have ne9_3 : ∀ b, v9.ownBlock = some b → v3.ownBlock ≠ some b := fun b h1 h2 => by obtain ⟨c, h3, h4⟩ := ha3; have h5 := Kd.R_lt ho9 b h1; rw [h2] at h3; injection h3 with h3; omega
          have ne6_3 : ∀ b, v6.ownBlock = some b → v3.ownBlock ≠ some b := fun b h1 h2 => by obtain ⟨c, h3, h4⟩ := ha3; have h5 := Kd.R_lt ho6 b h1; rw [h2] at h3; injection h3 with h3; omega
          replace ho11 := Kd.R_grown ho11 hg4 (fun _ _ he => by cases he)
          replace ho9 := Kd.R_grown ho9 hg4 (fun _ _ he => by cases he)
          replace ho6 := Kd.R_grown ho6 hg4 (fun _ _ he => by cases he)
          refine hK.out _ _ trivial (fun hHeld => ?_)
          clear hK K
          refine norm_ (a' := ?_) ?_ ?_
          rotate_left
          · show Act.put _ (some 31) _ = _
            simp only [Act.put, List.setIfInBounds_toArray, List.set_cons_zero, List.set_cons_succ]
            rfl
          exact norm_ (by simp only [putAll, Act.put, List.setIfInBounds_toArray, List.set_cons_zero, List.set_cons_succ]) (hCont (v3, v6, v9, v11) _ ⟨ho3, ho6, ho9, ho11, hb4, (fun b h1 h2 => ne6_3 b h2 h1), (fun b h1 h2 => ne9_3 b h2 h1), (fun b h1 h2 => ne9_6 b h2 h1), ⟨ha11.choose, ha11.choose_spec.1⟩⟩)
  rintro ⟨v3, v6, v9, v11⟩ w1 ⟨ho3, ho6, ho9, ho11, hb1, na, nb, nc, hh⟩
  obtain ⟨gD, cap, e3, _, _, _⟩ := Kd.R_form ho3 (by rw [List.length_replicate]; have := HSZ.out; omega)
  obtain ⟨gu, cU, e6, _, _, _⟩ := Kd.R_form ho6 (by rw [List.length_replicate]; have := HSZ.out; omega)
  obtain ⟨gr, cR, e9, _, _, _⟩ := Kd.R_form ho9 (by rw [List.length_replicate]; have := HSZ.out; omega)
  obtain ⟨gt, cT, e11⟩ := R_heads ho11 hh
  rw [List.length_replicate] at e3 e6 e9 e11
  simp only at e3 e6 e9 e11 ho3 ho6 ho9 ho11 na nb nc
  subst e3 e6 e9 e11
  have hcells : ∀ (v : Value), v = v := fun _ => rfl
  refine norm_ (a' := ?_) ?_ ?_
  rotate_left
  · simp only [putAll, Act.put, List.setIfInBounds_toArray, List.set_cons_zero, List.set_cons_succ]
    rfl
  refine pure_ (i := 13) (N := some 41) (v := .agg (gcells (.slice A0 n c0) (.slice (some ⟨gD, 0, none⟩) (W + 1).toNat cap) (.slice (some ⟨gu, 0, none⟩) (W + 1).toNat cU) (.slice (some ⟨gr, 0, none⟩) (M + 1).toNat cR) (.slice (some ⟨gt, 0, none⟩) M.toNat cT) (.slice A2 286 c2) (fun _ => 0))) (a' := ?_) #[true, true, true, true, true, true, true, true, true, true, true, true, true, true, false, false] rfl rfl (by kernel_rfl) (fun _ _ _ h => h) (Or.inl ⟨by rfl, ?_⟩) ?_ ?_
  · intro w'
    kernel_rfl
  rotate_left
  · simp only [Act.put, List.setIfInBounds_toArray, List.set_cons_zero, List.set_cons_succ]
    rfl
  refine one_ (i := 14) (N := some 42) #[true, true, true, true, true, true, true, true, true, true, true, true, true, true, true, false] rfl rfl (by kernel_rfl) (by decide) (fun K hK => ?_)
  refine value_ (w1 := w1.alloc (.cells (gcells (.slice A0 n c0) (.slice (some ⟨gD, 0, none⟩) (W + 1).toNat cap) (.slice (some ⟨gu, 0, none⟩) (W + 1).toNat cU) (.slice (some ⟨gr, 0, none⟩) (M + 1).toNat cR) (.slice (some ⟨gt, 0, none⟩) M.toNat cT) (.slice A2 286 c2) (fun _ => 0)) 79 (0, 0))) (v := .pointer (some ⟨w1.heap.size, 0, none⟩)) (by rfl) rfl ?_ ?_
  · kernel_rfl
  refine hK.out _ _ trivial (fun hHeld => ?_)
  clear hK K
  refine norm_ (a' := ?_) ?_ ?_
  rotate_left
  · show Act.put _ (some 42) _ = _
    simp only [Act.put, List.setIfInBounds_toArray, List.set_cons_zero, List.set_cons_succ]
    rfl
  refine pure_ (i := 15) (N := some 10) (v := ?_) (a' := ?_) #[true, true, true, true, true, true, true, true, true, true, true, true, true, true, true, true] rfl rfl (by kernel_rfl) (fun _ _ _ h => h) (Or.inl ⟨by rfl, ?_⟩) ?_ ?_
  rotate_left
  · intro w'
    go_simp
    with_reducible rfl
  rotate_left
  · simp only [Act.put, List.setIfInBounds_toArray, List.set_cons_zero, List.set_cons_succ]
    rfl
  refine done_ (by kernel_rfl) ?_
  have mn : (M + 1).toNat = n + 1 ∧ M.toNat = n := by have := HM.out; omega
  have HNS0 : NS w (w1.alloc (.cells (gcells (.slice A0 n c0) (.slice (some ⟨gD, 0, none⟩) (W + 1).toNat cap) (.slice (some ⟨gu, 0, none⟩) (W + 1).toNat cU) (.slice (some ⟨gr, 0, none⟩) (M + 1).toNat cR) (.slice (some ⟨gt, 0, none⟩) M.toNat cT) (.slice A2 286 c2) (fun _ => 0)) 79 (0, 0)))
      (W + 1).toNat n gD gu gr gt w1.heap.size cap cU cR cT (.slice A0 n c0) (.slice A2 286 c2) (fun _ => 0) (List.replicate (W + 1).toNat 0) (List.replicate (W + 1).toNat 0) (List.replicate (n + 1) 0) (List.replicate n z56) := by
    rw [mn.1] at ho9 nb nc ⊢
    rw [mn.2] at ho11 ⊢
    have hb2 := below_alloc (Below.refl w1.heap.size w1) (.cells (gcells (.slice A0 n c0) (.slice (some ⟨gD, 0, none⟩) (W + 1).toNat cap) (.slice (some ⟨gu, 0, none⟩) (W + 1).toNat cU) (.slice (some ⟨gr, 0, none⟩) (n + 1) cR) (.slice (some ⟨gt, 0, none⟩) n cT) (.slice A2 286 c2) (fun _ => 0)) 79 (0, 0))
    have r3 := Kd.R_below (R_mineI ho3) hb2
    have r6 := Kd.R_below (R_mineI ho6) hb2
    have r9 := Kd.R_below (R_mineI ho9) hb2
    have r11 : Kd.R k56 56 _ w.heap.size (fun k => k = gt) (.slice (some ⟨gt, 0, none⟩) n cT) (List.replicate n z56) := Kd.R_below (R_only ho11) hb2
    exact ⟨blk_new _ _, r3, ⟨r6, r9, r11, Kept.of_below (below_step hb1 hb2) _, fun he => nc gu rfl (by rw [he]; rfl), ⟨(below_step hb1 hb2).os, (below_step hb1 hb2).tape, (below_step hb1 hb2).output⟩⟩, below_step hb1 hb2, fun he => na gD rfl (by rw [he]; rfl), fun he => nb gD rfl (by rw [he]; rfl), below_size hb1⟩
  have HNS := Aside0.mk HNS0
  clear ho3 ho6 ho9 ho11 na nb nc hh hb1 HNS0 hcells hHeld hb0 hw1 hw2 mn
  generalize w1.alloc (.cells (gcells (.slice A0 n c0) (.slice (some ⟨gD, 0, none⟩) (W + 1).toNat cap) (.slice (some ⟨gu, 0, none⟩) (W + 1).toNat cU) (.slice (some ⟨gr, 0, none⟩) (M + 1).toNat cR) (.slice (some ⟨gt, 0, none⟩) M.toNat cT) (.slice A2 286 c2) (fun _ => 0)) 79 (0, 0)) = w2 at HNS ⊢
  generalize w1.heap.size = G at HNS ⊢
  go_wp2_with fail
  clear hM
  obtain ⟨nW, hnW⟩ : ∃ x, (W + 1).toNat = x := ⟨_, rfl⟩
  rw [hnW] at HNS ⊢
  have HNW := Aside0.mk (show (W + 1).toNat = nW ∧ (nW : Int) = W + 1 by have := HSZ.out; omega)
  clear hnW
  go_loopg [11] 257 (fun kq v11 w' => ∃ m : Int, v11 = .int .i64 m ∧ Aside0 (3 ≤ m ∧ m ≤ 259 ∧ kq = (259 - m).toNat + 1) ∧ Aside0 (NS w w' nW n gD gu gr gt G cap cU cR cT (.slice A0 n c0) (.slice A2 286 c2) (Lf lit m) (List.replicate nW 0) (List.replicate nW 0) (List.replicate (n + 1) 0) (List.replicate n z56)))
  case atStart =>
    refine ⟨3, rfl, ⟨⟨by omega, by omega, by omega⟩⟩, ⟨?_⟩⟩
    have e : Lf lit 3 = fun _ => 0 := by funext j; unfold Lf; rw [if_neg (by omega)]
    rw [e]
    exact HNS.out
  case round =>
    clear HNS
    obtain ⟨m, rfl, HT, HS⟩ := hrel
    cases gk with
    | zero => exact absurd HT.out.2.2 (by omega)
    | succ k1 =>
      have m0 : 0 ≤ m := by have := HT.out; omega
      by_cases c1 : m ≤ 258
      · have c1b : decide (m ≤ 258) = true := decide_eq_true c1
        obtain ⟨s, b, x, hs, s1, s2⟩ := Go.Proofs.YtpndhoefmepfdaaDoor.SqSym.len_sym0 m (by have := HT.out; omega) c1 200 (Nat.le_refl _)
        have HLS := Aside0.mk (show lenS m = s by unfold lenS; rw [hs]; rfl)
        have HSY := Aside0.mk hs
        have s3 : 0 ≤ s := by omega
        have s4 : s < 286 := by omega
        have m1 : m < 259 := by omega
        have HTT := Aside0.mk (show 3 ≤ m ∧ 3 ≤ m + 1 ∧ m + 1 ≤ 259 ∧ k1 = (259 - (m + 1)).toNat + 1 by have := HT.out; omega)
        have HW := Aside0.mk (show wrap64 (m + 1) = m + 1 by unfold wrap64; omega)
        clear hs HT s1 s2
        replace m0 := eq_true m0
        go_wp2_with fail
        go_at_call 34
        refine (block_LengthSymbol.calls 200 m s b x 0 _ (Tabs.below HG.out HS.out.hb) HSY.out).mono ?_
        rintro e w3 ⟨rfl, ⟨q, rfl⟩⟩
        go_upto_region 8 with fail
        have HS3 := Aside0.mk (NS.drew (HS.out.drewN q))
        clear HS
        refine still_tail_drew 9 (by kernel_rfl) (by kernel_rfl) ?_
        generalize (wr.drewN q).drew = w4 at HS3 ⊢
        obtain ⟨al, e2, y2⟩ := Kd.at_int (Kd.C_below H2.out HS3.out.hb) s s3 s4
        cases e2
        obtain ⟨v, hv⟩ : ∃ v, rd lit s = v := ⟨_, rfl⟩
        rw [hv] at y2
        have HV := Aside0.mk hv
        have zL : w4.cell? ⟨G, 1 + m.toNat, none⟩ = some (.int .i64 (Lf lit m m)) := (blk_cell HS3.out.hg _).trans (g_len _ _ _ _ _ _ _ m (of_eq_true m0) m1)
        have zF := blk_frozen HS3.out.hg (1 + m.toNat)
        clear hv
        simp only [List.take_succ_cons, List.take_zero, List.drop_succ_cons, List.drop_zero]
        repeat still_step
        refine wpStill_nil ?_
        go_wp2_with fail
        go_roundg k1
        case measure => omega
        case rel =>
          refine ⟨wrap64 (m + 1), rfl, ⟨by rw [HW.out]; exact HTT.out.2⟩, ⟨?_⟩⟩
          have h := HS3.out.putG m v (of_eq_true m0) m1
          rw [← HV.out, Lf_put lit m s HTT.out.1 HLS.out] at h
          rw [HW.out, ← HV.out]
          exact h
      · have c1b : decide (m ≤ 258) = false := decide_eq_false c1
        obtain rfl : m = 259 := by have := HT.out; omega
        clear HT c1 m0
        go_wp2_with fail
        go_loopg [16] nW (fun kq v16 w' => ∃ (d : Int) (D : List Int), v16 = .int .i64 d ∧ Aside0 (1 ≤ d ∧ d ≤ W + 1 ∧ kq = (W + 1 - d).toNat + 1 ∧ D.length = nW ∧ ∀ j, 0 ≤ j → j < d → rd D j = dlF dist j) ∧ Aside0 (NS w w' nW n gD gu gr gt G cap cU cR cT (.slice A0 n c0) (.slice A2 286 c2) (Lf lit 259) D (List.replicate nW 0) (List.replicate (n + 1) 0) (List.replicate n z56)))
        case atStart => exact ⟨1, _, rfl, ⟨⟨by omega, by have := HSZ.out; omega, by have := HNW.out; have := HSZ.out; omega, List.length_replicate, fun j h0 h1 => by have e : j = 0 := (by omega); rw [e, Go.Proofs.YtpndhoefmepfdaaDoor.CheapPure.rd_zeros]; rfl⟩⟩, HS⟩
        case round =>
          clear HS
          obtain ⟨d, D, rfl, HT, HS⟩ := hrel
          cases gk with
          | zero => exact absurd HT.out.2.2.1 (by omega)
          | succ k2 =>
            by_cases c2 : d ≤ W
            · have c2b : decide (d ≤ W) = true := decide_eq_true c2
              obtain ⟨s, b, x, hs, s1, s2⟩ := Go.Proofs.YtpndhoefmepfdaaDoor.SqSym.dist_sym0 d HT.out.1 (by have := HSZ.out; omega) 200 (Nat.le_refl _)
              have HLS := Aside0.mk (show distS d = s by unfold distS; rw [hs]; rfl)
              have HSY := Aside0.mk hs
              have s4 : s < 30 := by omega
              have d0 : 0 ≤ d := by have := HT.out; omega
              have d1 : d < W + 1 := by omega
              have d2 : d < (nW : Int) := by have := HNW.out; omega
              have HW := Aside0.mk (show wrap64 (d + 1) = d + 1 by have := HSZ.out; unfold wrap64; omega)
              have HTT := Aside0.mk (show 1 ≤ d + 1 ∧ d + 1 ≤ W + 1 ∧ k2 = (W + 1 - (d + 1)).toNat + 1 by have := HT.out; omega)
              clear hs s2
              go_wp2_with fail
              go_at_call 35
              refine (block_DistSymbol.calls 200 d s b x 0 _ (Tabs.below HG.out HS.out.hb) HSY.out).mono ?_
              rintro e w3 ⟨rfl, ⟨q, rfl⟩⟩
              go_upto_region 13 with fail
              have HS3 := Aside0.mk (NS.drew (HS.out.drewN q))
              clear HS
              refine still_tail_drew 10 (by kernel_rfl) (by kernel_rfl) ?_
              generalize (wr.drewN q).drew = w4 at HS3 ⊢
              obtain ⟨al, e2, y2⟩ := Kd.at_int (Kd.C_below H3.out HS3.out.hb) s s1 s4
              cases e2
              obtain ⟨v, hv⟩ : ∃ v, rd dist s = v := ⟨_, rfl⟩
              rw [hv] at y2
              have HV := Aside0.mk hv
              have z260 : w4.cell? ⟨G, 260, none⟩ = some (.slice (some ⟨gD, 0, none⟩) nW cap) := (blk_cell HS3.out.hg 260).trans (g_tail _ _ _ _ _ _ _ 0 (by omega))
              have y4 := (Kd.R_celln (0 : Int) HS3.out.hd d d0 d2).1
              have y5 := (Kd.R_celln (0 : Int) HS3.out.hd d d0 d2).2
              clear hv
              simp only [List.take_succ_cons, List.take_zero, List.drop_succ_cons, List.drop_zero]
              repeat still_step
              refine wpStill_nil ?_
              go_wp2_with fail
              go_roundg k2
              case measure => omega
              case rel =>
                refine ⟨wrap64 (d + 1), D.set d.toNat v, rfl, ⟨by
                  rw [HW.out]
                  have h := HT.out
                  refine ⟨HTT.out.1, HTT.out.2.1, HTT.out.2.2, by rw [List.length_set]; exact h.2.2.2.1, fun j h0 h1 => ?_⟩
                  by_cases hj : j = d
                  · subst hj
                    unfold dlF
                    rw [if_pos h.1, HLS.out, HV.out]
                    unfold rd
                    rw [List.getD_eq_getElem?_getD, List.getElem?_set, if_pos rfl, if_pos (by rw [h.2.2.2.1]; have := HNW.out; omega)]
                    rfl
                  · rw [← h.2.2.2.2 j h0 (by omega)]
                    unfold rd
                    rw [List.getD_eq_getElem?_getD, List.getElem?_set, List.getD_eq_getElem?_getD, if_neg (by omega)]⟩, ⟨HS3.out.putD d v⟩⟩
            · have c2b : decide (d ≤ W) = false := decide_eq_false c2
              have HE := Aside0.mk (show D = Dl dist W from Dl_of (by rw [HNW.out.1]; exact HT.out.2.2.2.1) (fun j h0 h1 => HT.out.2.2.2.2 j h0 (by omega)))
              clear HT
              go_wp2_with fail
              go_ret
              exact ⟨G, gD, gu, gr, gt, cap, cU, cR, cT, rfl, by rw [HNW.out.1, ← HE.out]; exact HS.out⟩
end Go.Proofs.YtpndhoefmepfdaaDoor.PSq
