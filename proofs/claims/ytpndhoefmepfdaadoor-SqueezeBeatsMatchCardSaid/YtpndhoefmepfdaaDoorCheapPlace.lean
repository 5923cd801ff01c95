/- squeeze.search.place: the walk. -/
import Derived.Test.YtpndhoefmepfdaaDoorCheapReach
import Derived.Test.YtpndhoefmepfdaaDoorWKept
namespace Go.Proofs.YtpndhoefmepfdaaDoor.PSq
open Go.RowKit Go.Proofs.YtpndhoefmepfdaaDoorW.PrintWords Go.Proofs.YtpndhoefmepfdaaDoorW.PrintLast Go.Proofs.YtpndhoefmepfdaaDoorW.PrintMore
set_option linter.unusedVariables false
/-- The three rows that place writes. -/
def Own3 (gu gr gt : Nat) (k : Nat) : Prop := k = gu ∨ k = gr ∨ k = gt
/-- The three rows, and what else stands as it stood. -/
structure PS (w W : World) (base gu gr gt n N cU cR cT : Nat) (U R : List Int) (T : List S56) : Prop where
  hu : Kd.R (Kd.int .i64) 3 W base (fun k => k = gu) (.slice (some ⟨gu, 0, none⟩) n cU) U
  hr : Kd.R (Kd.int .i64) 3 W base (fun k => k = gr) (.slice (some ⟨gr, 0, none⟩) (N + 1) cR) R
  ht : Kd.R k56 56 W base (fun k => k = gt) (.slice (some ⟨gt, 0, none⟩) N cT) T
  hk : Kept w W (Own3 gu gr gt)
  ur : gu ≠ gr
  ho : W.os = w.os ∧ W.tape = w.tape ∧ W.output = w.output
section
variable {w W W1 : World} {base gu gr gt n N cU cR cT : Nat} {U R : List Int} {T : List S56}
theorem PS.below (h : PS w W base gu gr gt n N cU cR cT U R T) (hb : Below W.heap.size W W1) : PS w W1 base gu gr gt n N cU cR cT U R T := ⟨Kd.R_below h.hu hb, Kd.R_below h.hr hb, Kd.R_below h.ht hb, h.hk.below hb, h.ur, ⟨hb.os.trans h.ho.1, hb.tape.trans h.ho.2.1, hb.output.trans h.ho.2.2⟩⟩
theorem PS.drew (h : PS w W base gu gr gt n N cU cR cT U R T) : PS w W.drew base gu gr gt n N cU cR cT U R T := h.below (below_drew (Below.refl _ _))
theorem PS.drewN (h : PS w W base gu gr gt n N cU cR cT U R T) (m : Nat) : PS w (W.drewN m) base gu gr gt n N cU cR cT U R T := h.below (pw_below_drewN (Below.refl _ _) m)
theorem PS.ut (h : PS w W base gu gr gt n N cU cR cT U R T) : gu ≠ gt := by
  intro he
  obtain ⟨c1, h1⟩ := own_typed (Kd.own_of_R h.hu) gu rfl
  exact absurd (Kd.R_ne (g := gu) h.ht h1 (by decide)) (by rw [he]; simp [Value.ownBlock])
theorem PS.rt (h : PS w W base gu gr gt n N cU cR cT U R T) : gr ≠ gt := by
  intro he
  obtain ⟨c1, h1⟩ := own_typed (Kd.own_of_R h.hr) gr rfl
  exact absurd (Kd.R_ne (g := gr) h.ht h1 (by decide)) (by rw [he]; simp [Value.ownBlock])
theorem PS.newU (h : PS w W base gu gr gt n N cU cR cT U R T) {U1 : List Int} (hg : W.grownBy W1 (some gu)) (hu : Kd.R (Kd.int .i64) 3 W1 base (fun _ => True) (.slice (some ⟨gu, 0, none⟩) n cU) U1) : PS w W1 base gu gr gt n N cU cR cT U1 R T :=
  ⟨Kd.R_of_own (Kd.own_of_R hu) (fun k hk => (Option.some.inj hk).symm), Kd.R_grown h.hr hg (fun k hk he => h.ur (by rw [← hk, Option.some.inj he])), Kd.R_grown h.ht hg (fun k hk he => h.ut (by rw [← hk, Option.some.inj he])), Kept.of_grown hg h.hk (fun k hk => .inl (.inl (Option.some.inj hk).symm)), h.ur, ⟨hg.os.trans h.ho.1, hg.tape.trans h.ho.2.1, hg.output.trans h.ho.2.2⟩⟩
theorem PS.putR (h : PS w W base gu gr gt n N cU cR cT U R T) (i v : Int) : PS w (W.setCell ⟨gr, i.toNat, none⟩ (.int .i64 v)) base gu gr gt n N cU cR cT U (R.set i.toNat v) T :=
  have hg : W.grownBy (W.setCell ⟨gr, i.toNat, none⟩ (.int .i64 v)) (some gr) := grown_put (World.grownBy.refl W _) (.inl rfl) _
  ⟨Kd.R_grown h.hu hg (fun k hk he => h.ur (by rw [← hk, Option.some.inj he])), Kd.R_putn h.hr i v, Kd.R_grown h.ht hg (fun k hk he => h.rt (by rw [← hk, Option.some.inj he])), Kept.of_grown hg h.hk (fun k hk => .inl (.inr (.inl (Option.some.inj hk).symm))), h.ur, ⟨hg.os.trans h.ho.1, hg.tape.trans h.ho.2.1, hg.output.trans h.ho.2.2⟩⟩
theorem PS.newT (h : PS w W base gu gr gt n N cU cR cT U R T) {T1 : List S56} (hg : W.grownBy W1 (some gt)) (ht : Kd.R k56 56 W1 base (fun k => k = gt) (.slice (some ⟨gt, 0, none⟩) N cT) T1) : PS w W1 base gu gr gt n N cU cR cT U R T1 :=
  ⟨Kd.R_grown h.hu hg (fun k hk he => h.ut (by rw [← hk, Option.some.inj he])), Kd.R_grown h.hr hg (fun k hk he => h.rt (by rw [← hk, Option.some.inj he])), ht, Kept.of_grown hg h.hk (fun k hk => .inl (.inr (.inr (Option.some.inj hk).symm))), h.ur, ⟨hg.os.trans h.ho.1, hg.tape.trans h.ho.2.1, hg.output.trans h.ho.2.2⟩⟩
end
theorem i64w (x : Int) : IntKind.i64.wrap x = wrap64 x := by
  rw [IntKind.wrap_i64]
  unfold wrap64
  rfl
theorem cells56 {W : World} {base g N c : Nat} {ok : Nat → Prop} {T : List S56} (h : Kd.R k56 56 W base ok (.slice (some ⟨g, 0, none⟩) N c) T) (i : Int) (h0 : 0 ≤ i) (h1 : i < (N : Int)) :
    ∀ (j : Nat) (u : Value), [Value.int .i64 (rd_T56 T i).f0, .int .i64 (rd_T56 T i).f1, .int .u8 (rd_T56 T i).f2][j]? = some u → W.cell? ⟨g, i.toNat * 3 + j, none⟩ = some u := by
  have hr := Kd.R_reads' h
  obtain ⟨ad, e, x0, x1, x2⟩ := at_T56 hr.2.2 i h0 (by rw [← hr.1]; exact h1)
  cases e
  rw [add_plain] at x0 x1 x2
  intro j u hj
  match j, hj with
  | 0, hj => rw [← hj]; exact x0
  | 1, hj => rw [← hj]; exact x1
  | 2, hj => rw [← hj]; exact x2
  | j + 3, hj => simp at hj
set_option maxHeartbeats 8000000 in
set_option maxRecDepth 100000 in
theorem place_calls (w : World) (base G gu gr gt n N cU cR cT : Nat) (Ad AD AL : Option Addr) (cd cD cL : Nat) (L : Int → Int) (lit data D U R : List Int) (T : List S56) (i : Int) (U1 R1 : List Int) (T1 : List S56)
    (hG : w.heap[G]? = some (.cells (gcells (.slice Ad N cd) (.slice AD n cD) (.slice (some ⟨gu, 0, none⟩) n cU) (.slice (some ⟨gr, 0, none⟩) (N + 1) cR) (.slice (some ⟨gt, 0, none⟩) N cT) (.slice AL 286 cL) L) 79 (0, 0)))
    (hGS : ¬ Own3 gu gr gt G)
    (hd : ∀ W', Kept w W' (Own3 gu gr gt) → Kd.C (Kd.int .u8) W' Ad N data) (hD : ∀ W', Kept w W' (Own3 gu gr gt) → Kd.C (Kd.int .i64) W' AD n D) (hlit : ∀ W', Kept w W' (Own3 gu gr gt) → Kd.C (Kd.int .i64) W' AL 286 lit)
    (hs : PS w w base gu gr gt n N cU cR cT U R T)
    (hi : 0 ≤ i ∧ i < (N : Int)) (hl : 1 ≤ n ∧ n ≤ 40000 ∧ N ≤ 65536) (hu : U.length = n) (hr : R.length = N + 1) (ht : T.length = N) (hdl : data.length = N) (hb : ∀ q, 0 ≤ q → q < (N : Int) → 0 ≤ rd data q ∧ rd data q ≤ 255)
    (hp : placeF lit data D L i U R T = some (U1, R1, T1)) :
    Calls Tryd.prog 39 #[.pointer (some ⟨G, 0, none⟩), .int .i64 i] w fun e w' => e = .returned (.tuple #[]) ∧ PS w w' base gu gr gt n N cU cR cT U1 R1 T1 := by
  obtain ⟨b, hrf, hpl⟩ : ∃ b, reachesF data D U i = some (U1, b) ∧ placeLoop L b i 257 3 (R.set i.toNat (wrap64 (rd lit (rd data i) + rd R (i + 1)))) (T.set i.toNat ⟨0, 0, rd data i⟩) = some (R1, T1) := by
    unfold placeF at hp
    obtain ⟨s, h1, h2⟩ := Option.bind_eq_some_iff.1 hp
    obtain ⟨q, h3, h4⟩ := Option.map_eq_some_iff.1 h2
    injection h4 with h5 h6
    injection h6 with h7 h8
    exact ⟨s.2, by rw [h1, ← h5], by rw [h3, ← h7, ← h8]⟩
  have HG := Aside0.mk hG
  have HGS := Aside0.mk hGS
  have HDT := Aside0.mk hd
  have HD := Aside0.mk hD
  have HLT := Aside0.mk hlit
  have HS := Aside0.mk hs
  have HI := Aside0.mk hi
  have HL := Aside0.mk hl
  have HU0 := Aside0.mk hu
  have HR0 := Aside0.mk hr
  have HT0 := Aside0.mk ht
  have HDL := Aside0.mk hdl
  have HBY := Aside0.mk hb
  have HRF := Aside0.mk hrf
  have HPL := Aside0.mk hpl
  clear hG hGS hd hD hlit hs hi hl hu hr ht hdl hb hp hrf hpl
  go_enter Tryd.func39, Tryd.ntmps39
  go_wp2_with fail
  go_at_call 47
  refine (reaches_calls w base G gu n cU Ad AD cd cD (.slice (some ⟨gr, 0, none⟩) (N + 1) cR) (.slice (some ⟨gt, 0, none⟩) N cT) (.slice AL 286 cL) L data D U i U1 b (by rw [HDL.out]; exact HG.out) (fun W' hg => by rw [HDL.out]; exact HDT.out W' (Kept.of_grown hg (Kept.refl _ _) (fun k hk => .inl (.inl (Option.some.inj hk).symm))))
    (fun W' hg => HD.out W' (Kept.of_grown hg (Kept.refl _ _) (fun k hk => .inl (.inl (Option.some.inj hk).symm)))) (Kd.R_mono HS.out.hu (fun _ _ => trivial)) (by rw [HDL.out]; exact HI.out) ⟨HL.out.1, HL.out.2.1, by rw [HDL.out]; exact HL.out.2.2, HU0.out⟩ HRF.out).mono ?_
  rintro e w1 ⟨rfl, hu1, hg1⟩
  have HS1 := Aside0.mk (HS.out.newU hg1 hu1)
  clear HS hu1 hg1
  go_upto_region 1 with (first
    | ((with_reducible refine gate_dst (N := 4) rfl ?_); refine box_event ?hg (N := 4) ?hd (cs := bcells (fun _ => (0, 0))) (t := 95) ?hr ?_; (case hd => rfl); (case hg => rfl); (case hr => first | kernel_rfl | (go_simp; kernel_rfl)); intro g4 hg w2 hbox hb; have HB2 := Aside0.mk hb; have BK4 := Aside0.mk hbox; have GE4 := Aside0.mk (Nat.le_of_eq hg.symm); clear hb hbox hg)
    | (refine wpList_store_row (by rfl) 95 (.tmp 4) (.tmp 9) (by rfl) g4 (bcells b) (by first | rfl | (go_simp; done) | (go_simp; rfl)) (by first | rfl | (go_simp; done) | (go_simp; rfl)) 95 _ BK4.out (by kernel_rfl) (by rw [bcells_size, bcells_size]) (bcells_one _) ?_)
    | fail)
  have HS2 := Aside0.mk (PS.drew (HS1.out.below (below_setRow HB2.out GE4.out (bcells b))))
  have BK42 := Aside0.mk (blk_drew (setRow_heap w2 g4 _ (bcells b) 95 (0, 0) BK4.out))
  have N4 := Aside0.mk (show g4 ≠ gr ∧ g4 ≠ gt ∧ g4 ≠ gu from by
    have h1 := Kd.R_lt HS1.out.hr gr rfl
    have h2 := Kd.R_lt HS1.out.ht gt rfl
    have h3 := Kd.R_lt HS1.out.hu gu rfl
    have h4 := GE4.out
    exact ⟨by omega, by omega, by omega⟩)
  clear HS1 HB2 BK4
  refine still_tail_drew 28 (by kernel_rfl) (by kernel_rfl) ?_
  generalize (w2.setRow g4 (bcells b)).drew = w3 at HS2 BK42 ⊢
  have BG := Aside0.mk (blk_kept HG.out HS2.out.hk HGS.out)
  have z0 : w3.cell? ⟨G, 0, none⟩ = some (.slice Ad N cd) := (blk_cell BG.out 0).trans (g_data _ _ _ _ _ _ _)
  have z262 : w3.cell? ⟨G, 262, none⟩ = some (.slice (some ⟨gr, 0, none⟩) (N + 1) cR) := (blk_cell BG.out 262).trans (g_tail _ _ _ _ _ _ _ 2 (by omega))
  have z264 : w3.cell? ⟨G, 264, none⟩ = some (.slice AL 286 cL) := (blk_cell BG.out 264).trans (g_tail _ _ _ _ _ _ _ 4 (by omega))
  obtain ⟨ad, e1, y1⟩ := Kd.at_int (HDT.out w3 HS2.out.hk) i HI.out.1 HI.out.2
  cases e1
  have hby := HBY.out i HI.out.1 HI.out.2
  obtain ⟨q, hq⟩ : ∃ q, rd data i = q := ⟨_, rfl⟩
  have HPL2 := Aside0.mk HPL.out
  rw [hq] at y1 hby HPL2
  obtain ⟨al, e2, y2⟩ := Kd.at_int (HLT.out w3 HS2.out.hk) q hby.1 (by omega)
  cases e2
  obtain ⟨c1, hc1⟩ : ∃ c, rd lit q = c := ⟨_, rfl⟩
  rw [hc1] at y2 HPL2
  have y3 := (Kd.R_celln (0 : Int) HS2.out.hr (i + 1) (by have := HI.out; omega) (by have := HI.out; omega)).1
  obtain ⟨c2, hc2⟩ : ∃ c, rd R (i + 1) = c := ⟨_, rfl⟩
  have hc2' : rdOf 0 R (i + 1) = c2 := hc2
  rw [hc2'] at y3
  rw [hc2] at HPL2
  have y4 := Kd.R_celln (0 : Int) HS2.out.hr i HI.out.1 (by have := HI.out; omega)
  obtain ⟨y4, y5⟩ := y4
  have hws : IntKind.i64.wrap (i + 1) = i + 1 := IntWalk.i64_in _ (by have := HI.out; have := HL.out; omega)
  have a0 : 0 ≤ i := HI.out.1
  have a1 : i < (N : Int) := HI.out.2
  have a2 : 0 ≤ q := hby.1
  have a3 : q < 286 := by omega
  have a4 : 0 ≤ i + 1 := by omega
  have a5 : i + 1 < ((N + 1 : Nat) : Int) := by omega
  have a6 : i < ((N + 1 : Nat) : Int) := by omega
  have a7 : i < (N : Int) + 1 := by omega
  have HBQ := Aside0.mk hby
  have HQ := Aside0.mk hq
  clear hby hq hc1 hc2 hc2' HPL HBY
  simp only [List.take_succ_cons, List.take_zero, List.drop_succ_cons, List.drop_zero]
  repeat still_step
  refine wpStill_nil ?_
  clear hws
  go_upto_region 2 with fail
  have HS3 := Aside0.mk (PS.drew (HS2.out.putR i (wrap64 (c1 + c2))))
  have BK43 := Aside0.mk (blk_drew (blk_far (p := ⟨gr, i.toNat, none⟩) BK42.out N4.out.1 (.int .i64 (wrap64 (c1 + c2)))))
  clear HS2 BK42 BG z0 z262 z264 y1 y2 y3 y4 y5
  refine still_tail_drew 14 (by kernel_rfl) (by kernel_rfl) ?_
  generalize hR2 : R.set i.toNat (wrap64 (c1 + c2)) = R2 at HS3 HPL2
  have HR2 := Aside0.mk hR2
  clear hR2
  generalize (w3.setCell ⟨gr, i.toNat, none⟩ (.int .i64 (wrap64 (c1 + c2)))).drew = w4 at HS3 BK43 ⊢
  have BG := Aside0.mk (blk_kept HG.out HS3.out.hk HGS.out)
  have z0 : w4.cell? ⟨G, 0, none⟩ = some (.slice (some ad) N cd) := (blk_cell BG.out 0).trans (g_data _ _ _ _ _ _ _)
  have z263 : w4.cell? ⟨G, 263, none⟩ = some (.slice (some ⟨gt, 0, none⟩) N cT) := (blk_cell BG.out 263).trans (g_tail _ _ _ _ _ _ _ 3 (by omega))
  obtain ⟨ad2, e1, y1⟩ := Kd.at_int (HDT.out w4 HS3.out.hk) i a0 a1
  cases e1
  obtain ⟨q2, hq2⟩ : ∃ q, rd data i = q := ⟨_, rfl⟩
  rw [hq2] at y1
  have HQ2 := Aside0.mk hq2
  clear hq2
  simp only [List.take_succ_cons, List.take_zero, List.drop_succ_cons, List.drop_zero]
  repeat still_step
  refine wpStill_nil ?_
  refine Kd.R_store k56 (w0 := w4) base rfl rfl 56 (.tmp 51) (.tmp 50) rfl 56 (g := gt) (n := N) (cap := cT) (o' := i.toNat * 3) i 0 T ⟨0, 0, q2⟩ (.agg #[.int .i64 0, .int .i64 0, .int .u8 q2]) [.int .i64 0, .int .i64 0, .int .u8 q2] _ (fun k => k = gt) (fun _ => False) rfl rfl rfl rfl (by kernel_rfl) ?h1 HS3.out.ht a0 a1 ?hcl (cells56 HS3.out.ht i a0 a1) (by show 0 + 3 ≤ 3; omega) ?hM (fun _ h => h.elim) (Below.refl _ _) ?_
  case h1 => intro x hx; simp at hx; rcases hx with rfl | rfl <;> rfl
  case hcl => rfl
  case hM => exact k56_mkM _ _ _ _
  intro w5 ht5 hb5 hg5
  obtain rfl : q = q2 := HQ.out.symm.trans HQ2.out
  have HS5 := Aside0.mk (HS3.out.newT hg5 ht5)
  have BK45 := Aside0.mk (blk_grown BK43.out hg5 (fun he => N4.out.2.1 (Option.some.inj he)))
  have HRL := Aside0.mk (show R2.length = N + 1 ∧ (T.set i.toNat ⟨0, 0, q⟩).length = N from ⟨by rw [← HR2.out, List.length_set]; exact HR0.out, by rw [List.length_set]; exact HT0.out⟩)
  clear HS3 BK43 BG z0 z263 y1 hb5 hg5 ht5 HQ HQ2 HR2 HRF
  go_wp2_with fail
  go_loopg [5] 257 (fun kq v5 w' => ∃ (m : Int) (Rc : List Int) (Tc : List S56), v5 = .int .i64 m ∧ Aside0 (3 ≤ m ∧ m ≤ 259 ∧ placeLoop L b i kq m Rc Tc = some (R1, T1) ∧ Rc.length = N + 1 ∧ Tc.length = N) ∧ Aside0 (PS w w' base gu gr gt n N cU cR cT U1 Rc Tc) ∧ Aside0 (w'.heap[g4]? = some (.cells (bcells b) 95 (0, 0))))
  case atStart => exact ⟨3, R2, _, rfl, ⟨⟨by omega, by omega, HPL2.out, HRL.out.1, HRL.out.2⟩⟩, HS5, BK45⟩
  case round =>
    clear HS5 BK45 HPL2 HRL
    obtain ⟨m, Rc, Tc, rfl, HT, HS, BK4⟩ := hrel
    cases gk with
    | zero => exact absurd HT.out.2.2.1 (by simp [placeLoop])
    | succ k1 =>
      have hpl := HT.out.2.2.1
      rw [placeLoop] at hpl
      have m0 : 0 ≤ m := by have := HT.out; omega
      by_cases c1 : m ≤ 258
      · rw [if_pos c1] at hpl
        have c1b : decide (m ≤ 258) = true := decide_eq_true c1
        have m1 : m < 259 := by omega
        obtain ⟨P, hP⟩ : ∃ P, (b m).1 = P := ⟨_, rfl⟩
        obtain ⟨d, hd⟩ : ∃ d, (b m).2 = d := ⟨_, rfl⟩
        rw [hd, hP] at hpl
        have x0 : wr.cell? ⟨g4, m.toNat * 2, none⟩ = some (.int .i64 P) := by rw [blk_cell BK4.out, (b_get b m m0 m1).1, hP]
        have x1 : wr.cell? ⟨g4, m.toNat * 2 + 1, none⟩ = some (.int .i64 d) := by rw [blk_cell BK4.out, (b_get b m m0 m1).2, hd]
        have HDD := Aside0.mk hd
        clear hP hd
        by_cases c2 : 0 < d
        · rw [if_pos c2] at hpl
          have c2b : decide (0 < d) = true := decide_eq_true c2
          by_cases c3 : i + m < (Rc.length : Int)
          rotate_left
          · rw [if_neg c3] at hpl; cases hpl
          rw [if_pos c3] at hpl
          have hRl := HT.out.2.2.2.1
          have BG := Aside0.mk (blk_kept HG.out HS.out.hk HGS.out)
          have zL : wr.cell? ⟨G, 1 + m.toNat, none⟩ = some (.int .i64 (L m)) := (blk_cell BG.out _).trans (g_len _ _ _ _ _ _ _ m m0 m1)
          have z262 : wr.cell? ⟨G, 262, none⟩ = some (.slice (some ⟨gr, 0, none⟩) (N + 1) cR) := (blk_cell BG.out 262).trans (g_tail _ _ _ _ _ _ _ 2 (by omega))
          have z263 : wr.cell? ⟨G, 263, none⟩ = some (.slice (some ⟨gt, 0, none⟩) N cT) := (blk_cell BG.out 263).trans (g_tail _ _ _ _ _ _ _ 3 (by omega))
          have b1 : i + m < (N : Int) + 1 := by omega
          have b2 : 0 ≤ i + m := by omega
          have y3 := (Kd.R_celln (0 : Int) HS.out.hr (i + m) b2 (by omega)).1
          have y4 := (Kd.R_celln (0 : Int) HS.out.hr i a0 (by omega)).1
          have y5 := (Kd.R_celln (0 : Int) HS.out.hr i a0 (by omega)).2
          have e3 : rdOf 0 Rc (i + m) = rd Rc (i + m) := rfl
          have e4 : rdOf 0 Rc i = rd Rc i := rfl
          rw [e3] at y3
          rw [e4] at y4
          generalize rd Rc (i + m) = rim at y3 hpl
          generalize rd Rc i = ri at y4 hpl
          obtain ⟨Lm, hLm⟩ : ∃ x, L m = x := ⟨_, rfl⟩
          rw [hLm] at zL hpl
          obtain ⟨s1, hs1⟩ : ∃ s1, wrap64 (Lm + P) = s1 := ⟨_, rfl⟩
          rw [hs1] at hpl
          obtain ⟨c, hc⟩ : ∃ c, wrap64 (s1 + rim) = c := ⟨_, rfl⟩
          rw [hc] at hpl
          have hw1 : IntKind.i64.wrap (Lm + P) = s1 := by rw [i64w]; exact hs1
          have hw2 : IntKind.i64.wrap (s1 + rim) = c := by rw [i64w]; exact hc
          have hw3 : IntKind.i64.wrap (i + m) = i + m := IntWalk.i64_in _ (by clear hw1 hw2 hs1 hc; have := HL.out; omega)
          have HPN := Aside0.mk hpl
          have HTT := Aside0.mk (show 3 ≤ m + 1 ∧ m + 1 ≤ 259 ∧ Rc.length = N + 1 ∧ Tc.length = N from ⟨by have := HT.out; omega, by omega, hRl, HT.out.2.2.2.2⟩)
          have HW := Aside0.mk (show wrap64 (m + 1) = m + 1 by unfold wrap64; omega)
          clear hs1 hc e3 e4 hLm hpl hRl c3 HT
          replace m0 := eq_true m0
          go_wp2
          go_quiet (fail)
          clear hw1 hw2 hw3
          go_upto_region 7 with fail
          by_cases c4 : c ≤ ri
          · have c4b : decide (c ≤ ri) = true := decide_eq_true c4
            have hpn := HPN.out
            rw [if_pos c4] at hpn
            have HPN2 := Aside0.mk hpn
            have x1' := Aside0.mk x1
            clear hpn HPN
            go_upto_region 9 with fail
            have HS6 := Aside0.mk (PS.drew ((HS.out.drewN nq).putR i c))
            have BK46 := Aside0.mk (blk_drew (blk_far (p := ⟨gr, i.toNat, none⟩) (blk_drewN BK4.out nq) N4.out.1 (.int .i64 c)))
            clear HS BK4 BG zL z262 z263 y3 y4 y5 x0 x1 x1'
            refine still_tail_drew 12 (by kernel_rfl) (by kernel_rfl) ?_
            generalize ((wr.drewN nq).setCell ⟨gr, i.toNat, none⟩ (.int .i64 c)).drew = w6 at HS6 BK46 ⊢
            have BG := Aside0.mk (blk_kept HG.out HS6.out.hk HGS.out)
            have z263 : w6.cell? ⟨G, 263, none⟩ = some (.slice (some ⟨gt, 0, none⟩) N cT) := (blk_cell BG.out 263).trans (g_tail _ _ _ _ _ _ _ 3 (by omega))
            obtain ⟨d2, hd2⟩ : ∃ d, (b m).2 = d := ⟨_, rfl⟩
            have x1 : w6.cell? ⟨g4, m.toNat * 2 + 1, none⟩ = some (.int .i64 d2) := by rw [blk_cell BK46.out, (b_get b m (of_eq_true m0) m1).2, hd2]
            have HD2 := Aside0.mk hd2
            clear hd2
            simp only [List.take_succ_cons, List.take_zero, List.drop_succ_cons, List.drop_zero]
            repeat still_step
            refine wpStill_nil ?_
            refine Kd.R_store k56 (w0 := w6) base rfl rfl 56 (.tmp 111) (.tmp 110) rfl 56 (g := gt) (n := N) (cap := cT) (o' := i.toNat * 3) i 0 Tc ⟨m, d2, 0⟩ (.agg #[.int .i64 m, .int .i64 d2, .int .u8 0]) [.int .i64 m, .int .i64 d2, .int .u8 0] _ (fun k => k = gt) (fun _ => False) rfl rfl rfl rfl (by kernel_rfl) ?h1 HS6.out.ht a0 a1 ?hcl (cells56 HS6.out.ht i a0 a1) (by show 0 + 3 ≤ 3; omega) ?hM (fun _ h => h.elim) (Below.refl _ _) ?_
            case h1 => intro x hx; simp at hx; rcases hx with rfl | rfl | rfl <;> rfl
            case hcl => rfl
            case hM => exact k56_mkM _ _ _ _
            intro w7 ht7 hb7 hg7
            have HS7 := Aside0.mk (HS6.out.newT hg7 ht7)
            have BK47 := Aside0.mk (blk_grown BK46.out hg7 (fun he => N4.out.2.1 (Option.some.inj he)))
            clear HS6 BK46 BG z263 x1 hb7 hg7 ht7
            go_wp2_with fail
            go_roundg k1
            case measure => omega
            case rel =>
              obtain rfl : d = d2 := HDD.out.symm.trans HD2.out
              refine ⟨wrap64 (m + 1), Rc.set i.toNat c, Tc.set i.toNat ⟨m, d, 0⟩, (by first | rfl | (simp; done) | (simp [*]; done)), ⟨by rw [HW.out]; exact ⟨HTT.out.1, HTT.out.2.1, HPN2.out, by rw [List.length_set]; exact HTT.out.2.2.1, by rw [List.length_set]; exact HTT.out.2.2.2⟩⟩, HS7, BK47⟩
          · have c4b : decide (c ≤ ri) = false := decide_eq_false c4
            have hpn := HPN.out
            rw [if_neg c4] at hpn
            have HPN2 := Aside0.mk hpn
            clear hpn HPN
            go_wp2_with fail
            go_roundg k1
            case measure => omega
            case rel =>
              refine ⟨wrap64 (m + 1), Rc, Tc, (by first | rfl | (simp; done) | (simp [*]; done)), ⟨by rw [HW.out]; exact ⟨HTT.out.1, HTT.out.2.1, HPN2.out, HTT.out.2.2.1, HTT.out.2.2.2⟩⟩, ⟨HS.out.drewN nq⟩, ⟨blk_drewN BK4.out nq⟩⟩
        · rw [if_neg c2] at hpl
          have c2b : decide (0 < d) = false := decide_eq_false c2
          obtain ⟨rfl, rfl⟩ : Rc = R1 ∧ Tc = T1 := by
            injection hpl with h
            injection h with h1 h2
            exact ⟨h1, h2⟩
          clear hpl HT
          go_wp2
          go_end0
          exact ⟨rfl, HS.out⟩
      · rw [if_neg c1] at hpl
        have c1b : decide (m ≤ 258) = false := decide_eq_false c1
        obtain ⟨rfl, rfl⟩ : Rc = R1 ∧ Tc = T1 := by
          injection hpl with h
          injection h with h1 h2
          exact ⟨h1, h2⟩
        clear hpl HT
        go_wp2
        go_end0
        exact ⟨rfl, HS.out⟩
end Go.Proofs.YtpndhoefmepfdaaDoor.PSq
