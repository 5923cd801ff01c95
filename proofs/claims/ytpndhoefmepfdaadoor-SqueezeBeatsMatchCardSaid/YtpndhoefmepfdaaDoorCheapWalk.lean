/- squeeze.Cheapest: the walk. -/
import Derived.Test.YtpndhoefmepfdaaDoorCheapNew
namespace Go.Proofs.YtpndhoefmepfdaaDoor.PSq
open Go.RowKit Go.Proofs.YtpndhoefmepfdaaDoorW.PrintWords Go.Proofs.YtpndhoefmepfdaaDoorW.PrintLast Go.Proofs.YtpndhoefmepfdaaDoorW.PrintMore Go.Proofs.YtpndhoefmepfdaaDoor.TS
set_option linter.unusedVariables false
def winF (n : Nat) (a : Int) : Int := if (if 1 < (n : Int) then (n : Int) - 1 else 0) < a then (if 1 < (n : Int) then (n : Int) - 1 else 0) else a
def squeeze_Cheapest.f (l0 : List Int) (a1 : Int) (l1 l2 : List Int) : Option (List S56 × Int) :=
  if 65536 < l0.length ∨ a1 < 1 ∨ 32768 < a1 then some ([], 1)
  else if squeeze_fair.g l1 l2 = true then
    (if l0.all (fun x => decide (0 ≤ x) && decide (x ≤ 255)) = true then
      (placesF l1 l0 (Dl l2 (winF l0.length a1)) (Lf l1 259) l0.length (List.replicate (winF l0.length a1 + 1).toNat 0) (List.replicate (l0.length + 1) 0) (List.replicate l0.length z56)).bind fun s => (rowF s.2.2 (l0.length + 1) 0 []).map fun r => (r, 0)
    else none)
  else some ([], 210)
theorem placeLoop_len (L : Int → Int) (b : Int → Int × Int) (i : Int) : ∀ (n : Nat) (m : Int) (R : List Int) (T : List S56) (q : List Int × List S56), placeLoop L b i n m R T = some q → q.1.length = R.length ∧ q.2.length = T.length := by
  intro n
  induction n with
  | zero => intro m R T q h; cases h
  | succ n ih =>
    intro m R T q h
    rw [placeLoop] at h
    split at h
    · split at h
      · split at h
        · split at h
          · have := ih _ _ _ _ h
            rwa [List.length_set, List.length_set] at this
          · exact ih _ _ _ _ h
        · cases h
      · obtain rfl := Option.some.inj h; exact ⟨rfl, rfl⟩
    · obtain rfl := Option.some.inj h; exact ⟨rfl, rfl⟩
theorem placeF_len {lit data D : List Int} {L : Int → Int} {i : Int} {U R : List Int} {T : List S56} {s : List Int × List Int × List S56} (h : placeF lit data D L i U R T = some s) : s.1.length = U.length ∧ s.2.1.length = R.length ∧ s.2.2.length = T.length := by
  unfold placeF at h
  obtain ⟨x, h1, h2⟩ := Option.bind_eq_some_iff.1 h
  obtain ⟨q, h3, h4⟩ := Option.map_eq_some_iff.1 h2
  subst h4
  unfold reachesF at h1
  obtain ⟨y, h5, h6⟩ := Option.map_eq_some_iff.1 h1
  subst h6
  have a := reachLoop_len _ _ _ _ _ _ _ _ h5
  have b := placeLoop_len _ _ _ _ _ _ _ _ h3
  rw [List.length_set, List.length_set] at b
  exact ⟨a, b.1, b.2⟩
section
variable {w W W1 : World} {n N gD gu gr gt G cD cU cR cT : Nat} {vd vL : Value} {L : Int → Int} {D U R U1 R1 : List Int} {T T1 : List S56}
theorem NS.own (h : NS w W n N gD gu gr gt G cD cU cR cT vd vL L D U R T) : ∀ k, Own3 gu gr gt k → w.heap.size ≤ k := by
  rintro k (rfl | rfl | rfl)
  · exact Kd.R_base h.hs.hu k rfl
  · exact Kd.R_base h.hs.hr k rfl
  · exact Kd.R_base h.hs.ht k rfl
theorem NS.placed (h : NS w W n N gD gu gr gt G cD cU cR cT vd vL L D U R T) (hp : PS W W1 w.heap.size gu gr gt n N cU cR cT U1 R1 T1) : NS w W1 n N gD gu gr gt G cD cU cR cT vd vL L D U1 R1 T1 :=
  ⟨blk_kept h.hg hp.hk h.gS, Kd.R_kept h.hd hp.hk (fun k hk he => by
    subst hk
    rcases he with he | he | he
    · exact h.du he
    · exact h.dr he
    · exact h.dt he), ⟨hp.hu, hp.hr, hp.ht, h.hs.hk.then_ hp.hk (fun k hk => .inl hk), hp.ur, ⟨hp.ho.1.trans h.hs.ho.1, hp.ho.2.1.trans h.hs.ho.2.1, hp.ho.2.2.trans h.hs.ho.2.2⟩⟩,
    ⟨hp.ho.1.trans h.hb.os, hp.ho.2.1.trans h.hb.tape, hp.ho.2.2.trans h.hb.output, Nat.le_trans h.hb.size hp.hk.1, fun k hk => (hp.hk.2 k (Nat.lt_of_lt_of_le hk h.hb.size) (fun he => by have := h.own k he; omega)).trans (h.hb.block k hk)⟩, h.du, h.dr, h.gb⟩
end
attribute [local go_sem] max2_int min2_int max_two min_two
set_option maxHeartbeats 16000000 in
set_option maxRecDepth 100000 in
theorem squeeze_Cheapest.calls (A0 : Option Addr) (c0 : Nat) (l0 : List Int) (a1 : Int) (A1 : Option Addr) (c1 : Nat) (l1 : List Int) (A2 : Option Addr) (c2 : Nat) (l2 : List Int) (r1 : List S56) (r2 : Int) (w : World)
    (hr0 : Kd.C (Kd.int .u8) w A0 l0.length l0) (hc0 : l0.length ≤ c0) (hr1 : Kd.C (Kd.int .i64) w A1 l1.length l1) (hc1 : l1.length ≤ c1) (hr2 : Kd.C (Kd.int .i64) w A2 l2.length l2) (hc2 : l2.length ≤ c2) (hG : Tabs w) (h : squeeze_Cheapest.f l0 a1 l1 l2 = some (r1, r2)) :
    Calls Tryd.prog 23 #[.slice A0 l0.length c0, .int .i64 a1, .slice A1 l1.length c1, .slice A2 l2.length c2] w fun e w' => ∃ v0_ : Value, e = .returned (.tuple #[v0_, .int .i64 r2]) ∧ Kd.R k56 56 w' w.heap.size (fun _ => True) v0_ r1 ∧ Below w.heap.size w w' := by
  have H0 := Aside0.mk hr0
  have H1 := Aside0.mk hr1
  have H2 := Aside0.mk hr2
  have HC1 := Aside0.mk hc1
  have HC2 := Aside0.mk hc2
  have HG := Aside0.mk hG
  clear hr0 hr1 hr2 hG hc0 hc1 hc2
  obtain ⟨n, hn⟩ : ∃ n, l0.length = n := ⟨_, rfl⟩
  have HN := Aside0.mk hn
  unfold squeeze_Cheapest.f at h
  rw [hn] at h H0 ⊢
  clear hn
  by_cases g1 : 65536 < n
  · rw [if_pos (.inl g1)] at h
    have g1b : decide (65536 < (n : Int)) = true := decide_eq_true (by omega)
    have g1c : decide (65536 < n) = true := decide_eq_true g1
    simp only [Option.some.injEq, Prod.mk.injEq] at h
    obtain ⟨rfl, rfl⟩ := h
    go_enter Tryd.func23, Tryd.ntmps23
    go_wp2
    go_ret2
    exact ⟨_, rfl, Kd.R_nil _ _ _ _ _, Below.refl _ _⟩
  · have g1b : decide (65536 < (n : Int)) = false := decide_eq_false (by omega)
    have g1c : decide (65536 < n) = false := decide_eq_false g1
    by_cases g2 : a1 < 1
    · rw [if_pos (.inr (.inl g2))] at h
      have g2b : decide (a1 < 1) = true := decide_eq_true g2
      simp only [Option.some.injEq, Prod.mk.injEq] at h
      obtain ⟨rfl, rfl⟩ := h
      go_enter Tryd.func23, Tryd.ntmps23
      go_wp2
      go_ret2
      exact ⟨_, rfl, Kd.R_nil _ _ _ _ _, Below.refl _ _⟩
    · have g2b : decide (a1 < 1) = false := decide_eq_false g2
      by_cases g3 : 32768 < a1
      · rw [if_pos (.inr (.inr g3))] at h
        have g3b : decide (32768 < a1) = true := decide_eq_true g3
        simp only [Option.some.injEq, Prod.mk.injEq] at h
        obtain ⟨rfl, rfl⟩ := h
        go_enter Tryd.func23, Tryd.ntmps23
        go_wp2
        go_ret2
        exact ⟨_, rfl, Kd.R_nil _ _ _ _ _, Below.refl _ _⟩
      · rw [if_neg (by omega)] at h
        have g3b : decide (32768 < a1) = false := decide_eq_false g3
        have HB0 := Aside0.mk (show n ≤ 65536 ∧ 1 ≤ a1 ∧ a1 ≤ 32768 by omega)
        clear g1 g2 g3
        by_cases g4 : squeeze_fair.g l1 l2 = true
        rotate_left
        · rw [if_neg g4] at h
          simp only [Option.some.injEq, Prod.mk.injEq] at h
          obtain ⟨rfl, rfl⟩ := h
          have g4' : squeeze_fair.g l1 l2 = false := by simpa using g4
          have HF := Aside0.mk (show squeeze_fair.f l1 l2 = some false by unfold squeeze_fair.f; rw [g4'])
          clear g4 g4'
          go_enter Tryd.func23, Tryd.ntmps23
          go_wp2_with fail
          go_at_call 33
          refine (squeeze_fair.calls A1 c1 l1 A2 c2 l2 false _ H1.out HC1.out H2.out HC2.out HF.out).mono ?_
          rintro e w1 ⟨rfl, ⟨q, rfl⟩⟩
          go_wp2_with fail
          go_ret2
          exact ⟨_, rfl, Kd.R_nil _ _ _ _ _, pw_below_drewN (Below.refl _ _) q⟩
        · rw [if_pos g4] at h
          have HF := Aside0.mk (show squeeze_fair.f l1 l2 = some true by unfold squeeze_fair.f; rw [g4])
          obtain ⟨z1, z2⟩ : l1.length = 286 ∧ l2.length = 30 := by
            unfold squeeze_fair.g at g4
            simp only [Bool.and_eq_true, beq_iff_eq] at g4
            exact ⟨g4.1.1.1, g4.1.1.2⟩
          by_cases hby : l0.all (fun x => decide (0 ≤ x) && decide (x ≤ 255)) = true
          rotate_left
          · rw [if_neg hby] at h
            cases h
          rw [if_pos hby] at h
          have HBY := Aside0.mk (show ∀ q, 0 ≤ q → q < (n : Int) → 0 ≤ rd l0 q ∧ rd l0 q ≤ 255 by
            intro q h0 h1
            have hj : q.toNat < l0.length := by rw [HN.out]; omega
            have := List.all_eq_true.1 hby _ (List.getElem_mem hj)
            unfold rd
            rw [List.getD_eq_getElem?_getD, List.getElem?_eq_getElem hj]
            simpa using this)
          obtain ⟨W, hW⟩ : ∃ W, winF n a1 = W := ⟨_, rfl⟩
          rw [hW] at h
          obtain ⟨s, hs1, hs2⟩ := Option.bind_eq_some_iff.1 h
          obtain ⟨rr, hs3, hs4⟩ := Option.map_eq_some_iff.1 hs2
          injection hs4 with hs5 hs6
          subst hs5 hs6
          obtain ⟨U1, R1, T1⟩ := s
          have HS1 := Aside0.mk hs1
          have HS3 := Aside0.mk (show rowF T1 (n + 1) 0 [] = some rr from hs3)
          have HW := Aside0.mk hW
          have HZ := Aside0.mk (And.intro z1 z2)
          rw [z1] at H1 HC1 ⊢
          rw [z2] at H2 HC2 ⊢
          clear hby h hs1 hs2 hs3 z1 z2 g4 hW
          go_enter Tryd.func23, Tryd.ntmps23
          go_wp2_with fail
          go_at_call 33
          refine ((show Calls Tryd.prog 33 #[.slice A1 286 c1, .slice A2 30 c2] w (fun e w' => e = .returned (.bool true) ∧ Drawn0 w w') by
            have := squeeze_fair.calls A1 c1 l1 A2 c2 l2 true w (by rw [HZ.out.1]; exact H1.out) (by rw [HZ.out.1]; exact HC1.out) (by rw [HZ.out.2]; exact H2.out) (by rw [HZ.out.2]; exact HC2.out) HF.out
            rw [HZ.out.1, HZ.out.2] at this
            exact this)).mono ?_
          rintro e w1 ⟨rfl, ⟨q, rfl⟩⟩
          go_wp2_with fail
          go_at_call 38
          refine (new_calls A0 A1 A2 c0 c1 c2 n l0 l1 l2 a1 W n (w.drewN q) (Kd.C_drewN H0.out q) (Kd.C_drewN H1.out q) (Kd.C_drewN H2.out q) (HG.out.drewN q) HB0.out.1 rfl HB0.out.2 HW.out).mono ?_
          rintro e w1 ⟨G, gD, gu, gr, gt, cD, cU, cR, cT, rfl, hns⟩
          have HS := Aside0.mk (show NS w w1 (W + 1).toNat n gD gu gr gt G cD cU cR cT (.slice A0 n c0) (.slice A1 286 c1) (Lf l1 259) (Dl l2 W) (List.replicate (W + 1).toNat 0) (List.replicate (n + 1) 0) (List.replicate n z56) from
            ⟨hns.hg, hns.hd, ⟨hns.hs.hu, hns.hs.hr, hns.hs.ht, hns.hs.hk, hns.hs.ur, hns.hs.ho⟩, ⟨hns.hb.os, hns.hb.tape, hns.hb.output, hns.hb.size, hns.hb.block⟩, hns.du, hns.dr, hns.gb⟩)
          clear hns
          have HWB := Aside0.mk (show 1 ≤ (W + 1).toNat ∧ (W + 1).toNat ≤ 40000 from by
            have h := HW.out
            have h2 := HB0.out
            unfold winF at h
            split at h <;> split at h <;> omega)
          obtain ⟨nW, hnW⟩ : ∃ x, (W + 1).toNat = x := ⟨_, rfl⟩
          rw [hnW] at HS HWB HS1
          clear hnW HW
          go_wp2_with fail
          go_loopg [36] (n + 1) (fun kq v36 w' => ∃ (k : Nat) (U R : List Int) (T : List S56), v36 = .int .i64 (k : Int) ∧ Aside0 (k + kq = n + 1 ∧ k ≤ n ∧ placesF l1 l0 (Dl l2 W) (Lf l1 259) (n - k) U R T = some (U1, R1, T1) ∧ U.length = nW ∧ R.length = n + 1 ∧ T.length = n) ∧ Aside0 (NS w w' nW n gD gu gr gt G cD cU cR cT (.slice A0 n c0) (.slice A1 286 c1) (Lf l1 259) (Dl l2 W) U R T))
          case atStart => exact ⟨0, _, _, _, rfl, ⟨⟨by omega, by omega, HS1.out, List.length_replicate, List.length_replicate, List.length_replicate⟩⟩, HS⟩
          case round =>
            clear HS HS1
            obtain ⟨k, U, R, T, rfl, HT, HS⟩ := hrel
            cases gk with
            | zero => exact absurd HT.out.1 (by have := HT.out.2.1; omega)
            | succ k1 =>
              by_cases d1 : (k : Int) < (n : Int)
              · have d1b : decide ((k : Int) < (n : Int)) = true := decide_eq_true d1
                have d1c : decide (k < n) = true := decide_eq_true (by omega)
                have hpl := HT.out.2.2.1
                obtain ⟨j, hj⟩ : ∃ j, n - k = j + 1 := ⟨n - k - 1, by omega⟩
                rw [hj, placesF] at hpl
                obtain ⟨s, p1, p2⟩ := Option.bind_eq_some_iff.1 hpl
                obtain ⟨U2, R2, T2⟩ := s
                have hlen := placeF_len p1
                have hi : (n : Int) - 1 - (k : Int) = (j : Int) := by omega
                have HP1 := Aside0.mk p1
                have HTT := Aside0.mk (show (k + 1) + k1 = n + 1 ∧ k + 1 ≤ n ∧ placesF l1 l0 (Dl l2 W) (Lf l1 259) (n - (k + 1)) U2 R2 T2 = some (U1, R1, T1) ∧ U2.length = nW ∧ R2.length = n + 1 ∧ T2.length = n ∧ j < n by
                  have h := HT.out
                  simp only at hlen p2
                  rw [show n - (k + 1) = j by omega]
                  exact ⟨by omega, by omega, p2, by omega, by omega, by omega, by omega⟩)
                have hw0 : wrap64 (wrap64 ((n : Int) - 1) - (k : Int)) = (j : Int) := by have := HB0.out; rw [show wrap64 ((n : Int) - 1) = (n : Int) - 1 by unfold wrap64; omega, hi]; unfold wrap64; omega
                have HWK := Aside0.mk (show wrap64 ((k : Int) + 1) = ((k + 1 : Nat) : Int) by have := HB0.out; unfold wrap64; omega)
                have HLL := Aside0.mk (show U.length = nW ∧ R.length = n + 1 ∧ T.length = n from HT.out.2.2.2)
                clear hpl hj p1 p2 hlen HT
                go_wp2_with fail
                rw [hw0]
                clear hi hw0
                go_at_call 39
                refine (place_calls wr w.heap.size G gu gr gt nW n cU cR cT A0 (some ⟨gD, 0, none⟩) A1 c0 cD c1 (Lf l1 259) l1 l0 (Dl l2 W) U R T (j : Int) U2 R2 T2 HS.out.hg HS.out.gS
                  (Kd.C_kept_came (Kd.heap_int .u8) H0.out HS.out.hb HS.out.own) (Kd.C_kept_own HS.out.hd (fun k hk he => by
                    subst hk
                    rcases he with he | he | he
                    · exact HS.out.du he
                    · exact HS.out.dr he
                    · exact HS.out.dt he)) (Kd.C_kept_came (Kd.heap_int .i64) H1.out HS.out.hb HS.out.own)
                  ⟨HS.out.hs.hu, HS.out.hs.hr, HS.out.hs.ht, Kept.refl _ _, HS.out.hs.ur, ⟨rfl, rfl, rfl⟩⟩ ⟨by omega, by have := HTT.out; omega⟩ ⟨HWB.out.1, HWB.out.2, HB0.out.1⟩ HLL.out.1 HLL.out.2.1 HLL.out.2.2 HN.out HBY.out HP1.out).mono ?_
                rintro e w2 ⟨rfl, hp2⟩
                have HS2 := Aside0.mk (HS.out.placed hp2)
                clear HS hp2
                go_wp2_with fail
                go_roundg k1
                case measure => omega
                case rel =>
                  refine ⟨k + 1, U2, R2, T2, ?_, ⟨?_⟩, HS2⟩
                  · first | rw [HWK.out] | rfl
                  · have h := HTT.out
                    exact ⟨h.1, h.2.1, h.2.2.1, h.2.2.2.1, h.2.2.2.2.1, h.2.2.2.2.2.1⟩
              · have d1b : decide ((k : Int) < (n : Int)) = false := decide_eq_false d1
                have d1c : decide (k < n) = false := decide_eq_false (by omega)
                have hpl := HT.out.2.2.1
                rw [show n - k = 0 by omega, placesF] at hpl
                obtain ⟨rfl, rfl, rfl⟩ : U = U1 ∧ R = R1 ∧ T = T1 := by
                  injection hpl with h
                  injection h with h1 h2
                  injection h2 with h3 h4
                  exact ⟨h1, h3, h4⟩
                have HTL := Aside0.mk (show T.length = n from HT.out.2.2.2.2.2)
                have HGB := Aside0.mk HS.out.hg
                have HTR := Aside0.mk HS.out.hs.ht
                have HB := Aside0.mk HS.out.hb
                have HGT := Aside0.mk (show gt < wr.heap.size ∧ w.heap.size ≤ gt from ⟨Kd.R_lt HS.out.hs.ht gt rfl, Kd.R_base HS.out.hs.ht gt rfl⟩)
                clear HT HS hpl d1
                go_wp2_with fail
                go_loopg [12, 13] (n + 1) (fun kq v12 v13 w' => ∃ (i : Int) (l : List S56), v13 = .int .i64 i ∧ Aside0 (rowF T kq i l = some rr ∧ l.length + kq = n + 1) ∧ Aside0 (Kd.R k56 56 w' w.heap.size (fun k => k ≠ gt) v12 l) ∧ Aside0 (Kd.R k56 56 w' w.heap.size (fun k => k = gt) (.slice (some ⟨gt, 0, none⟩) n cT) T) ∧ Aside0 (w'.heap[G]? = some (.cells (gcells (.slice A0 n c0) (.slice (some ⟨gD, 0, none⟩) nW cD) (.slice (some ⟨gu, 0, none⟩) nW cU) (.slice (some ⟨gr, 0, none⟩) (n + 1) cR) (.slice (some ⟨gt, 0, none⟩) n cT) (.slice A1 286 c1) (Lf l1 259)) 79 (0, 0))) ∧ Aside0 (Below w.heap.size w w'))
                case atStart => exact ⟨0, [], rfl, ⟨⟨HS3.out, by simp⟩⟩, ⟨Kd.R_nil _ _ _ _ _⟩, HTR, HGB, HB⟩
                case round =>
                  clear HTR HGB HB HS3 HGT
                  obtain ⟨i, l, rfl, HT, HO, HTR, HGB, HB⟩ := hrel
                  cases gk with
                  | zero => exact absurd HT.out.1 (by simp [rowF])
                  | succ k2 =>
                    have hrow := HT.out.1
                    rw [rowF, HTL.out] at hrow
                    by_cases e1 : i < (n : Int)
                    · rw [if_pos e1] at hrow
                      by_cases e0 : 0 ≤ i
                      rotate_left
                      · rw [if_neg e0] at hrow; cases hrow
                      rw [if_pos e0] at hrow
                      have e1b : decide (i < (n : Int)) = true := decide_eq_true e1
                      have z263 : wr.cell? ⟨G, 263, none⟩ = some (.slice (some ⟨gt, 0, none⟩) n cT) := (blk_cell HGB.out 263).trans (g_tail _ _ _ _ _ _ _ 3 (by omega))
                      obtain ⟨f0, hf0⟩ : ∃ x, (rd_T56 T i).f0 = x := ⟨_, rfl⟩
                      obtain ⟨f1, hf1⟩ : ∃ x, (rd_T56 T i).f1 = x := ⟨_, rfl⟩
                      obtain ⟨f2, hf2⟩ : ∃ x, (rd_T56 T i).f2 = x := ⟨_, rfl⟩
                      have y0 : wr.cell? ⟨gt, i.toNat * 3, none⟩ = some (.int .i64 f0) := by rw [← hf0]; exact cells56 HTR.out i e0 e1 0 _ rfl
                      have y1 : wr.cell? ⟨gt, i.toNat * 3 + 1, none⟩ = some (.int .i64 f1) := by rw [← hf1]; exact cells56 HTR.out i e0 e1 1 _ rfl
                      have y2 : wr.cell? ⟨gt, i.toNat * 3 + 2, none⟩ = some (.int .u8 f2) := by rw [← hf2]; exact cells56 HTR.out i e0 e1 2 _ rfl
                      have HFF := Aside0.mk (show rd_T56 T i = ⟨f0, f1, f2⟩ by rw [← hf0, ← hf1, ← hf2])
                      rw [HFF.out] at hrow
                      have HROW := Aside0.mk (show rowF T k2 (wrap64 (i + mx 1 f0)) (l ++ [⟨f0, f1, f2⟩]) = some rr ∧ (l ++ [(⟨f0, f1, f2⟩ : S56)]).length + k2 = n + 1 ∧ l.length ≤ n from ⟨hrow, by have := HT.out.2; rw [List.length_append]; simp; omega, by have := HT.out.2; omega⟩)
                      obtain ⟨mm, hmm⟩ : ∃ x, (if 1 < f0 then f0 else 1) = x := ⟨_, rfl⟩
                      have HMM := Aside0.mk (show mx 1 f0 = mm from hmm)
                      have E0 := Aside0.mk (And.intro e0 e1)
                      clear hf0 hf1 hf2 hrow HT
                      go_wp2_with (first
                        | ((with_reducible refine gate_builtin (b := .append) (xs := #[.tmp 51, .tmp 59]) rfl ?_); at_builtin; refine Kd.R_append k56 (w0 := w) w.heap.size rfl (.tmp 51) (.tmp 59) 35 56 (.agg #[.int .i64 0, .int .i64 0, .int .u8 0]) 24 rfl Tryd.underlying35 info56 rfl (by show 0 < 3; omega) (by omega) u12 l ⟨f0, f1, f2⟩ [.int .i64 f0, .int .i64 f1, .int .u8 f2] (fun k => k ≠ gt) (fun _ => False) rfl rfl ?aP (fun _ hk => hk.elim) ?aF ?aO ?aB ?aS ?aL ?_; (case aP => exact k56_mkM _ _ _ _); (case aB => exact HB.out); (case aF => exact (fun k hk he => by have := Kd.R_lt HTR.out gt rfl; omega)); (case aO => exact HO.out); (case aS => exact below_size HB.out); (case aL => have := HROW.out; have := HB0.out; omega); intro v12 w12 ho hb hgr hat; have HB2 := Aside0.mk hb; have HO2 := Aside0.mk ho; have HTR2 := Aside0.mk (Kd.R_grown HTR.out hgr (fun k hk he => by subst hk; exact HO.out.1 _ he.symm rfl)); have HGB2 := Aside0.mk (blk_grown HGB.out hgr (fun he => (Kd.R_ne HO.out HGB.out (by decide)) he)); clear HB HO HTR HGB; have HB := HB2; have HO := HO2; have HTR := HTR2; have HGB := HGB2; clear HB2 HO2 HTR2 HGB2 ho hb hgr hat z263 y0 y1 y2; have z263 : w12.cell? ⟨G, 263, none⟩ = some (.slice (some ⟨gt, 0, none⟩) n cT) := (blk_cell HGB.out 263).trans (g_tail _ _ _ _ _ _ _ 3 (by omega)); have y0 : w12.cell? ⟨gt, i.toNat * 3, none⟩ = some (.int .i64 f0) := (cells56 HTR.out i E0.out.1 E0.out.2 0 _ rfl).trans (by rw [HFF.out]))
                        | fail)
                      go_roundg k2
                      case measure => omega
                      case rel => exact ⟨wrap64 (i + mm), _, rfl, ⟨by rw [← HMM.out]; exact HROW.out.1, HROW.out.2.1⟩, HO, HTR, HGB, HB⟩
                    · rw [if_neg e1] at hrow
                      have e1b : decide (i < (n : Int)) = false := decide_eq_false e1
                      obtain rfl := Option.some.inj hrow
                      clear hrow HT
                      go_wp2_with fail
                      go_ret2
                      exact ⟨_, rfl, Kd.R_mono HO.out (fun _ _ => trivial), HB.out⟩
end Go.Proofs.YtpndhoefmepfdaaDoor.PSq
