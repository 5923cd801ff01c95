/- squeeze.search.reaches: the walk (under way). -/
import Derived.Test.YtpndhoefmepfdaaDoorCheapSpec
import Derived.Laws.CopyOwn
import Derived.Deep.CutRange
import Derived.BigQuiet
import Derived.IntWalk
import Derived.StillTailTactics
namespace Go.Proofs.YtpndhoefmepfdaaDoor.PSq
open Go.RowKit Go.Proofs.YtpndhoefmepfdaaDoorW.PrintWords Go.Proofs.YtpndhoefmepfdaaDoorW.PrintLast Go.Proofs.YtpndhoefmepfdaaDoorW.PrintMore
set_option linter.unusedVariables false
theorem grown_put {w w' : World} {row : Option Nat} (h : w.grownBy w' row) {p : Addr} (hp : some p.block = row ∨ w.heap.size ≤ p.block) (u : Value) : w.grownBy (w'.setCell p u) row :=
  ⟨h.os, h.tape, h.output, by have := h.size; simpa [World.setCell] using this, fun k hk hr => (Below.heap_setCell w' p u k (by
    rintro rfl
    rcases hp with hp | hp
    · exact hr hp
    · omega)).trans (h.block k hk hr)⟩
theorem grown_drewN {w w' : World} {row : Option Nat} (h : w.grownBy w' row) (n : Nat) : w.grownBy (w'.drewN n) row := ⟨h.os, h.tape, h.output, h.size, h.block⟩
theorem grown_drew {w w' : World} {row : Option Nat} (h : w.grownBy w' row) : w.grownBy w'.drew row := ⟨h.os, h.tape, h.output, h.size, h.block⟩
theorem grown_below {w w' w2 : World} {row : Option Nat} (h : w.grownBy w' row) (hb : Below w'.heap.size w' w2) : w.grownBy w2 row :=
  ⟨hb.os.trans h.os, hb.tape.trans h.tape, hb.output.trans h.output, Nat.le_trans h.size hb.size, fun k hk hr => (hb.block k (Nat.lt_of_lt_of_le hk h.size)).trans (h.block k hk hr)⟩
theorem grown_setRow {w w' : World} {row : Option Nat} (h : w.grownBy w' row) {g : Nat} (hp : some g = row ∨ w.heap.size ≤ g) (cs : Array Value) : w.grownBy (w'.setRow g cs) row :=
  ⟨h.os, h.tape, h.output, by have := h.size; simpa [World.setRow] using this, fun k hk hr => (setRow_other w' g k cs (by
    rintro rfl
    rcases hp with hp | hp
    · exact hr hp
    · omega)).trans (h.block k hk hr)⟩
theorem still_tail_drew {P : Program} {id : Nat} {Q : Exit → Act → World → Prop} {a : Act} {w : World} {l : List Oper} (n : Nat) (hm : P.follows .mixedOrders = true) (hB : Region.lexTailB .any l.toArray n = true)
    (h : wpStill P l.toArray w.drew (fun a' => wpList P l.toArray Q (l.drop n) a' w.drew) (l.take n) a) : (Code.region id l.toArray true).wp P Q a w := wp_region_still_tail n hm hB h
theorem pairs_one (b : Int → Int × Int) : ∀ n j, (pairs b n j).all (·.oneCell') = true := by
  intro n
  induction n with
  | zero => intro j; rfl
  | succ n ih => intro j; rw [pairs, List.all_cons, List.all_cons, ih]; rfl
theorem bcells_one (b : Int → Int × Int) : (bcells b).all (·.oneCell') = true := by
  unfold bcells
  have := pairs_one b 259 0
  simpa using this
attribute [local go_sem] max2_int min2_int max_two min_two
set_option maxHeartbeats 8000000 in
set_option maxRecDepth 100000 in
theorem reaches_calls (w : World) (base G gu n cU : Nat) (Ad AD : Option Addr) (cd cD : Nat) (vT vP vL : Value) (L : Int → Int) (data D U : List Int) (i : Int) (U1 : List Int) (b1 : Int → Int × Int)
    (hG : w.heap[G]? = some (.cells (gcells (.slice Ad data.length cd) (.slice AD n cD) (.slice (some ⟨gu, 0, none⟩) n cU) vT vP vL L) 79 (0, 0)))
    (hd : ∀ W', w.grownBy W' (some gu) → Kd.C (Kd.int .u8) W' Ad data.length data) (hD : ∀ W', w.grownBy W' (some gu) → Kd.C (Kd.int .i64) W' AD n D)
    (hU : Kd.R (Kd.int .i64) 3 w base (fun _ => True) (.slice (some ⟨gu, 0, none⟩) n cU) U)
    (hi : 0 ≤ i ∧ i < (data.length : Int)) (hl : 1 ≤ n ∧ n ≤ 40000 ∧ data.length ≤ 65536 ∧ U.length = n) (hr : reachesF data D U i = some (U1, b1)) :
    Calls Tryd.prog 47 #[.pointer (some ⟨G, 0, none⟩), .int .i64 i] w fun e w' => e = .returned (.agg (bcells b1)) ∧ Kd.R (Kd.int .i64) 3 w' base (fun _ => True) (.slice (some ⟨gu, 0, none⟩) n cU) U1 ∧ w.grownBy w' (some gu) := by
  obtain ⟨b0, hr0, hb0⟩ : ∃ b0, reachLoop data D i (U.length - 1) 1 U (fun _ => (0, 0)) = some (U1, b0) ∧ downLoop 255 257 b0 = b1 := by
    unfold reachesF at hr
    obtain ⟨s, h1, h2⟩ := Option.map_eq_some_iff.1 hr
    injection h2 with h3 h4
    exact ⟨s.2, by rw [h1, ← h3], h4⟩
  have HG := Aside0.mk hG
  have HD := Aside0.mk hD
  have HDT := Aside0.mk hd
  have HL := Aside0.mk hl
  have HI := Aside0.mk hi
  have HU := Aside0.mk hU
  have HR0 := Aside0.mk hr0
  have HB0 := Aside0.mk hb0
  have NEG := Aside0.mk (show some G ≠ some gu from fun he => by
    injection he with he
    subst he
    exact absurd (Kd.R_ne hU hG (by decide)) (by simp [Value.ownBlock]))
  have HGR := Aside0.mk (World.grownBy.refl w (some gu))
  have HB := Aside0.mk (Below.refl w.heap.size w)
  clear hG hD hU hd hl hi hr hr0 hb0
  go_enter Tryd.func47, Tryd.ntmps47
  go_wp2_with (first
    | ((with_reducible refine gate_dst (N := 4) rfl ?_); refine box_event ?hg (N := 4) ?hd (cs := bcells (fun _ => (0, 0))) (t := 95) ?hr ?_; (case hd => rfl); (case hg => rfl); (case hr => first | kernel_rfl | (go_simp; kernel_rfl)); intro ga hg w1 hbox hb; have HB1 := Aside0.mk (below_step HB.out hb); have BK4 := Aside0.mk hbox; have GE4 := Aside0.mk ((by rw [hg]; exact below_size HB.out) : w.heap.size ≤ ga); clear HB; have HB := HB1; clear HB1 hb hbox hg)
    | ((with_reducible refine gate_dst (N := 5) rfl ?_); refine box_event ?hg (N := 5) ?hd (cs := bcells (fun _ => (0, 0))) (t := 95) ?hr ?_; (case hd => rfl); (case hg => rfl); (case hr => first | kernel_rfl | (go_simp; kernel_rfl)); intro gb hg w2 hbox hb; have HB1 := Aside0.mk (below_step HB.out hb); have BK5 := Aside0.mk hbox; have GE5 := Aside0.mk ((by rw [hg]; exact below_size HB.out) : w.heap.size ≤ gb); have NE := Aside0.mk ((by rw [hg]; exact Nat.ne_of_lt (blk_lt BK4.out)) : ga ≠ gb); have BK41 := Aside0.mk (blk_below BK4.out hb); clear BK4 HB; have BK4 := BK41; have HB := HB1; clear BK41 HB1 hb hbox hg)
    | fail)
  have HGR2 := Aside0.mk (grown_of_below HB.out (some gu))
  have NBU := Aside0.mk (show gb ≠ gu ∧ ga ≠ gu from by
    have h1 := Kd.R_lt HU.out gu rfl
    have h2 := GE4.out
    have h3 := GE5.out
    exact ⟨by omega, by omega⟩)
  have HU2 := Aside0.mk (Kd.R_below HU.out HB.out)
  go_loopg [6] n (fun kq v6 w' => ∃ (d : Int) (Uc : List Int) (b : Int → Int × Int), v6 = .int .i64 d ∧ Aside0 (1 ≤ d ∧ d ≤ (n : Int) ∧ kq = ((n : Int) - d).toNat + 1 ∧ Uc.length = n ∧ reachLoop data D i ((n : Int) - d).toNat d Uc b = some (U1, b0)) ∧ Aside0 (Kd.R (Kd.int .i64) 3 w' base (fun _ => True) (.slice (some ⟨gu, 0, none⟩) n cU) Uc) ∧ Aside0 (w'.heap[gb]? = some (.cells (bcells b) 95 (0, 0))) ∧ Aside0 (w'.heap[ga]? = some (.cells (bcells (fun _ => (0, 0))) 95 (0, 0))) ∧ Aside0 (w.grownBy w' (some gu)))
  case atStart => exact ⟨1, U, fun _ => (0, 0), rfl, ⟨⟨by omega, by have := HL.out; omega, by have := HL.out; omega, HL.out.2.2.2, by have := HR0.out; rw [HL.out.2.2.2] at this; rw [show ((n : Int) - 1).toNat = n - 1 by omega]; exact this⟩⟩, HU2, BK5, BK4, HGR2⟩
  case round =>
    clear HU2 BK5 BK4 HGR2 HB HGR HU HR0
    obtain ⟨d, Uc, b, rfl, HT, HU, BK5, BK4, HGR⟩ := hrel
    cases gk with
    | zero => exact absurd HT.out.2.2.1 (by omega)
    | succ k1 =>
      obtain ⟨vd, hvd⟩ : ∃ v, Value.slice Ad data.length cd = v := ⟨_, rfl⟩
      have BG := Aside0.mk (blk_grown HG.out HGR.out NEG.out)
      have z0 : wr.cell? ⟨G, 0, none⟩ = some (.slice Ad data.length cd) := (blk_cell BG.out 0).trans (g_data _ _ _ _ _ _ _)
      have z260 : wr.cell? ⟨G, 260, none⟩ = some (.slice AD n cD) := (blk_cell BG.out 260).trans (g_tail _ _ _ _ _ _ _ 0 (by omega))
      have z261 : wr.cell? ⟨G, 261, none⟩ = some (.slice (some ⟨gu, 0, none⟩) n cU) := (blk_cell BG.out 261).trans (g_tail _ _ _ _ _ _ _ 1 (by omega))
      have h0 : 0 ≤ d := by have := HT.out; omega
      by_cases c1 : d < (n : Int)
      · have c1b : decide (d < (n : Int)) = true := decide_eq_true c1
        have hx1 := (Kd.R_celln (0 : Int) HU.out d h0 c1).1
        have hx2 := (Kd.R_celln (0 : Int) HU.out d h0 c1).2
        have HW := Aside0.mk (show wrap64 (d + 1) = d + 1 by have := HL.out; unfold wrap64; omega)
        have HT' := Aside0.mk (show 1 ≤ d + 1 ∧ d + 1 ≤ (n : Int) ∧ k1 = ((n : Int) - (d + 1)).toNat + 1 ∧ Uc.length = n ∧ reachLoop data D i (((n : Int) - (d + 1)).toNat + 1) d Uc b = some (U1, b0) by
          have h := HT.out
          rw [show ((n : Int) - d).toNat = ((n : Int) - (d + 1)).toNat + 1 by omega] at h
          exact ⟨by omega, by omega, by omega, h.2.2.2.1, h.2.2.2.2⟩)
        by_cases c2 : i < d
        · have c2b : decide (i < d) = true := decide_eq_true c2
          have HN := Aside0.mk (show reachLoop data D i ((n : Int) - (d + 1)).toNat (d + 1) (Uc.set d.toNat 0) b = some (U1, b0) by
            have h := HT'.out.2.2.2.2
            rwa [reachLoop, if_pos c2] at h)
          replace h0 := eq_true h0
          clear HT hvd vd
          go_wp2
          go_quiet (fail)
          go_wp2
          go_roundg k1
          case measure => omega
          case rel =>
            refine ⟨wrap64 (d + 1), Uc.set d.toNat 0, b, (by first | rfl | (simp; done) | (simp [*]; done)), ⟨by rw [HW.out]; exact ⟨HT'.out.1, HT'.out.2.1, HT'.out.2.2.1, by rw [List.length_set]; exact HT'.out.2.2.2.1, HN.out⟩⟩, ⟨?_⟩, ⟨?_⟩, ⟨?_⟩, ⟨?_⟩⟩
            · exact Kd.R_putn (Kd.R_drewN HU.out nq) d 0
            · exact blk_far (blk_drewN BK5.out nq) NBU.out.1 _
            · exact blk_far (blk_drewN BK4.out nq) NBU.out.2 _
            · exact grown_put (grown_drewN HGR.out nq) (.inl rfl) _
        · have c2b : decide (i < d) = false := decide_eq_false c2
          have hdt := HDT.out wr HGR.out
          obtain ⟨ad, e1, y1⟩ := Kd.at_int hdt (i - d) (by omega) (by have := HI.out; omega)
          cases e1
          obtain ⟨ad2, e2, y2⟩ := Kd.at_int hdt i HI.out.1 HI.out.2
          cases e2
          clear hdt
          obtain ⟨p, hp⟩ : ∃ p, rd data (i - d) = p := ⟨_, rfl⟩
          obtain ⟨q, hq⟩ : ∃ q, rd data i = q := ⟨_, rfl⟩
          rw [hp] at y1
          rw [hq] at y2
          have a0 : 0 ≤ i := HI.out.1
          have a1 : i < (data.length : Int) := HI.out.2
          have a2 : 0 ≤ i - d := by omega
          have a3 : i - d < (data.length : Int) := by omega
          have HWS := Aside0.mk (show IntKind.i64.wrap (i - d) = i - d from IntWalk.i64_in _ (by have := HL.out; have := HI.out; omega))
          by_cases c3 : p = q
          · have c3b : (p != q) = false := by rw [c3]; simp
            obtain ⟨u, hu⟩ : ∃ u, rdOf 0 Uc d = u := ⟨_, rfl⟩
            rw [hu] at hx1
            have HN := Aside0.mk (show (if 0 ≤ capped (wrap64 (u + 1)) then reachLoop data D i ((n : Int) - (d + 1)).toNat (d + 1) (Uc.set d.toNat (wrap64 (u + 1))) (if better (rd D d, d) (b (capped (wrap64 (u + 1)))) = true then updI b (capped (wrap64 (u + 1))) (rd D d, d) else b) else none) = some (U1, b0) by
              have h := HT'.out.2.2.2.2
              rw [reachLoop, if_neg c2, hp, hq, if_pos c3] at h
              rw [← hu]
              exact h)
            have hws := HWS.out
            replace h0 := eq_true h0
            clear HT hvd vd hp hq hu
            go_wp2
            go_quiet (fail)
            clear hws
            go_upto_region 8 with fail
            have HU7 := Aside0.mk (Kd.R_putn (Kd.R_drewN HU.out nq) d (wrap64 (u + 1)))
            have BK57 := Aside0.mk (blk_far (p := ⟨gu, d.toNat, none⟩) (blk_drewN BK5.out nq) NBU.out.1 (.int .i64 (wrap64 (u + 1))))
            have BK47 := Aside0.mk (blk_far (p := ⟨gu, d.toNat, none⟩) (blk_drewN BK4.out nq) NBU.out.2 (.int .i64 (wrap64 (u + 1))))
            have HGR7 := Aside0.mk (grown_put (p := ⟨gu, d.toNat, none⟩) (grown_drewN HGR.out nq) (.inl rfl) (.int .i64 (wrap64 (u + 1))))
            clear HU BK5 BK4 HGR BG z0 z260 z261 hx1 hx2 y1 y2
            generalize wrap64 (u + 1) = u1 at HN HU7 BK57 BK47 HGR7 ⊢
            generalize (wr.drewN nq).setCell ⟨gu, d.toNat, none⟩ (.int .i64 u1) = w7 at HU7 BK57 BK47 HGR7 ⊢
            obtain ⟨m, hm⟩ : ∃ m, (if 258 < u1 then (258 : Int) else u1) = m := ⟨_, rfl⟩
            have hm' : capped u1 = m := hm
            rw [hm'] at HN
            have hm2 : m ≤ 258 := by rw [← hm]; split <;> omega
            by_cases m0 : 0 ≤ m
            rotate_left
            · have h := HN.out
              rw [if_neg m0] at h
              cases h
            have BG := Aside0.mk (blk_grown HG.out HGR7.out NEG.out)
            have z260 : w7.cell? ⟨G, 260, none⟩ = some (.slice AD n cD) := (blk_cell BG.out 260).trans (g_tail _ _ _ _ _ _ _ 0 (by omega))
            have z261 : w7.cell? ⟨G, 261, none⟩ = some (.slice (some ⟨gu, 0, none⟩) n cU) := (blk_cell BG.out 261).trans (g_tail _ _ _ _ _ _ _ 1 (by omega))
            have hx1 : w7.cell? ⟨gu, d.toNat, none⟩ = some (.int .i64 u1) := by
              have := (Kd.R_celln (0 : Int) HU7.out d (by have := HT'.out; omega) c1).1
              rw [this]
              unfold rdOf
              rw [List.getD_eq_getElem?_getD, List.getElem?_set, if_pos rfl, if_pos (by have := HT'.out; omega)]
              rfl
            obtain ⟨ae, e3, y3⟩ := Kd.at_int (HD.out w7 HGR7.out) d (by have := HT'.out; omega) c1
            cases e3
            obtain ⟨P, hP⟩ : ∃ P, rd D d = P := ⟨_, rfl⟩
            rw [hP] at y3 HN
            rw [if_pos m0] at HN
            have HM := Aside0.mk (And.intro m0 hm2)
            clear hP hm'
            go_upto_region 10 with (first
              | ((with_reducible refine gate_dst (N := 8) rfl ?_); refine box_event ?hg (N := 8) ?hd (cs := #[.int .i64 0, .int .i64 0]) (t := 94) ?hr ?_; (case hd => rfl); (case hg => rfl); (case hr => first | kernel_rfl | (go_simp; kernel_rfl)); intro g8 hg w8 hbox hb; have HB8 := Aside0.mk hb; have BK8 := Aside0.mk hbox; have GE8 := Aside0.mk (Nat.le_of_eq hg.symm); have hcz0 : w8.cell? ⟨g8, 0, none⟩ = some (.int .i64 0) := (blk_cell BK8.out 0).trans rfl; have hcz1 : w8.cell? ⟨g8, 1, none⟩ = some (.int .i64 0) := (blk_cell BK8.out 1).trans rfl; have hfz0 := blk_frozen BK8.out 0; have hfz1 := blk_frozen BK8.out 1; clear hb hbox hg)
              | fail)
            have BK9 := Aside0.mk (blk_put (blk_put BK8.out 0 (.int .i64 P) (cs' := #[.int .i64 P, .int .i64 0]) rfl) 1 (.int .i64 d) (cs' := #[.int .i64 P, .int .i64 d]) rfl)
            have HB9 := Aside0.mk (below_set (j := 1) (v := .int .i64 d) (below_set (j := 0) (v := .int .i64 P) HB8.out GE8.out) GE8.out)
            clear hcz0 hcz1 hfz0 hfz1 BK8 HB8
            generalize (w8.setCell ⟨g8, 0, none⟩ (.int .i64 P)).setCell ⟨g8, 1, none⟩ (.int .i64 d) = w9 at BK9 HB9 ⊢
            have HU9 := Aside0.mk (Kd.R_drew (Kd.R_below HU7.out HB9.out))
            have BK59 := Aside0.mk (blk_drew (blk_below BK57.out HB9.out))
            have BK49 := Aside0.mk (blk_drew (blk_below BK47.out HB9.out))
            have HGR9 := Aside0.mk (grown_drew (grown_below HGR7.out HB9.out))
            have BKX := Aside0.mk (blk_drew BK9.out)
            have N8 := Aside0.mk (show g8 ≠ gb from fun he => by
              have h1 := blk_lt BK57.out
              have h2 := GE8.out
              omega)
            clear HU7 BK57 BK47 HGR7 z260 z261 hx1 y3 BG BK9 HB9 HG
            refine still_tail_drew 4 (by kernel_rfl) (by kernel_rfl) ?_
            generalize w9.drew = wd at HU9 BK59 BK49 HGR9 BKX ⊢
            obtain ⟨P0, hP0⟩ : ∃ P0, (b m).1 = P0 := ⟨_, rfl⟩
            obtain ⟨d0, hd0⟩ : ∃ d0, (b m).2 = d0 := ⟨_, rfl⟩
            have x0 : wd.cell? ⟨g8, 0, none⟩ = some (.int .i64 P) := (blk_cell BKX.out 0).trans rfl
            have x1 : wd.cell? ⟨g8, 1, none⟩ = some (.int .i64 d) := (blk_cell BKX.out 1).trans rfl
            have x2 : wd.cell? ⟨gb, m.toNat * 2, none⟩ = some (.int .i64 P0) := by rw [blk_cell BK59.out, (b_get b m HM.out.1 (by have := HM.out; omega)).1, hP0]
            have x3 : wd.cell? ⟨gb, m.toNat * 2 + 1, none⟩ = some (.int .i64 d0) := by rw [blk_cell BK59.out, (b_get b m HM.out.1 (by have := HM.out; omega)).2, hd0]
            have m1 : m < 259 := by have := HM.out; omega
            have HP0 := Aside0.mk (show b m = (P0, d0) from Prod.ext hP0 hd0)
            clear hP0 hd0
            simp only [List.take_succ_cons, List.take_zero, List.drop_succ_cons, List.drop_zero]
            repeat still_step
            refine wpStill_nil ?_
            go_wp2_with fail
            go_at_call 57
            refine (squeeze_reach_better.calls P d P0 d0 (better (P, d) (P0, d0)) _ (better_eq (P, d) (P0, d0))).mono ?_
            rintro e w10 ⟨rfl, hb10⟩
            have HU10 := Aside0.mk (Kd.R_below HU9.out hb10)
            have BK5A := Aside0.mk (blk_below BK59.out hb10)
            have BK4A := Aside0.mk (blk_below BK49.out hb10)
            have HGRA := Aside0.mk (grown_below HGR9.out hb10)
            have BKXA := Aside0.mk (blk_below BKX.out hb10)
            have hn := HN.out
            rw [HP0.out] at hn
            clear HU9 BK59 BK49 HGR9 BKX x0 x1 x2 x3 hb10 HN
            generalize better (P, d) (P0, d0) = B at hn ⊢
            cases B with
            | false =>
              rw [if_neg (by decide)] at hn
              have HN2 := Aside0.mk hn
              clear hn
              go_wp2_with fail
              go_roundg k1
              case measure => omega
              case rel =>
                refine ⟨wrap64 (d + 1), Uc.set d.toNat u1, b, (by first | rfl | (simp; done) | (simp [*]; done)), ⟨by rw [HW.out]; exact ⟨HT'.out.1, HT'.out.2.1, HT'.out.2.2.1, by rw [List.length_set]; exact HT'.out.2.2.2.1, HN2.out⟩⟩, HU10, BK5A, BK4A, HGRA⟩
            | true =>
              rw [if_pos rfl] at hn
              have HN2 := Aside0.mk hn
              have x0 : w10.cell? ⟨g8, 0, none⟩ = some (.int .i64 P) := (blk_cell BKXA.out 0).trans rfl
              have x1 : w10.cell? ⟨g8, 1, none⟩ = some (.int .i64 d) := (blk_cell BKXA.out 1).trans rfl
              have x2 : w10.cell? ⟨gb, m.toNat * 2, none⟩ = some (.int .i64 (b m).1) := by rw [blk_cell BK5A.out, (b_get b m HM.out.1 (by have := HM.out; omega)).1]
              have x3 : w10.cell? ⟨gb, m.toNat * 2 + 1, none⟩ = some (.int .i64 (b m).2) := by rw [blk_cell BK5A.out, (b_get b m HM.out.1 (by have := HM.out; omega)).2]
              have f2 := blk_frozen BK5A.out (m.toNat * 2)
              have f3 := blk_frozen BK5A.out (m.toNat * 2 + 1)
              clear hn
              go_wp2_with fail
              go_roundg k1
              case measure => omega
              case rel =>
                refine ⟨wrap64 (d + 1), Uc.set d.toNat u1, updI b m (P, d), (by first | rfl | (simp; done) | (simp [*]; done)), ⟨by rw [HW.out]; exact ⟨HT'.out.1, HT'.out.2.1, HT'.out.2.2.1, by rw [List.length_set]; exact HT'.out.2.2.2.1, HN2.out⟩⟩, ⟨?_⟩, ⟨?_⟩, ⟨?_⟩, ⟨?_⟩⟩
                · refine Kd.R_of_own (own_setCell (own_setCell (Kd.own_of_R HU10.out) (fun he => ?_) _) (fun he => ?_) _) (fun _ _ => trivial)
                  · exact NBU.out.1 (Option.some.inj he)
                  · exact NBU.out.1 (Option.some.inj he)
                · exact blk_put (blk_set BK5A.out _ _) _ _ (b_set b m (P, d) HM.out.1 m1)
                · exact blk_far (blk_far BK4A.out NE.out _) NE.out _
                · exact grown_put (grown_put HGRA.out (.inr GE5.out) _) (.inr GE5.out) _
          · have c3b : (p != q) = true := bne_iff_ne.2 c3
            have HN := Aside0.mk (show reachLoop data D i ((n : Int) - (d + 1)).toNat (d + 1) (Uc.set d.toNat 0) b = some (U1, b0) by
              have h := HT'.out.2.2.2.2
              rwa [reachLoop, if_neg c2, hp, hq, if_neg c3] at h)
            have hws := HWS.out
            replace h0 := eq_true h0
            clear HT hvd vd hp hq
            go_wp2
            go_quiet (fail)
            clear hws
            go_wp2
            go_roundg k1
            case measure => omega
            case rel =>
              refine ⟨wrap64 (d + 1), Uc.set d.toNat 0, b, (by first | rfl | (simp; done) | (simp [*]; done)), ⟨by rw [HW.out]; exact ⟨HT'.out.1, HT'.out.2.1, HT'.out.2.2.1, by rw [List.length_set]; exact HT'.out.2.2.2.1, HN.out⟩⟩, ⟨?_⟩, ⟨?_⟩, ⟨?_⟩, ⟨?_⟩⟩
              · exact Kd.R_putn (Kd.R_drewN HU.out nq) d 0
              · exact blk_far (blk_drewN BK5.out nq) NBU.out.1 _
              · exact blk_far (blk_drewN BK4.out nq) NBU.out.2 _
              · exact grown_put (grown_drewN HGR.out nq) (.inl rfl) _
      · have c1b : decide (d < (n : Int)) = false := decide_eq_false c1
        have hend := HT.out.2.2.2.2
        rw [show ((n : Int) - d).toNat = 0 by omega, reachLoop] at hend
        obtain ⟨rfl, rfl⟩ : Uc = U1 ∧ b = b0 := by
          injection hend with h
          injection h with h1 h2
          exact ⟨h1, h2⟩
        clear HT hvd vd z0 z260 hend h0 c1
        go_wp2_with fail
        clear BG c1b z261
        go_loopg [9] 256 (fun kq v9 w' => ∃ (m : Int) (b' : Int → Int × Int), v9 = .int .i64 m ∧ Aside0 (2 ≤ m ∧ m ≤ 257 ∧ kq = (m - 2).toNat + 1 ∧ downLoop (m - 2).toNat m b' = b1) ∧ Aside0 (Kd.R (Kd.int .i64) 3 w' base (fun _ => True) (.slice (some ⟨gu, 0, none⟩) n cU) Uc) ∧ Aside0 (w'.heap[gb]? = some (.cells (bcells b') 95 (0, 0))) ∧ Aside0 (w'.heap[ga]? = some (.cells (bcells (fun _ => (0, 0))) 95 (0, 0))) ∧ Aside0 (w.grownBy w' (some gu)))
        case atStart => exact ⟨257, b, rfl, ⟨⟨by omega, by omega, by omega, HB0.out⟩⟩, HU, BK5, BK4, HGR⟩
        case round =>
          clear HU BK5 BK4 HGR HB0
          obtain ⟨m, b', rfl, HT, HU, BK5, BK4, HGR⟩ := hrel
          cases gk with
          | zero => exact absurd HT.out.2.2.1 (by omega)
          | succ k2 =>
            by_cases c4 : 3 ≤ m
            · have c4b : decide (3 ≤ m) = true := decide_eq_true c4
              have hws : IntKind.i64.wrap (m + 1) = m + 1 := IntWalk.i64_in _ (by have := HT.out; omega)
              obtain ⟨P, hP⟩ : ∃ P0, (b' (m + 1)).1 = P0 := ⟨_, rfl⟩
              obtain ⟨d, hd⟩ : ∃ d0, (b' (m + 1)).2 = d0 := ⟨_, rfl⟩
              obtain ⟨P0, hP0⟩ : ∃ P0, (b' m).1 = P0 := ⟨_, rfl⟩
              obtain ⟨d0, hd0⟩ : ∃ d0, (b' m).2 = d0 := ⟨_, rfl⟩
              have m1 : m < 259 := by have := HT.out; omega
              have m2 : m + 1 < 259 := by have := HT.out; omega
              have m3 : 0 ≤ m + 1 := by omega
              have m4 : 0 ≤ m := by omega
              have x0 : wr.cell? ⟨gb, (m + 1).toNat * 2, none⟩ = some (.int .i64 P) := by rw [blk_cell BK5.out, (b_get b' (m + 1) m3 m2).1, hP]
              have x1 : wr.cell? ⟨gb, (m + 1).toNat * 2 + 1, none⟩ = some (.int .i64 d) := by rw [blk_cell BK5.out, (b_get b' (m + 1) m3 m2).2, hd]
              have x2 : wr.cell? ⟨gb, m.toNat * 2, none⟩ = some (.int .i64 P0) := by rw [blk_cell BK5.out, (b_get b' m m4 m1).1, hP0]
              have x3 : wr.cell? ⟨gb, m.toNat * 2 + 1, none⟩ = some (.int .i64 d0) := by rw [blk_cell BK5.out, (b_get b' m m4 m1).2, hd0]
              have HP := Aside0.mk (show b' (m + 1) = (P, d) ∧ b' m = (P0, d0) from ⟨Prod.ext hP hd, Prod.ext hP0 hd0⟩)
              have HN := Aside0.mk (show 2 ≤ m - 1 ∧ m - 1 ≤ 257 ∧ k2 = (m - 1 - 2).toNat + 1 ∧ downLoop (m - 1 - 2).toNat (m - 1) (if better (P, d) (P0, d0) = true then updI b' m (P, d) else b') = b1 by
                have h := HT.out
                have h2 := h.2.2.2
                rw [show (m - 2).toNat = (m - 1 - 2).toNat + 1 by omega, downLoop, HP.out.1, HP.out.2] at h2
                exact ⟨by omega, by omega, by omega, h2⟩)
              have HMM := Aside0.mk (And.intro m4 m1)
              have HW2 := Aside0.mk (show wrap64 (m - 1) = m - 1 by unfold wrap64; omega)
              clear hP hd hP0 hd0 HT
              go_wp2_with fail
              refine still_tail_drew 7 (by kernel_rfl) (by kernel_rfl) ?_
              have HU9 := Aside0.mk (Kd.R_drew HU.out)
              have BK59 := Aside0.mk (blk_drew BK5.out)
              have BK49 := Aside0.mk (blk_drew BK4.out)
              have HGR9 := Aside0.mk (grown_drew HGR.out)
              replace x0 : wr.drew.cell? ⟨gb, (m + 1).toNat * 2, none⟩ = some (.int .i64 P) := x0
              replace x1 : wr.drew.cell? ⟨gb, (m + 1).toNat * 2 + 1, none⟩ = some (.int .i64 d) := x1
              replace x2 : wr.drew.cell? ⟨gb, m.toNat * 2, none⟩ = some (.int .i64 P0) := x2
              replace x3 : wr.drew.cell? ⟨gb, m.toNat * 2 + 1, none⟩ = some (.int .i64 d0) := x3
              clear HU BK5 BK4 HGR
              generalize wr.drew = wd at HU9 BK59 BK49 HGR9 x0 x1 x2 x3 ⊢
              simp only [List.take_succ_cons, List.take_zero, List.drop_succ_cons, List.drop_zero]
              repeat still_step
              refine wpStill_nil ?_
              clear hws
              go_wp2_with fail
              go_at_call 57
              refine (squeeze_reach_better.calls P d P0 d0 (better (P, d) (P0, d0)) _ (better_eq (P, d) (P0, d0))).mono ?_
              rintro e w10 ⟨rfl, hb10⟩
              have HU10 := Aside0.mk (Kd.R_below HU9.out hb10)
              have BK5A := Aside0.mk (blk_below BK59.out hb10)
              have BK4A := Aside0.mk (blk_below BK49.out hb10)
              have HGRA := Aside0.mk (grown_below HGR9.out hb10)
              have hn := HN.out.2.2.2
              have HN1 := Aside0.mk (And.intro HN.out.1 (And.intro HN.out.2.1 HN.out.2.2.1))
              clear HU9 BK59 BK49 HGR9 x0 x1 x2 x3 hb10 HN
              generalize better (P, d) (P0, d0) = B at hn ⊢
              cases B with
              | false =>
                rw [if_neg (by decide)] at hn
                have HN2 := Aside0.mk hn
                clear hn
                go_wp2_with fail
                go_roundg k2
                case measure => omega
                case rel =>
                  refine ⟨m - 1, b', (by first | rfl | (simp; done) | (simp [*]; done)), ⟨by exact ⟨HN1.out.1, HN1.out.2.1, HN1.out.2.2, HN2.out⟩⟩, HU10, BK5A, BK4A, HGRA⟩
              | true =>
                rw [if_pos rfl] at hn
                have HN2 := Aside0.mk hn
                have x0 : w10.cell? ⟨gb, (m + 1).toNat * 2, none⟩ = some (.int .i64 P) := by rw [blk_cell BK5A.out, (b_get b' (m + 1) m3 m2).1, HP.out.1]
                have x1 : w10.cell? ⟨gb, (m + 1).toNat * 2 + 1, none⟩ = some (.int .i64 d) := by rw [blk_cell BK5A.out, (b_get b' (m + 1) m3 m2).2, HP.out.1]
                have x2 : w10.cell? ⟨gb, m.toNat * 2, none⟩ = some (.int .i64 P0) := by rw [blk_cell BK5A.out, (b_get b' m m4 m1).1, HP.out.2]
                have x3 : w10.cell? ⟨gb, m.toNat * 2 + 1, none⟩ = some (.int .i64 d0) := by rw [blk_cell BK5A.out, (b_get b' m m4 m1).2, HP.out.2]
                have f2 := blk_frozen BK5A.out (m.toNat * 2)
                have f3 := blk_frozen BK5A.out (m.toNat * 2 + 1)
                clear hn
                go_wp2_with fail
                go_roundg k2
                case measure => omega
                case rel =>
                  refine ⟨m - 1, updI b' m (P, d), (by first | rfl | (simp; done) | (simp [*]; done)), ⟨by exact ⟨HN1.out.1, HN1.out.2.1, HN1.out.2.2, HN2.out⟩⟩, ⟨?_⟩, ⟨?_⟩, ⟨?_⟩, ⟨?_⟩⟩
                  · refine Kd.R_of_own (own_setCell (own_setCell (Kd.own_of_R HU10.out) (fun he => ?_) _) (fun he => ?_) _) (fun _ _ => trivial)
                    · exact NBU.out.1 (Option.some.inj he)
                    · exact NBU.out.1 (Option.some.inj he)
                  · exact blk_put (blk_set BK5A.out _ _) _ _ (b_set b' m (P, d) HMM.out.1 HMM.out.2)
                  · exact blk_far (blk_far BK4A.out NE.out _) NE.out _
                  · exact grown_put (grown_put HGRA.out (.inr GE5.out) _) (.inr GE5.out) _
            · have c4b : decide (3 ≤ m) = false := decide_eq_false c4
              have hend := HT.out.2.2.2
              rw [show (m - 2).toNat = 0 by omega, downLoop] at hend
              obtain rfl := hend
              clear HT c4
              go_wp2_with (first
                | (refine wpList_load_row (by rfl) 95 (.tmp 5) (by rfl) gb (by first | rfl | (go_simp; done) | (go_simp; rfl)) 95 _ (0, 0) _ BK5.out Tryd.underlying95 rfl (by kernel_rfl) ?_)
                | (refine wpList_store_row (by rfl) 95 (.tmp 4) (.tmp 99) (by rfl) ga (bcells b') (by first | rfl | (go_simp; done) | (go_simp; rfl)) (by first | rfl | (go_simp; done) | (go_simp; rfl)) 95 _ BK4.out (by kernel_rfl) (by rw [bcells_size, bcells_size]) (bcells_one _) ?_)
                | fail)
              refine bodyPost_ret (v := .agg (bcells b')) ?_ ?_ ?_
              rotate_left
              · rfl
              · refine ⟨rfl, ?_, grown_setRow HGR.out (.inr GE4.out) _⟩
                refine Kd.R_of_own (World.ownsRow.kept (Kd.own_of_R HU.out) (grown_setRow (World.grownBy.refl wr (some ga)) (.inl rfl) _) (.inr fun he => ?_)) (fun _ _ => trivial)
                exact NBU.out.2 (Option.some.inj he).symm
              exact results_cell_row (p := 4) (ty := 95) Tryd.results47 _ _ ga 95 _ (0, 0) _ (by rfl) (setRow_heap _ ga _ _ 95 (0, 0) BK4.out) Tryd.underlying95 rfl (by kernel_rfl)
end Go.Proofs.YtpndhoefmepfdaaDoor.PSq
