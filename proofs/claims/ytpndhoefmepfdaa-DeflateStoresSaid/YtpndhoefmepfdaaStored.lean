/- deflate.Stored: what it answers, as a plain function. No condition. -/
import Derived.Test.YtpndhoefmepfdaaPStx1
import Derived.Laws.CopyOwn
import Derived.StillTailTactics
namespace Go.Proofs.Ytpndhoefmepfdaa.PSt
open Go.RowKit Go.Proofs.YtpndhoefmepfdaaW.PrintWords Go.Proofs.YtpndhoefmepfdaaW.PrintLast Go.Proofs.YtpndhoefmepfdaaW.PrintMore
set_option linter.unusedVariables false
def head5 (n fin : Int) : List Int := [fin, n % 256, n / 256, (65535 - n) % 256, (65535 - n) / 256]
def storedGo : Nat → List Int → List Int → Option (List Int)
  | 0, _, _ => none
  | k + 1, out, data => if (data.length : Int) ≤ 65535 then some (out ++ head5 (data.length : Int) 1 ++ data) else storedGo k (out ++ head5 65535 0 ++ data.take 65535) (data.drop 65535)
def deflate_Stored.f (l0 : List Int) : Option (List Int × Int) := if (l0.length : Int) > 16777216 then some ([], 1) else (storedGo (l0.length + 1) [] l0).map fun r => (r, 0)
set_option maxHeartbeats 8000000 in
set_option maxRecDepth 100000 in
theorem deflate_Stored.calls (A0 : Option Addr) (c0 : Nat) (l0 : List Int) (r1 : List Int) (r2 : Int) (w : World) (hr0 : Kd.C (Kd.int .u8) w A0 l0.length l0) (hc0 : l0.length ≤ c0) (h : deflate_Stored.f l0 = some (r1, r2)) :
    Calls Try.prog 17 #[.slice A0 l0.length c0] w fun e w' => ∃ v0_ : Value, e = .returned (.tuple #[v0_, .int .i64 r2]) ∧ Kd.R (Kd.int .u8) 5 w' w.heap.size (fun _ => True) v0_ r1 ∧ Below w.heap.size w w' := by
  have HR0 := Aside0.mk hr0
  have HC0 := Aside0.mk hc0
  have HB := Aside0.mk (Below.refl w.heap.size w)
  unfold deflate_Stored.f at h
  clear hr0 hc0
  by_cases c2 : (l0.length : Int) > 16777216
  · rw [if_pos c2] at h
    have c2b0 : decide (16777216 < (l0.length : Int)) = true := decide_eq_true c2
    have c2b1 : decide (16777216 < l0.length) = true := decide_eq_true (by omega)
    clear c2
    simp only [Option.some.injEq, Prod.mk.injEq] at h
    obtain ⟨rfl, rfl⟩ := h
    go_enter Try.func17, Try.ntmps17
    go_wp2
    go_ret2
    exact ⟨_, rfl, Kd.R_nil _ _ _ _ _, HB.out⟩
  · rw [if_neg c2] at h
    have c2b0 : decide (16777216 < (l0.length : Int)) = false := decide_eq_false c2
    have c2b1 : decide (16777216 < l0.length) = false := decide_eq_false (by omega)
    have LN := Aside0.mk (show l0.length ≤ 16777216 by omega)
    obtain ⟨rr, hrr, hx⟩ := Option.map_eq_some_iff.1 h
    simp only [Prod.mk.injEq] at hx
    obtain ⟨rfl, rfl⟩ := hx
    have HG := Aside0.mk hrr
    clear c2 h hrr
    go_enter Try.func17, Try.ntmps17
    go_wp2
    go_loopg [0, 4] (l0.length + 1) (fun kq v0 v4 w' => ∃ (out data : List Int) (A : Option Addr) (c : Nat), v0 = .slice A data.length c ∧ Aside0 (storedGo kq out data = some rr) ∧ Aside0 (kq ≤ l0.length + 1) ∧ Aside0 (Kd.C (Kd.int .u8) w A data.length data) ∧ Aside0 (data.length ≤ c ∧ data.length ≤ l0.length ∧ out.length + 6 * data.length ≤ 6 * l0.length) ∧ Aside0 (Kd.R (Kd.int .u8) 5 w' w.heap.size (fun _ => True) v4 out) ∧ Aside0 (Below w.heap.size w w'))
    case atStart => exact ⟨[], l0, A0, c0, rfl, HG, ⟨Nat.le_refl _⟩, HR0, ⟨⟨HC0.out, Nat.le_refl _, by simp⟩⟩, ⟨Kd.R_nil _ _ _ _ _⟩, HB⟩
    case round =>
      clear HB HG
      obtain ⟨out, data, A, c, rfl, HG, HK, HRD, HT, HO, HB⟩ := hrel
      cases gk with
      | zero => exact absurd HG.out (by simp [storedGo])
      | succ k1 =>
        have hg := HG.out
        clear HG
        rw [storedGo] at hg
        obtain ⟨i0, hi0, _, hsz0, _⟩ := info_parts info5
        by_cases c3 : (data.length : Int) ≤ 65535
        · rw [if_pos c3] at hg
          have HRR := Aside0.mk (show out ++ [1, (data.length : Int) % 256, (data.length : Int) / 256, (65535 - (data.length : Int)) % 256, (65535 - (data.length : Int)) / 256] ++ data = rr from Option.some.inj hg)
          clear hg
          have hm : (if 65535 < (data.length : Int) then 65535 else (data.length : Int)) = (data.length : Int) := if_neg (by omega)
          have b1 : ((data.length : Int) == (data.length : Int)) = true := beq_iff_eq.2 rfl
          have hcut1 := cut_to (P := Try.prog) 22 5 .i64 Try.underlying22 hi0 A data.length c (data.length : Int) (by omega) (by omega) HT.out.1
          have hcut2 := cut_from (P := Try.prog) 22 5 .i64 Try.underlying22 hi0 1 hsz0 A data.length c (data.length : Int) (by omega) (by omega)
          rw [Int.toNat_natCast] at hcut1 hcut2
          obtain ⟨A1, hA1⟩ : ∃ A1, (if c = data.length then A else (A : Option Addr).map (·.add (data.length * 1))) = A1 := ⟨_, rfl⟩
          rw [hA1] at hcut2
          clear c3 hi0 hsz0 hA1
          go_wp2_with (first
            | ((with_reducible refine gate_dst (N := 32) rfl ?_); refine Kd.R_lit (Kd.int .u8) _ 5 ?hg (N := 32) ?hd (xs := ([1, (data.length : Int) % 256, (data.length : Int) / 256, (65535 - (data.length : Int)) % 256, (65535 - (data.length : Int)) / 256] : List Int)) (inner := [.int .u8 1, .int .u8 ((data.length : Int) % 256), .int .u8 ((data.length : Int) / 256), .int .u8 ((65535 - (data.length : Int)) % 256), .int .u8 ((65535 - (data.length : Int)) / 256)]) (ok := fun _ => True) (okp := fun _ => True) ?hr ?hp (fun _ hk => hk) trivial (Below.refl _ _) (Nat.le_refl _) (by simp) ?_; (case hd => rfl); (case hg => rfl); (case hr => first | (go_simp; done) | (go_simp; rfl)); (case hp => exact (Reps.one (show Kd.M (Kd.int .u8) _ _ _ _ [_] from rfl) (Reps.one (show Kd.M (Kd.int .u8) _ _ _ _ [_] from rfl) (Reps.one (show Kd.M (Kd.int .u8) _ _ _ _ [_] from rfl) (Reps.one (show Kd.M (Kd.int .u8) _ _ _ _ [_] from rfl) (Reps.one (show Kd.M (Kd.int .u8) _ _ _ _ [_] from rfl) (Reps.none _ _))))))); intro v32 w1 ho hb hg_ hnew_; obtain ⟨Ao, co, rfl⟩ := Kd.R_slice ho; have HL := Aside0.mk (Kd.R_lower ho (below_size HB.out)); have HO1 := Aside0.mk (Kd.R_below HO.out hb); have HB1 := Aside0.mk (below_step HB.out hb); clear HO HB ho hb hg_ hnew_)
            | ((with_reducible refine gate_builtin (b := .append) (xs := #[.tmp 20, .tmp 32]) rfl ?_); at_builtin; refine Kd.R_append_rows (Kd.int .u8) (w0 := w) w.heap.size rfl (.tmp 20) (.tmp 32) 22 5 (.int .u8 0) 1 rfl Try.underlying22 info5 rfl (by decide) (by omega) u4 out (([1, (data.length : Int) % 256, (data.length : Int) / 256, (65535 - (data.length : Int)) % 256, (65535 - (data.length : Int)) / 256] : List Int)) _ _ _ (fun _ => True) (fun _ => False) rfl rfl HO1.out (Kd.R_reads' HL.out).2.2 (fun _ _ h => h) (fun _ h => h.elim) (fun _ _ => trivial) HB1.out (below_size HB1.out) (by have := HT.out; have := LN.out; simp; omega) ?_; intro v33 w2 ho hb hgr hat; have HO2 := Aside0.mk ho; have HB2 := Aside0.mk hb; clear HO1 HB1 HL ho hb hgr hat)
            | ((with_reducible refine gate_builtin (b := .append) (xs := #[.tmp 34, .tmp 37]) rfl ?_); at_builtin; refine Kd.R_append_rows (Kd.int .u8) (w0 := w) w.heap.size rfl (.tmp 34) (.tmp 37) 22 5 (.int .u8 0) 1 rfl Try.underlying22 info5 rfl (by decide) (by omega) v33 (out ++ ([1, (data.length : Int) % 256, (data.length : Int) / 256, (65535 - (data.length : Int)) % 256, (65535 - (data.length : Int)) / 256] : List Int)) (data) _ _ _ (fun _ => True) (fun _ => False) rfl rfl HO2.out (Kd.C_below HRD.out HB2.out) (fun _ _ h => h) (fun _ h => h.elim) (fun _ _ => trivial) HB2.out (below_size HB2.out) (by have := HT.out; have := LN.out; simp; omega) ?_; intro v38 w3 ho hb hgr hat; have HO3 := Aside0.mk ho; have HB3 := Aside0.mk hb; clear HO2 HB2 ho hb hgr hat)
            | fail)
          go_ret2
          exact ⟨_, rfl, HRR.out ▸ HO3.out, HB3.out⟩
        · rw [if_neg c3] at hg
          have HG := Aside0.mk hg
          have hm : (if 65535 < (data.length : Int) then 65535 else (data.length : Int)) = 65535 := if_pos (by omega)
          have b1 : ((65535 : Int) == (data.length : Int)) = false := beq_eq_false_iff_ne.2 (by omega)
          obtain ⟨nx, hnx⟩ : ∃ nx : List Int, data.take 65535 = nx := ⟨_, rfl⟩
          obtain ⟨rs, hrs⟩ : ∃ rs : List Int, data.drop 65535 = rs := ⟨_, rfl⟩
          have hnl : nx.length = 65535 := by rw [← hnx, List.length_take]; omega
          have hrl : rs.length = data.length - 65535 := by rw [← hrs, List.length_drop]
          have hcut1 := cut_to (P := Try.prog) 22 5 .i64 Try.underlying22 hi0 A data.length c 65535 (by omega) (by omega) HT.out.1
          have hcut2 := cut_from (P := Try.prog) 22 5 .i64 Try.underlying22 hi0 1 hsz0 A data.length c 65535 (by omega) (by omega)
          have hC1 := Kd.C_take (m := 65535) HRD.out (by omega)
          have hC2 := Kd.C_drop (m := 65535) (c := c) HRD.out (by omega) HT.out.1
          obtain ⟨A1, hA1⟩ : ∃ A1, (if c = 65535 then A else (A : Option Addr).map (·.add (65535 * 1))) = A1 := ⟨_, rfl⟩
          obtain ⟨c1, hc1⟩ : ∃ c1, c - 65535 = c1 := ⟨_, rfl⟩
          rw [hnx] at hC1
          rw [hrs] at hC2
          replace hC2 : Kd.C (Kd.int .u8) w A1 rs.length rs := by rw [← hA1]; exact hC2
          rw [show (65535 : Int).toNat = 65535 from rfl] at hcut1 hcut2
          rw [← hnl] at hcut1
          rw [hA1, ← hrl, hc1] at hcut2
          have HRN := Aside0.mk hC1
          have HRS := Aside0.mk hC2
          rw [hnx, hrs] at HG
          have HLN := Aside0.mk (show nx.length = 65535 ∧ rs.length ≤ c1 ∧ rs.length ≤ l0.length ∧ rs.length + 65535 = data.length by
            have := HT.out
            refine ⟨hnl, by omega, by omega, by omega⟩)
          clear c3 hi0 hsz0 hC1 hC2 hA1 hc1 hnx hrs hg hrl hnl
          go_wp2_with (first
            | ((with_reducible refine gate_dst (N := 32) rfl ?_); refine Kd.R_lit (Kd.int .u8) _ 5 ?hg (N := 32) ?hd (xs := ([0, 255, 255, 0, 0] : List Int)) (inner := [.int .u8 0, .int .u8 255, .int .u8 255, .int .u8 0, .int .u8 0]) (ok := fun _ => True) (okp := fun _ => True) ?hr ?hp (fun _ hk => hk) trivial (Below.refl _ _) (Nat.le_refl _) (by simp) ?_; (case hd => rfl); (case hg => rfl); (case hr => first | (go_simp; done) | (go_simp; rfl)); (case hp => exact (Reps.one (show Kd.M (Kd.int .u8) _ _ _ _ [_] from rfl) (Reps.one (show Kd.M (Kd.int .u8) _ _ _ _ [_] from rfl) (Reps.one (show Kd.M (Kd.int .u8) _ _ _ _ [_] from rfl) (Reps.one (show Kd.M (Kd.int .u8) _ _ _ _ [_] from rfl) (Reps.one (show Kd.M (Kd.int .u8) _ _ _ _ [_] from rfl) (Reps.none _ _))))))); intro v32 w1 ho hb hg_ hnew_; obtain ⟨Ao, co, rfl⟩ := Kd.R_slice ho; have HL := Aside0.mk (Kd.R_lower ho (below_size HB.out)); have HO1 := Aside0.mk (Kd.R_below HO.out hb); have HB1 := Aside0.mk (below_step HB.out hb); clear HO HB ho hb hg_ hnew_)
            | ((with_reducible refine gate_builtin (b := .append) (xs := #[.tmp 20, .tmp 32]) rfl ?_); at_builtin; refine Kd.R_append_rows (Kd.int .u8) (w0 := w) w.heap.size rfl (.tmp 20) (.tmp 32) 22 5 (.int .u8 0) 1 rfl Try.underlying22 info5 rfl (by decide) (by omega) u4 out (([0, 255, 255, 0, 0] : List Int)) _ _ _ (fun _ => True) (fun _ => False) rfl rfl HO1.out (Kd.R_reads' HL.out).2.2 (fun _ _ h => h) (fun _ h => h.elim) (fun _ _ => trivial) HB1.out (below_size HB1.out) (by have := HT.out; have := LN.out; simp; omega) ?_; intro v33 w2 ho hb hgr hat; have HO2 := Aside0.mk ho; have HB2 := Aside0.mk hb; clear HO1 HB1 HL ho hb hgr hat)
            | ((with_reducible refine gate_builtin (b := .append) (xs := #[.tmp 34, .tmp 37]) rfl ?_); at_builtin; refine Kd.R_append_rows (Kd.int .u8) (w0 := w) w.heap.size rfl (.tmp 34) (.tmp 37) 22 5 (.int .u8 0) 1 rfl Try.underlying22 info5 rfl (by decide) (by omega) v33 (out ++ ([0, 255, 255, 0, 0] : List Int)) (nx) _ _ _ (fun _ => True) (fun _ => False) rfl rfl HO2.out (Kd.C_below HRN.out HB2.out) (fun _ _ h => h) (fun _ h => h.elim) (fun _ _ => trivial) HB2.out (below_size HB2.out) (by have := HT.out; have := LN.out; have := HLN.out; simp; omega) ?_; intro v38 w3 ho hb hgr hat; have HO3 := Aside0.mk ho; have HB3 := Aside0.mk hb; clear HO2 HB2 ho hb hgr hat)
            | fail)
          go_roundg k1
          case measure => have := HK.out; omega
          case rel =>
            refine ⟨out ++ [0, 255, 255, 0, 0] ++ nx, rs, A1, c1, rfl, ⟨HG.out⟩, ⟨by have := HK.out; omega⟩, HRS, ⟨⟨HLN.out.2.1, HLN.out.2.2.1, ?_⟩⟩, HO3, HB3⟩
            have h1 := HLN.out
            have h2 := HT.out
            simp only [List.length_append, List.length_cons, List.length_nil]
            omega
end Go.Proofs.Ytpndhoefmepfdaa.PSt
