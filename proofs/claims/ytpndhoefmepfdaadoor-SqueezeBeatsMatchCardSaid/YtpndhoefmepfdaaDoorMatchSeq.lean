/- match.Each$2: the iterator's contract (under way). -/
import Derived.Test.YtpndhoefmepfdaaDoorMatchEach
import Derived.RangeFuncBound
import Derived.RangeFuncCalls
import Derived.RangeFuncLeaves
import Derived.OwnWalkIn
import Derived.TacticsInMore
import Derived.LoopNIn
import Derived.LoopIn
import Derived.Sort.CutIn
namespace Go.Proofs.YtpndhoefmepfdaaDoor.PSq
open Go.RowKit Go.Proofs.YtpndhoefmepfdaaDoorW.PrintWords Go.Proofs.YtpndhoefmepfdaaDoorW.PrintLast Go.Proofs.YtpndhoefmepfdaaDoorW.PrintMore
open Go.YtpndhoefmepfdaaDoor (KeepsOn SeqFoot)
set_option linter.unusedVariables false
attribute [local go_sem] Oper.semAt_some
theorem runLoop_le (d : List Int) (j i most : Int) : ∀ (f : Nat) (n r : Int), runLoop d j i most f n = some r → n ≤ r ∧ (r ≤ most ∨ r = n) := by
  intro f
  induction f with
  | zero => intro n r h; cases h
  | succ f ih =>
    intro n r h
    rw [runLoop] at h
    split at h
    · split at h
      · split at h
        · obtain ⟨a, b⟩ := ih _ _ h
          exact ⟨by omega, .inl (by omega)⟩
        · obtain rfl := Option.some.inj h; exact ⟨Int.le_refl _, .inr rfl⟩
      · cases h
    · obtain rfl := Option.some.inj h; exact ⟨Int.le_refl _, .inr rfl⟩
theorem runF_le {d : List Int} {j i r : Int} (h : runF d j i = some r) : 0 ≤ r ∧ r ≤ 258 := by
  obtain ⟨a, b⟩ := runLoop_le _ _ _ _ _ _ _ h
  have hm : mostF d i ≤ 258 := by unfold mostF; split <;> omega
  exact ⟨a, by omega⟩
theorem bestLoop_le (d : List Int) (at_ window : Int) (l : List Int) : ∀ (f : Nat) (i left len dist : Int) (r : Int × Int), 0 ≤ len ∧ len ≤ 258 → bestLoop d at_ window l f i left len dist = some r → 0 ≤ r.1 ∧ r.1 ≤ 258 := by
  intro f
  induction f with
  | zero => intro i left len dist r _ h; cases h
  | succ f ih =>
    intro i left len dist r hl h
    rw [bestLoop] at h
    split at h
    · split at h
      · split at h
        · split at h
          · exact ih _ _ _ _ _ hl h
          · obtain ⟨n, h1, h2⟩ := Option.bind_eq_some_iff.1 h
            have hn := runF_le h1
            split at h2
            · split at h2
              · obtain rfl := Option.some.inj h2; exact hn
              · exact ih _ _ _ _ _ hn h2
            · split at h2
              · obtain rfl := Option.some.inj h2; exact hl
              · exact ih _ _ _ _ _ hl h2
        · obtain rfl := Option.some.inj h; exact hl
      · cases h
    · obtain rfl := Option.some.inj h; exact hl
theorem bestF_le {d : List Int} {window chain at_ : Int} {next : Nat} {r : Int × Int} (h : bestF d window chain next at_ = some r) : 0 ≤ r.1 ∧ r.1 ≤ 258 := by
  unfold bestF at h
  split at h
  · exact bestLoop_le _ _ _ _ _ _ _ _ _ _ (by omega) h
  · obtain rfl := Option.some.inj h; exact ⟨Int.le_refl _, by decide⟩
def tokV (t : S56) : Value := .agg #[.int .i64 t.f0, .int .i64 t.f1, .int .u8 t.f2]
theorem Fnd.live {W : World} {base : Nat} {O : Nat → Prop} {F M gA cA : Nat} {d : List Int} {window chain : Int} {lazy : Bool} {next : Nat} (h : Fnd W base O F M gA cA d window chain lazy next) : Fnd W base (fun k => O k ∧ k < W.heap.size) F M gA cA d window chain lazy next := by
  obtain ⟨es, cl, h1, h2, h3, h4, h5⟩ := h.hg
  refine ⟨h.hF, Kd.R_mono (Kd.R_bound h.hd) (fun k hk => ⟨hk.1, hk.2.2.1⟩), ⟨es, cl, h1, h2, fun x hx => ?_, h4, h5⟩, ⟨h.oF, blk_lt h.hF⟩, ⟨h.oM, blk_lt h1⟩, h.bF, h.bM, h.ne⟩
  obtain ⟨k, a, b, c⟩ := h3 x hx
  exact ⟨k, a, b, Kd.R_mono (Kd.R_bound c) (fun k hk => ⟨⟨hk.1.1, hk.2.2.1⟩, hk.1.2⟩)⟩
/-- What lies where, in the middle of a round. -/
structure Mid (J : List S56 → (Nat → Prop) → World → Prop) (Bo Be F M gA cA : Nat) (d : List Int) (window chain : Int) (lazy : Bool) (W : World) (pre : List S56) (S O : Nat → Prop) (next : Nat) (wr : World) : Prop where
  j : J pre S wr
  sz : ∀ k, S k → k < wr.heap.size
  f : Fnd wr 0 O F M gA cA d window chain lazy next
  ap : ∀ k, O k → ¬ S k
  og : ∀ k, O k → k ≠ Bo ∧ k ≠ Be
  bo : wr.heap[Bo]? = some (.cells #[.slice (some ⟨gA, 0, none⟩) d.length cA] 44 (0, 0))
  be : wr.heap[Be]? = some (.cells #[.int .i64 window, .int .i64 chain, .bool lazy] 23 (0, 0))
  sbo : ¬ S Bo
  sbe : ¬ S Be
section
variable {J : List S56 → (Nat → Prop) → World → Prop} {Bo Be F M gA cA : Nat} {d : List Int} {window chain : Int} {lazy : Bool} {W : World} {pre : List S56} {S O : Nat → Prop} {next : Nat} {wr w2 : World}
theorem Mid.step {O2 : Nat → Prop} {next2 : Nat} (h : Mid J Bo Be F M gA cA d window chain lazy W pre S O next wr) (hJ : ∀ pre S W1 W2, J pre S W1 → KeepsOn S W1 W2 → J pre S W2)
    (hf : Fnd w2 0 O2 F M gA cA d window chain lazy next2) (h1 : ∀ k, O2 k → O k ∨ wr.heap.size ≤ k) (hk : KeepsOn (fun k => ¬ O k) wr w2) : Mid J Bo Be F M gA cA d window chain lazy W pre S O2 next2 w2 where
  j := hJ _ _ _ _ h.j (hk.mono fun k hs _ ho => h.ap k ho hs)
  sz := fun k hs => Nat.lt_of_lt_of_le (h.sz k hs) hk.size
  f := hf
  ap := fun k ho hs => (h1 k ho).elim (fun q => h.ap k q hs) (fun q => by have := h.sz k hs; omega)
  og := fun k ho => (h1 k ho).elim (h.og k) (fun q => ⟨fun e => by have := blk_lt h.bo; omega, fun e => by have := blk_lt h.be; omega⟩)
  bo := hk.obj h.bo (fun q => (h.og _ q).1 rfl)
  be := hk.obj h.be (fun q => (h.og _ q).2 rfl)
  sbo := h.sbo
  sbe := h.sbe
theorem Mid.keep (h : Mid J Bo Be F M gA cA d window chain lazy W pre S O next wr) (hJ : ∀ pre S W1 W2, J pre S W1 → KeepsOn S W1 W2 → J pre S W2)
    (hk : KeepsOn (fun k => S k ∨ O k ∨ k = Bo ∨ k = Be) wr w2) : Mid J Bo Be F M gA cA d window chain lazy W pre S O next w2 where
  j := hJ _ _ _ _ h.j (hk.mono fun k hs _ => .inl hs)
  sz := fun k hs => Nat.lt_of_lt_of_le (h.sz k hs) hk.size
  f := h.f.keep (hk.mono fun k ho _ => .inr (.inl ho))
  ap := h.ap
  og := h.og
  bo := hk.obj h.bo (.inr (.inr (.inl rfl)))
  be := hk.obj h.be (.inr (.inr (.inr rfl)))
  sbo := h.sbo
  sbe := h.sbe
/-- Behind a round of the caller's. -/
theorem Mid.later {pre2 : List S56} {S2 : Nat → Prop} (h : Mid J Bo Be F M gA cA d window chain lazy W pre S O next wr) (hj : J pre2 S2 w2) (hS : ∀ k, S2 k → (S k ∨ wr.heap.size ≤ k) ∧ k < w2.heap.size) (hk : KeepsOn (fun k => ¬ S k) wr w2) :
    Mid J Bo Be F M gA cA d window chain lazy W pre2 S2 (fun k => O k ∧ k < wr.heap.size) next w2 where
  j := hj
  sz := fun k hs => (hS k hs).2
  f := h.f.live.keep (hk.mono fun k ho _ => h.ap k ho.1)
  ap := fun k ho hs => (hS k hs).1.elim (h.ap k ho.1) (fun q => by have := ho.2; omega)
  og := fun k ho => h.og k ho.1
  bo := hk.obj h.bo h.sbo
  be := hk.obj h.be h.sbe
  sbo := fun q => (hS _ q).1.elim h.sbo (fun q => by have := blk_lt h.bo; omega)
  sbe := fun q => (hS _ q).1.elim h.sbe (fun q => by have := blk_lt h.be; omega)
/-- A new block. -/
theorem Mid.box (h : Mid J Bo Be F M gA cA d window chain lazy W pre S O next wr) (hJ : ∀ pre S W1 W2, J pre S W1 → KeepsOn S W1 W2 → J pre S W2) (o : Obj) :
    Mid J Bo Be F M gA cA d window chain lazy W pre S (fun k => O k ∧ k < wr.heap.size) next (wr.alloc o) where
  j := hJ _ _ _ _ h.j (KeepsOn.alloc S wr o)
  sz := fun k hs => Nat.lt_of_lt_of_le (h.sz k hs) (KeepsOn.alloc S wr o).size
  f := h.f.live.keep (KeepsOn.alloc _ wr o)
  ap := fun k ho => h.ap k ho.1
  og := fun k ho => h.og k ho.1
  bo := (KeepsOn.alloc (fun _ => True) wr o).obj h.bo trivial
  be := (KeepsOn.alloc (fun _ => True) wr o).obj h.be trivial
  sbo := h.sbo
  sbe := h.sbe
end
set_option maxHeartbeats 8000000 in
set_option maxRecDepth 100000 in
theorem each_seq (nD Bo Be gA cA : Nat) (d : List Int) (window chain : Int) (lazy : Bool) (toks : List S56) (w0 : World) (hbig : d.length ≤ 16777216) (hby : ∀ x ∈ d, 0 ≤ x ∧ x ≤ 255)
    (hwc : 1 ≤ window ∧ window ≤ 32768 ∧ 0 ≤ chain ∧ chain ≤ 4096) (hBo : w0.heap[Bo]? = some (.cells #[.slice (some ⟨gA, 0, none⟩) d.length cA] 44 (0, 0))) (hBe : w0.heap[Be]? = some (.cells #[.int .i64 window, .int .i64 chain, .bool lazy] 23 (0, 0)))
    (hd : Kd.R (Kd.int .u8) 5 w0 0 (fun k => k = gA) (.slice (some ⟨gA, 0, none⟩) d.length cA) d) (ht : tokensF d window chain lazy = some toks) :
    SeqFoot Fence.wide nD Tryd.prog 50 #[.pointer (some ⟨Bo, 0, none⟩), .pointer (some ⟨Be, 0, none⟩)] (fun t : S56 => #[tokV t]) (fun k => k = Bo ∨ k = Be ∨ k = gA) (fun xs => xs = toks) (fun _ => True) toks.length w0 := by
  intro l J Jx S0 W hW hRd hS0 hJ hJx hY h0
  have hBoW := blk_below hBo hW
  have hBeW := blk_below hBe hW
  have hdW := Kd.R_below hd hW
  have HY := Aside0.mk hY
  have o0 : W.cell? ⟨Bo, 0, none⟩ = some (.slice (some ⟨gA, 0, none⟩) d.length cA) := blk_cell hBoW 0
  have e0 : W.cell? ⟨Be, 0, none⟩ = some (.int .i64 window) := blk_cell hBeW 0
  have e1 : W.cell? ⟨Be, 1, none⟩ = some (.int .i64 chain) := blk_cell hBeW 1
  have e2 : W.cell? ⟨Be, 2, none⟩ = some (.bool lazy) := blk_cell hBeW 2
  refine callsIn_of_wp Tryd.func50 rfl trivial ?_ rfl
  simp only [Tryd.ntmps50, List.size_toArray, List.length_cons, List.length_nil, Nat.reduceAdd, Nat.reduceSub, Array.replicate_succ, Array.replicate_zero, List.push_toArray, List.append_toArray, List.nil_append, List.cons_append]
  have HNG : Aside0 (gA ≠ Bo ∧ gA ≠ Be) := by
    obtain ⟨inn, hown⟩ := Kd.R_own hdW
    obtain ⟨cs5, hA2⟩ := own_typed hown gA rfl
    exact ⟨(blk_ne hBoW hA2 (by decide)).symm, (blk_ne hBeW hA2 (by decide)).symm⟩
  have HBO := Aside0.mk hBoW
  have HBE := Aside0.mk hBeW
  gi_wp2_with fail
  refine ⟨trivial, (fun h => by cases h), ?_⟩
  refine (callsIn_wide.2 (newFinder_calls 0 (fun k => k = gA) gA cA d window chain lazy W hdW (Nat.zero_le _))).mono ?_
  rintro e W1 ⟨F, M, O1, rfl, hf1, g1, g2, hb1⟩
  have HT := Aside0.mk ht
  have HJ := Aside0.mk hJ
  have HM1 : Aside0 (Mid J Bo Be F M gA cA d window chain lazy W [] S0 O1 0 W1) :=
    ⟨{ j := hJ _ _ _ _ h0 (KeepsOn.of_below hb1 (fun k _ h => h)), sz := fun k h => Nat.lt_of_lt_of_le (hS0 k h) hb1.size, f := hf1,
       ap := fun k ho hs => (g1 k ho).elim (fun e => hRd k hs (.inr (.inr e))) (fun q => by have := hS0 k hs; omega),
       og := fun k ho => (g1 k ho).elim (fun e => by subst e; exact HNG.out) (fun q => ⟨fun e => by have := blk_lt hBoW; omega, fun e => by have := blk_lt hBeW; omega⟩),
       bo := blk_below hBoW hb1, be := blk_below hBeW hb1, sbo := fun q => hRd _ q (.inl rfl), sbe := fun q => hRd _ q (.inr (.inl rfl)) }⟩
  clear hf1 g1 g2 hb1 ht hS0 hRd hJ hJx h0 o0 e0 e1 e2 hBoW hBeW hdW hY hd hBo hBe hW
  gi_wp2_with fail
  have HN := Aside0.mk hbig
  gi_loopg [5, 6, 7, 8] (d.length + 1) (fun gk v5 v6 v7 v8 wr => ∃ (kn le di at_ : Int) (next : Nat) (S O : Nat → Prop) (pre rest : List S56), v5 = .int .i64 kn ∧ v6 = .int .i64 le ∧ v7 = .int .i64 di ∧ v8 = .int .i64 at_ ∧ Aside0 (-1 ≤ kn ∧ 0 ≤ at_ ∧ at_ ≤ (d.length : Int) + 258 ∧ 0 ≤ le ∧ le ≤ 258 ∧ next ≤ d.length + 1 ∧ toks = pre ++ rest ∧ eachF d window chain lazy gk at_ kn le di next = some rest) ∧
      Aside0 (Mid J Bo Be F M gA cA d window chain lazy W pre S O next wr))
  case atStart =>
    refine ⟨-1, 0, 0, 0, 0, S0, O1, [], toks, rfl, rfl, rfl, rfl, ⟨by omega, by omega, by omega, by omega, by omega, by omega, rfl, ?_⟩, HM1⟩
    have := HT.out; unfold tokensF at this; exact this
  case round =>
    obtain ⟨kn, le, di, at_, next, S, O, pre, rest, rfl, rfl, rfl, rfl, HR, HM⟩ := hrel
    cases gk with
    | zero => have h := HR.out.2.2.2.2.2.2.2; rw [eachF] at h; cases h
    | succ f =>
      have b0 : wr.cell? ⟨Bo, 0, none⟩ = some (.slice (some ⟨gA, 0, none⟩) d.length cA) := blk_cell HM.out.bo 0
      by_cases c1 : at_ < (d.length : Int)
      rotate_left
      · have c1b : decide (at_ < (d.length : Int)) = false := decide_eq_false c1
        have hE := HR.out.2.2.2.2.2.2.2
        rw [eachF, if_neg (by exact c1)] at hE
        obtain rfl := Option.some.inj hE
        have HJE := Aside0.mk (show J toks S wr by have h1 := HR.out.2.2.2.2.2.2.1; rw [h1, List.append_nil]; exact HM.out.j)
        clear HR HM hE c1
        gi_wp2
        go_end0
        exact ⟨⟨_, rfl⟩, S, .inl ⟨toks, rfl, HJE.out⟩⟩
      · have c1b : decide (at_ < (d.length : Int)) = true := decide_eq_true c1
        have h0 := HR.out.2.2.2.2.2.2.2
        rw [eachF, if_pos (by exact c1)] at h0
        obtain ⟨s1, hs1, h1⟩ := Option.bind_eq_some_iff.1 h0
        obtain ⟨s2, hs2, h2⟩ := Option.bind_eq_some_iff.1 h1
        have HE := Aside0.mk h2
        have HS1 := Aside0.mk hs1
        have HS2 := Aside0.mk hs2
        have HC1 := Aside0.mk c1
        clear h0 h1 h2 hs1 hs2 c1
        gi_upto_if 22 with fail
        gi_cut [6, 7] from 16 (fun v6 v7 w' => v6 = .int .i64 s1.1.1 ∧ v7 = .int .i64 s1.1.2 ∧ Aside0 (0 ≤ s1.1.1 ∧ s1.1.1 ≤ 258 ∧ s1.2 ≤ d.length + 1 ∧ ∃ O', Mid J Bo Be F M gA cA d window chain lazy W pre S O' s1.2 w'))
        case first =>
          clear HE HS2 b0 c1b
          by_cases c2 : kn = at_
          · have c2b : (kn != at_) = false := by rw [c2]; simp
            have hs1 := HS1.out
            unfold askF at hs1
            rw [if_pos c2] at hs1
            obtain rfl := Option.some.inj hs1
            clear hs1 HS1 c2
            gi_wp2
            gi_meet
            case rel => exact ⟨rfl, rfl, ⟨HR.out.2.2.2.1, HR.out.2.2.2.2.1, HR.out.2.2.2.2.2.1, O, HM.out⟩⟩
          · have c2b : (kn != at_) = true := by simpa using c2
            have hs1 := HS1.out
            unfold askF at hs1
            rw [if_neg c2] at hs1
            obtain ⟨r, hr, e1⟩ := Option.map_eq_some_iff.1 hs1
            subst e1
            have HRR := Aside0.mk hr
            clear hs1 HS1 hr c2
            gi_wp2_with fail
            refine ⟨trivial, (fun h => by cases h), ?_⟩
            refine (callsIn_wide.2 (best_calls 0 O F M gA cA d window chain lazy next at_ r.1 r.2 wr HM.out.f ⟨HR.out.2.1, by have := HC1.out; omega⟩ (by exact HR.out.2.2.2.2.2.1) hbig hby hwc HRR.out)).mono ?_
            rintro e W2 ⟨rfl, O2, hf2, p1, p2, p3⟩
            have HM2 := Aside0.mk (HM.out.step HJ.out hf2 p1 p3)
            have HN2 := Aside0.mk (show max next at_.toNat ≤ d.length + 1 by have := HR.out; have := HC1.out; omega)
            clear hf2 p1 p2 p3
            gi_wp2_with fail
            gi_meet
            case rel => exact ⟨rfl, rfl, ⟨(bestF_le HRR.out).1, (bestF_le HRR.out).2, HN2.out, O2, HM2.out⟩⟩
        case rest =>
          obtain ⟨rfl, rfl, HC⟩ := hcut
          clear HM b0 c1b HS1
          gi_upto_region 6 with fail
          gi_cut [9] from 16 (fun v9 w' => ∃ b, v9 = .pointer (some ⟨b, 0, none⟩) ∧ Aside0 (w'.heap[b]? = some (.cells #[.int .i64 s1.1.1, .int .i64 s1.1.2, .int .u8 0] 56 (0, 0)) ∧ ¬ S b ∧ b ≠ Bo ∧ b ≠ Be ∧ ∃ O', Mid J Bo Be F M gA cA d window chain lazy W pre S O' s1.2 w' ∧ ¬ O' b))
          case first =>
            have HX := Aside0.mk HC.out.2.2.2
            clear HC HE HS2
            gi_wp2
            gi_meet
            case rel =>
              obtain ⟨O', hm⟩ := HX.out
              have hbx : ∀ o : Obj, (wc.alloc o).heap[wc.heap.size]? = some o := fun o => World.alloc_heap_new wc o
              refine ⟨wc.heap.size, rfl, ⟨hbx _, fun q => by have := hm.sz _ q; omega, fun e => by have := blk_lt hm.bo; omega, fun e => by have := blk_lt hm.be; omega, _, hm.box HJ.out _, fun q => by have := q.2; omega⟩⟩
          case rest =>
            obtain ⟨b, rfl, HB⟩ := hcut
            have HC2 := Aside0.mk (And.intro HC.out.1 (And.intro HC.out.2.1 HC.out.2.2.1))
            clear HC
            obtain ⟨bz, hbz⟩ : ∃ bz : Bool, decide (0 < s1.1.1 ∧ lazy = true ∧ at_ + 1 < (d.length : Int)) = bz := ⟨_, rfl⟩
            have HBZ := Aside0.mk hbz
            clear hbz
            gi_upto_region 8 with fail
            gi_cut [45] from 16 (fun v45 w' => v45 = .bool bz ∧ Aside0 (w'.heap[b]? = some (.cells #[.int .i64 s1.1.1, .int .i64 s1.1.2, .int .u8 0] 56 (0, 0)) ∧ ¬ S b ∧ b ≠ Bo ∧ b ≠ Be ∧ ∃ O', Mid J Bo Be F M gA cA d window chain lazy W pre S O' s1.2 w' ∧ ¬ O' b))
            case first =>
              obtain ⟨wx, hwx⟩ : ∃ wx, wx = wc := ⟨_, rfl⟩
              have HX := Aside0.mk HB.out.2.2.2.2
              have q2 : wc.cell? ⟨Be, 2, none⟩ = some (.bool lazy) := by obtain ⟨O', hm, _⟩ := HX.out; exact blk_cell hm.be 2
              have b1 : wc.cell? ⟨Bo, 0, none⟩ = some (.slice (some ⟨gA, 0, none⟩) d.length cA) := by obtain ⟨O', hm, _⟩ := HX.out; have := blk_cell hm.bo 0; exact this
              have hw : wrap64 (at_ + 1) = at_ + 1 := by have := HN.out; have := HR.out; have := HC1.out; unfold wrap64; omega
              clear HE HS2 hwx
              by_cases c3 : 0 < s1.1.1
              · have c3b : decide (0 < s1.1.1) = true := decide_eq_true c3
                cases lazy with
                | false =>
                  gi_wp2
                  gi_meet
                  case rel => exact ⟨by rw [← HBZ.out]; exact congrArg Value.bool (decide_eq_false (by simp)).symm, HB⟩
                | true =>
                  by_cases c4 : at_ + 1 < (d.length : Int)
                  · have c4b : decide (at_ + 1 < (d.length : Int)) = true := decide_eq_true c4
                    have HD := Aside0.mk (And.intro c3 c4)
                    clear c3 c4
                    gi_wp2
                    gi_meet
                    case rel => exact ⟨by rw [← HBZ.out]; exact congrArg Value.bool (decide_eq_true (by have := HD.out; simp; omega)).symm, HB⟩
                  · have c4b : decide (at_ + 1 < (d.length : Int)) = false := decide_eq_false c4
                    have HD := Aside0.mk c4
                    clear c3 c4
                    gi_wp2
                    gi_meet
                    case rel => exact ⟨by rw [← HBZ.out]; exact congrArg Value.bool (decide_eq_false (by have := HD.out; simp; omega)).symm, HB⟩
              · have c3b : decide (0 < s1.1.1) = false := decide_eq_false c3
                have HD := Aside0.mk c3
                clear c3
                gi_wp2
                gi_meet
                case rel => exact ⟨by rw [← HBZ.out]; exact congrArg Value.bool (decide_eq_false (fun h => by have := HD.out; omega)).symm, HB⟩
            case rest =>
              obtain ⟨rfl, HB2⟩ := hcut
              clear HB
              gi_upto_if 45 with fail
              gi_cut [5, 6, 7] from 16 (fun v5 v6 v7 w' => ∃ kn2 le2 di2 tl : Int, v5 = .int .i64 kn2 ∧ v6 = .int .i64 le2 ∧ v7 = .int .i64 di2 ∧ Aside0 ((s2.1 = none ∧ kn2 = kn ∧ le2 = s1.1.1 ∧ di2 = s1.1.2 ∧ tl = s1.1.1) ∨ (∃ q, s2.1 = some q ∧ kn2 = at_ + 1 ∧ le2 = q.1 ∧ di2 = q.2 ∧ tl = 0)) ∧ Aside0 (-1 ≤ kn2 ∧ 0 ≤ le2 ∧ le2 ≤ 258 ∧ 0 ≤ tl ∧ tl ≤ 258 ∧ s2.2 ≤ d.length + 1) ∧
                Aside0 (w'.heap[b]? = some (.cells #[.int .i64 tl, .int .i64 s1.1.2, .int .u8 0] 56 (0, 0)) ∧ ¬ S b ∧ b ≠ Bo ∧ b ≠ Be ∧ ∃ O', Mid J Bo Be F M gA cA d window chain lazy W pre S O' s2.2 w' ∧ ¬ O' b))
              case first =>
                clear HE
                cases bz with
                | true =>
                  have c5 := of_decide_eq_true HBZ.out
                  have hs2 := HS2.out
                  unfold lazyF at hs2
                  rw [if_pos c5] at hs2
                  obtain ⟨r, hr, e1⟩ := Option.map_eq_some_iff.1 hs2
                  subst e1
                  have HRR := Aside0.mk hr
                  have hw : wrap64 (at_ + 1) = at_ + 1 := by have := HN.out; have := HR.out; have := HC1.out; unfold wrap64; omega
                  have HD := Aside0.mk c5
                  obtain ⟨hb3, hb4, hb5, hb6, O', hm3, hb7⟩ := HB2.out
                  have HBB := Aside0.mk (And.intro hb4 (And.intro hb5 hb6))
                  clear hs2 HS2 hr c5 HB2
                  gi_wp2_with fail
                  refine ⟨trivial, (fun h => by cases h), ?_⟩
                  refine (callsIn_wide.2 (best_calls 0 O' F M gA cA d window chain lazy s1.2 (at_ + 1) r.1 r.2 wc hm3.f ⟨by have := HR.out; omega, by have := HD.out; omega⟩ HC2.out.2.2 hbig hby hwc HRR.out)).mono ?_
                  rintro e W2 ⟨rfl, O2, hf2, p1, p2, p3⟩
                  have HM2 := Aside0.mk (hm3.step HJ.out hf2 p1 p3)
                  have HN2 := Aside0.mk (show max s1.2 (at_ + 1).toNat ≤ d.length + 1 by have := HR.out; have := HD.out; have := HC2.out; omega)
                  have HX3 := Aside0.mk (show ¬ O2 b from fun h => (p1 b h).elim hb7 (fun q => by have := blk_lt hb3; omega))
                  have HBX := Aside0.mk (p3.obj hb3 hb7)
                  have HL := Aside0.mk (bestF_le HRR.out)
                  clear hf2 p1 p2 p3 hb3 hb7 hm3 hb4 hb5 hb6
                  by_cases c6 : s1.1.1 < r.1
                  · have c6b : decide (s1.1.1 < r.1) = true := decide_eq_true c6
                    have t0 : W2.cell? ⟨b, 0, none⟩ = some (.int .i64 s1.1.1) := blk_cell HBX.out 0
                    have tf : W2.frozen? ⟨b, 0, none⟩ = false := blk_frozen HBX.out 0
                    have HC6 := Aside0.mk c6
                    clear c6
                    gi_wp2_with fail
                    gi_meet
                    case rel =>
                      refine ⟨at_ + 1, r.1, r.2, 0, (by first | rfl | rw [hw]), rfl, rfl, ⟨.inr ⟨r, if_pos HC6.out, rfl, rfl, rfl, rfl⟩⟩, ⟨by have := HR.out; omega, HL.out.1, HL.out.2, by omega, by omega, HN2.out⟩, ⟨blk_put (cs' := #[.int .i64 0, .int .i64 s1.1.2, .int .u8 0]) HBX.out 0 _ rfl, HBB.out.1, HBB.out.2.1, HBB.out.2.2, O2, HM2.out.keep HJ.out (KeepsOn.setCell W2 ⟨b, 0, none⟩ (.int .i64 0) ?_), HX3.out⟩⟩
                      exact fun h => h.elim HBB.out.1 (fun h => h.elim HX3.out (fun h => h.elim HBB.out.2.1 HBB.out.2.2))
                  · have c6b : decide (s1.1.1 < r.1) = false := decide_eq_false c6
                    have HC6 := Aside0.mk c6
                    clear c6
                    gi_wp2_with fail
                    gi_meet
                    case rel => exact ⟨kn, s1.1.1, s1.1.2, s1.1.1, rfl, rfl, rfl, ⟨.inl ⟨if_neg (by have := HC6.out; omega), rfl, rfl, rfl, rfl⟩⟩, ⟨HR.out.1, HC2.out.1, HC2.out.2.1, HC2.out.1, HC2.out.2.1, HN2.out⟩, ⟨HBX.out, HBB.out.1, HBB.out.2.1, HBB.out.2.2, O2, HM2.out, HX3.out⟩⟩
                | false =>
                  have c5 := of_decide_eq_false HBZ.out
                  have hs2 := HS2.out
                  unfold lazyF at hs2
                  rw [if_neg c5] at hs2
                  obtain rfl := Option.some.inj hs2
                  clear hs2 HS2 c5
                  gi_wp2
                  gi_meet
                  case rel => exact ⟨kn, s1.1.1, s1.1.2, s1.1.1, rfl, rfl, rfl, ⟨.inl (by first | exact ⟨rfl, rfl, rfl, rfl, rfl⟩ | simp)⟩, ⟨HR.out.1, HC2.out.1, HC2.out.2.1, HC2.out.1, HC2.out.2.1, HC2.out.2.2⟩, HB2⟩
              case rest =>
                obtain ⟨kn2, le2, di2, tl, rfl, rfl, rfl, HCA, HCB, HCC⟩ := hcut
                clear HB2 HBZ HS2
                have HBX := Aside0.mk HCC.out.1
                have t0 : wc.cell? ⟨b, 0, none⟩ = some (.int .i64 tl) := blk_cell HBX.out 0
                obtain ⟨tok, htok⟩ : ∃ tok : S56, tok = (if tl = 0 then ⟨0, 0, rd d at_⟩ else ⟨s1.1.1, s1.1.2, 0⟩) := ⟨_, rfl⟩
                have HTK := Aside0.mk htok
                clear htok
                gi_upto_if 63 with fail
                gi_cut [10] from 16 (fun v10 w' => v10 = .int .i64 (if tl = 0 then 1 else s1.1.1) ∧ Aside0 (w'.heap[b]? = some (.cells #[.int .i64 tok.f0, .int .i64 tok.f1, .int .u8 tok.f2] 56 (0, 0)) ∧ ¬ S b ∧ b ≠ Bo ∧ b ≠ Be ∧ ∃ O', Mid J Bo Be F M gA cA d window chain lazy W pre S O' s2.2 w' ∧ ¬ O' b))
                case first =>
                  clear HE
                  by_cases c7 : tl = 0
                  · have c7b : (tl == 0) = true := by simpa using c7
                    obtain ⟨g1, g2, g3, g4, O', hm, g5⟩ := HCC.out
                    obtain ⟨A1, cc1, e1, _, hc1⟩ := Kd.R_reads hm.f.hd
                    injection e1 with e1 _ e3
                    subst e1
                    have HAT := Aside0.mk (show 0 ≤ at_ from HR.out.2.1)
                    obtain ⟨ad, e1, y1⟩ := Kd.at_int hc1 at_ HAT.out HC1.out
                    cases e1
                    have b1 : wc.cell? ⟨Bo, 0, none⟩ = some (.slice (some ⟨gA, 0, none⟩) d.length cA) := blk_cell hm.bo 0
                    have HM4 := Aside0.mk hm
                    have HG := Aside0.mk (And.intro g2 (And.intro g3 (And.intro g4 g5)))
                    have HT0 := Aside0.mk c7
                    rw [if_pos c7] at HTK
                    have hat1 : 0 ≤ at_ := HAT.out
                    have hat2 : at_ < (d.length : Int) := HC1.out
                    have y2 : wc.cell? ⟨gA, at_.toNat, none⟩ = some (.int .u8 (rd d at_)) := by have h := y1; rw [add_plain] at h; simpa using h
                    have t1 : wc.cell? ⟨b, 1, none⟩ = some (.int .i64 s1.1.2) := blk_cell HBX.out 1
                    have t2 : wc.cell? ⟨b, 2, none⟩ = some (.int .u8 0) := blk_cell HBX.out 2
                    have tf0 : wc.frozen? ⟨b, 0, none⟩ = false := blk_frozen HBX.out 0
                    have tf1 : wc.frozen? ⟨b, 1, none⟩ = false := blk_frozen HBX.out 1
                    have tf2 : wc.frozen? ⟨b, 2, none⟩ = false := blk_frozen HBX.out 2
                    clear g1 g2 g3 g4 g5 hm hc1 HCC HCA c7 e3 y1
                    gi_wp2_with fail
                    gi_meet
                    case rel =>
                      have hSb : ∀ k, (S k ∨ O' k ∨ k = Bo ∨ k = Be) → k ≠ b := by
                        rintro k (h | h | rfl | rfl) rfl
                        · exact HG.out.1 h
                        · exact HG.out.2.2.2 h
                        · exact HG.out.2.1 rfl
                        · exact HG.out.2.2.1 rfl
                      have k3 := ((KeepsOn.setCell (S := fun k => S k ∨ O' k ∨ k = Bo ∨ k = Be) wc ⟨b, 0, none⟩ (.int .i64 0) (fun h => hSb b h rfl)).trans (KeepsOn.setCell _ ⟨b, 1, none⟩ (.int .i64 0) (fun h => hSb b h rfl))).trans (KeepsOn.setCell _ ⟨b, 2, none⟩ (.int .u8 (rd d at_)) (fun h => hSb b h rfl))
                      refine ⟨by rw [if_pos HT0.out], ⟨?_, HG.out.1, HG.out.2.1, HG.out.2.2.1, O', HM4.out.keep HJ.out k3, HG.out.2.2.2⟩⟩
                      rw [HTK.out]
                      exact blk_put (cs' := #[.int .i64 0, .int .i64 0, .int .u8 (rd d at_)]) (blk_put (cs' := #[.int .i64 0, .int .i64 0, .int .u8 0]) (blk_put (cs' := #[.int .i64 0, .int .i64 s1.1.2, .int .u8 0]) HBX.out 0 _ rfl) 1 _ rfl) 2 _ rfl
                  · have c7b : (tl == 0) = false := by simpa using c7
                    have hA := HCA.out
                    rw [if_neg c7] at HTK
                    obtain rfl : tl = s1.1.1 := by
                      rcases hA with h | ⟨q, h⟩
                      · exact h.2.2.2.2
                      · exact absurd h.2.2.2.2 c7
                    have HC7 := Aside0.mk c7
                    clear hA c7
                    gi_wp2
                    gi_meet
                    case rel => exact ⟨by rw [if_neg HC7.out], by rw [HTK.out]; exact HCC⟩
                case rest =>
                  obtain ⟨rfl, HD⟩ := hcut
                  obtain ⟨st, hst⟩ : ∃ st : Int, (if tl = 0 then 1 else s1.1.1) = st := ⟨_, rfl⟩
                  rw [hst]
                  have HST := Aside0.mk (show 1 ≤ st ∧ st ≤ 258 by have := HCB.out; have := HC2.out; rcases HCA.out with h | ⟨q, h⟩ <;> (rw [← hst]; split <;> omega))
                  have HE2 : Aside0 (∃ rest2, rest = tok :: rest2 ∧ eachF d window chain lazy f (at_ + st) kn2 le2 di2 s2.2 = some rest2) := by
                    refine ⟨?_⟩
                    have hE := HE.out
                    have hT := HTK.out
                    rw [← hst]
                    rcases HCA.out with ⟨h1, rfl, rfl, rfl, rfl⟩ | ⟨q, h1, rfl, rfl, rfl, rfl⟩
                    · rw [h1] at hE
                      simp only at hE
                      split at hE
                      · rename_i hz
                        obtain ⟨rest2, hr, e⟩ := Option.map_eq_some_iff.1 hE
                        rw [if_pos hz] at hT ⊢
                        exact ⟨rest2, by rw [← e, hT], hr⟩
                      · rename_i hz
                        obtain ⟨rest2, hr, e⟩ := Option.map_eq_some_iff.1 hE
                        rw [if_neg hz] at hT ⊢
                        exact ⟨rest2, by rw [← e, hT], hr⟩
                    · rw [h1] at hE
                      simp only at hE
                      obtain ⟨rest2, hr, e⟩ := Option.map_eq_some_iff.1 hE
                      rw [if_pos rfl] at hT ⊢
                      exact ⟨rest2, by rw [← e, hT], hr⟩
                  clear hst HE HTK HCC HBX t0 HCA
                  obtain ⟨g1, g2, g3, g4, O', hm, g5⟩ := HD.out
                  have t0 : wc.cell? ⟨b, 0, none⟩ = some (.int .i64 tok.f0) := blk_cell g1 0
                  have t1 : wc.cell? ⟨b, 1, none⟩ = some (.int .i64 tok.f1) := blk_cell g1 1
                  have t2 : wc.cell? ⟨b, 2, none⟩ = some (.int .u8 tok.f2) := blk_cell g1 2
                  obtain ⟨rest2, hr2, hr3⟩ := HE2.out
                  obtain ⟨fn, tmps, assign, body, hy, hR⟩ := HY.out pre tok S wc hm.j hm.sz (by have h := HR.out.2.2.2.2.2.2.1; rw [h, hr2]; simp)
                  have HM5 := Aside0.mk hm
                  have HR3 := Aside0.mk (And.intro hr2 hr3)
                  have hw : wrap64 (at_ + st) = at_ + st := by have := HN.out; have := HR.out; have := HC1.out; have := HST.out; unfold wrap64; omega
                  have HW := Aside0.mk hw
                  unfold tokV at hy
                  clear g1 g2 g3 g4 g5 hm HD HE2 hr2 hr3
                  gi_wp2_with fail
                  refine ⟨(fun h => by cases h), ?_⟩
                  refine hR.mono ?_
                  rintro e W5 ⟨S5, hS5, hk5, (⟨rfl, hj5⟩ | ⟨rfl, hx5⟩)⟩
                  · have HM6 := Aside0.mk (HM5.out.later hj5 hS5 hk5)
                    clear hS5 hk5 hj5 hR hy
                    gi_wp2_with fail
                    gi_roundg f
                    case measure => omega
                    case rel =>
                      refine ⟨kn2, le2, di2, at_ + st, s2.2, S5, _, pre ++ [tok], rest2, rfl, rfl, rfl, (by first | rfl | rw [HW.out]), ⟨HCB.out.1, by have := HR.out; have := HST.out; omega, by have := HC1.out; have := HST.out; omega, HCB.out.2.1, HCB.out.2.2.1, HCB.out.2.2.2.2.2, ?_, HR3.out.2⟩, HM6⟩
                      rw [HR.out.2.2.2.2.2.2.1, HR3.out.1, List.append_assoc]; rfl
                  · have HX5 := Aside0.mk hx5
                    clear hS5 hk5 hx5 hR hy
                    gi_wp2_with fail
                    refine bodyPost_ret (results_none rfl _ _ _) rfl ?_
                    exact ⟨⟨_, rfl⟩, S5, .inr ⟨_, trivial, HX5.out⟩⟩
end Go.Proofs.YtpndhoefmepfdaaDoor.PSq
