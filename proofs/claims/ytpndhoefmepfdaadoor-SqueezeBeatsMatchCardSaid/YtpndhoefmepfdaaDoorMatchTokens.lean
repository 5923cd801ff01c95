/- match.Tokens: the walk. -/
import Derived.Test.YtpndhoefmepfdaaDoorMatchSeq
import Derived.Test.YtpndhoefmepfdaaDoorAppendIn
import Derived.Shelf.Abstract
import Derived.Shelf.RegionOpen
namespace Go.Proofs.YtpndhoefmepfdaaDoor.PSq
open Go.RowKit Go.Proofs.YtpndhoefmepfdaaDoorW.PrintWords Go.Proofs.YtpndhoefmepfdaaDoorW.PrintLast Go.Proofs.YtpndhoefmepfdaaDoorW.PrintMore
open Go.YtpndhoefmepfdaaDoor (KeepsOn SeqFoot wpIn_rangeFunc_foot footPost)
open Go.Proofs.YtpndhoefmepfdaaDoor.AppendIn (R_append_in)
set_option linter.unusedVariables false
attribute [local go_sem] Oper.semAt_some
def match_Tokens.f (l0 : List Int) (a1_0 a1_1 : Int) (a1_2 : Bool) : Option (List S56 × Int) :=
  if l0.length ≤ 16777216 ∧ (∀ x ∈ l0, 0 ≤ x ∧ x ≤ 255) ∧ (1 ≤ a1_0 ∧ a1_0 ≤ 32768 ∧ 0 ≤ a1_1 ∧ a1_1 ≤ 4096) then (tokensF l0 a1_0 a1_1 a1_2).map fun r => (r, 0) else none
theorem eachF_len (d : List Int) (window chain : Int) (lazy : Bool) : ∀ (f : Nat) (at_ known len dist : Int) (next : Nat) (r : List S56), eachF d window chain lazy f at_ known len dist next = some r → r.length ≤ f := by
  intro f
  induction f with
  | zero => intro at_ known len dist next r h; cases h
  | succ f ih =>
    intro at_ known len dist next r h
    rw [eachF] at h
    split at h
    · obtain ⟨s1, _, h⟩ := Option.bind_eq_some_iff.1 h
      obtain ⟨s2, _, h⟩ := Option.bind_eq_some_iff.1 h
      split at h
      · obtain ⟨q, hq, e⟩ := Option.map_eq_some_iff.1 h
        subst e; have := ih _ _ _ _ _ _ hq; simp; omega
      · split at h
        · obtain ⟨q, hq, e⟩ := Option.map_eq_some_iff.1 h
          subst e; have := ih _ _ _ _ _ _ hq; simp; omega
        · obtain ⟨q, hq, e⟩ := Option.map_eq_some_iff.1 h
          subst e; have := ih _ _ _ _ _ _ hq; simp; omega
    · obtain rfl := Option.some.inj h; simp
theorem R_head_ne {α : Type} {d : Kd α} {e base : Nat} {ok : Nat → Prop} {W : World} {v : Value} {xs : List α} (h : d.R e W base ok v xs) (hne : 0 < xs.length) : ∃ g c, v = .slice (some ⟨g, 0, none⟩) xs.length c := by
  obtain ⟨_, inner, ho, _⟩ := h
  rcases ho.2 with ⟨_, h0⟩ | ⟨g, cap, cur, rfl, _⟩
  · omega
  · exact ⟨g, cap, rfl⟩
/-- What the caller keeps between two rounds. -/
def TokI (w : World) (Bl : Nat) (pre : List S56) (S : Nat → Prop) (W : World) : Prop :=
  (∀ k, k < w.heap.size → S k) ∧ S Bl ∧ w.heap.size ≤ Bl ∧ Below w.heap.size w W ∧ ∃ v, W.heap[Bl]? = some (.cells #[v] 35 (0, 0)) ∧ Kd.R k56 56 W w.heap.size (fun k => S k ∧ w.heap.size ≤ k) v pre
theorem TokI.keep {w : World} {Bl : Nat} {pre : List S56} {S : Nat → Prop} {W1 W2 : World} (h : TokI w Bl pre S W1) (hk : KeepsOn S W1 W2) : TokI w Bl pre S W2 := by
  obtain ⟨h1, h2, h3, h4, v, h5, h6⟩ := h
  exact ⟨h1, h2, h3, ⟨hk.os.trans h4.os, hk.tape.trans h4.tape, hk.output.trans h4.output, Nat.le_trans h4.size hk.size, fun k hl => (hk.block k (h1 k hl) (Nat.lt_of_lt_of_le hl h4.size)).trans (h4.block k hl)⟩, v, hk.obj h5 h2, Kd.R_step h6 fun k hs hl => hk.block k hs.1 hl⟩
/-- .. behind the assignment of a round. -/
def TokA (w : World) (Bl : Nat) (fr : Nat → Value → Act) (pre : List S56) (x : S56) (S : Nat → Prop) (a' : Act) (W : World) : Prop :=
  ∃ Bx, S Bx ∧ Bx ≠ Bl ∧ w.heap.size ≤ Bx ∧ W.heap[Bx]? = some (.cells #[.int .i64 x.f0, .int .i64 x.f1, .int .u8 x.f2] 56 (0, 0)) ∧ a' = fr Bx (tokV x) ∧
    (∀ k, k < w.heap.size → S k) ∧ S Bl ∧ w.heap.size ≤ Bl ∧ Below w.heap.size w W ∧ ∃ v, W.heap[Bl]? = some (.cells #[v] 35 (0, 0)) ∧ Kd.R k56 56 W w.heap.size (fun k => S k ∧ w.heap.size ≤ k ∧ k ≠ Bx) v pre
theorem below_keepsOn {w W1 W2 : World} {S : Nat → Prop} (h4 : Below w.heap.size w W1) (h1 : ∀ k, k < w.heap.size → S k) (hk : KeepsOn S W1 W2) : Below w.heap.size w W2 :=
  ⟨hk.os.trans h4.os, hk.tape.trans h4.tape, hk.output.trans h4.output, Nat.le_trans h4.size hk.size, fun k hl => (hk.block k (h1 k hl) (Nat.lt_of_lt_of_le hl h4.size)).trans (h4.block k hl)⟩
theorem TokA.keep {w : World} {Bl : Nat} {fr : Nat → Value → Act} {pre : List S56} {x : S56} {S : Nat → Prop} {a' : Act} {W1 W2 : World} (h : TokA w Bl fr pre x S a' W1) (hk : KeepsOn S W1 W2) : TokA w Bl fr pre x S a' W2 := by
  obtain ⟨Bx, b1, b2, b3, b4, b5, h1, h2, h3, h4, v, h5, h6⟩ := h
  exact ⟨Bx, b1, b2, b3, hk.obj b4 b1, b5, h1, h2, h3, below_keepsOn h4 h1 hk, v, hk.obj h5 h2, Kd.R_step h6 fun k hs hl => hk.block k hs.1 hl⟩
/-- A new block for the loop's variable. -/
theorem TokI.box {w : World} {Bl : Nat} {fr : Nat → Value → Act} {pre : List S56} {x : S56} {S : Nat → Prop} {W : World} (h : TokI w Bl pre S W) (hs : ∀ k, S k → k < W.heap.size) {o : Obj} (ho : o = .cells #[.int .i64 x.f0, .int .i64 x.f1, .int .u8 x.f2] 56 (0, 0)) :
    TokA w Bl fr pre x (fun k => S k ∨ k = W.heap.size) (fr W.heap.size (tokV x)) (W.alloc o) := by
  obtain ⟨h1, h2, h3, h4, v, h5, h6⟩ := h
  have k1 : KeepsOn S W (W.alloc o) := KeepsOn.alloc S W o
  refine ⟨W.heap.size, .inr rfl, fun e => ?_, h4.size, by rw [ho]; exact World.alloc_heap_new W _, rfl, fun k hk => .inl (h1 k hk), .inl h2, h3, below_keepsOn h4 h1 k1, v, k1.obj h5 h2, ?_⟩
  · have := hs _ h2; omega
  · exact Kd.R_mono (Kd.R_step h6 fun k q hl => k1.block k q.1 hl) fun k q => ⟨.inl q.1, q.2, fun e => by have := hs _ q.1; omega⟩
/-- A round's end. -/
theorem TokA.done {w : World} {Bl : Nat} {pre : List S56} {x : S56} {S : Nat → Prop} {W w5 : World} {v v1 : Value} (hs : ∀ k, S k → k < W.heap.size) (h1 : ∀ k, k < w.heap.size → S k) (h2 : S Bl) (h3 : w.heap.size ≤ Bl) (h4 : Below w.heap.size w W)
    (h5 : W.heap[Bl]? = some (.cells #[v] 35 (0, 0))) (h6 : Kd.R k56 56 W w.heap.size (fun k => S k ∧ w.heap.size ≤ k) v pre) (ho : Kd.R k56 56 w5 w.heap.size (fun k => (S k ∨ W.heap.size ≤ k) ∧ w.heap.size ≤ k) v1 (pre ++ [x])) (hg : W.grownBy w5 v.ownBlock) :
    ∃ S', (∀ k, S' k → (S k ∨ W.heap.size ≤ k) ∧ k < (w5.setCell ⟨Bl, 0, none⟩ v1).heap.size) ∧ KeepsOn (fun k => ¬ S k) W (w5.setCell ⟨Bl, 0, none⟩ v1) ∧ TokI w Bl (pre ++ [x]) S' (w5.setCell ⟨Bl, 0, none⟩ v1) := by
  have hsz : (w5.setCell ⟨Bl, 0, none⟩ v1).heap.size = w5.heap.size := World.size_setCell _ _ _
  have hown : ∀ k, v.ownBlock = some k → S k ∧ w.heap.size ≤ k := h6.1
  have k5 : KeepsOn (fun k => ¬ S k) W w5 := (keeps_grown hg).mono fun k q _ e => q (hown k e.symm).1
  have kk : KeepsOn (fun k => ¬ S k) W (w5.setCell ⟨Bl, 0, none⟩ v1) := k5.trans (KeepsOn.setCell w5 _ _ (fun q => q h2))
  have hbl5 : w5.heap[Bl]? = some (.cells #[v] 35 (0, 0)) := blk_grown h5 hg (Kd.R_ne h6 h5 (by decide))
  have hbl : (w5.setCell ⟨Bl, 0, none⟩ v1).heap[Bl]? = some (.cells #[v1] 35 (0, 0)) := blk_put (cs' := #[v1]) hbl5 0 v1 rfl
  refine ⟨fun k => (S k ∨ W.heap.size ≤ k) ∧ k < w5.heap.size, fun k q => ⟨q.1, by rw [hsz]; exact q.2⟩, kk, fun k hk => ⟨.inl (h1 k hk), ?_⟩, ⟨.inl h2, blk_lt hbl5⟩, h3, ?_, v1, hbl, ?_⟩
  · exact Nat.lt_of_lt_of_le (Nat.lt_of_lt_of_le hk h4.size) hg.size
  · have b5 : Below w.heap.size w w5 := ⟨hg.os.trans h4.os, hg.tape.trans h4.tape, hg.output.trans h4.output, Nat.le_trans h4.size hg.size, fun k hl => (hg.block k (Nat.lt_of_lt_of_le hl h4.size) (fun e => by have := (hown k e.symm).2; omega)).trans (h4.block k hl)⟩
    exact below_set b5 h3
  · have hb := Kd.R_bound ho
    refine Kd.R_mono (Kd.R_step hb (w1 := w5.setCell ⟨Bl, 0, none⟩ v1) fun k q hl => ?_) fun k q => ⟨⟨q.1.1, q.2.2.1⟩, q.1.2⟩
    obtain ⟨_, _, _, q2, hq2, cells, hc⟩ := q
    refine Below.heap_setCell _ _ _ _ (fun e => ?_)
    simp only at e
    subst e
    rw [hbl5] at hc
    injection hc with hc
    injection hc with _ hc _
    subst hc
    rcases List.mem_cons.1 hq2 with e | h
    · exact absurd e (by decide)
    · cases h
set_option maxHeartbeats 8000000 in
set_option maxRecDepth 100000 in
theorem match_Tokens.calls (A0 : Option Addr) (c0 : Nat) (l0 : List Int) (a1_0 a1_1 : Int) (a1_2 : Bool) (r1 : List S56) (r2 : Int) (w : World)
    (hr0 : Kd.C (Kd.int .u8) w A0 l0.length l0) (hc0 : l0.length ≤ c0) (h : match_Tokens.f l0 a1_0 a1_1 a1_2 = some (r1, r2)) :
    Calls Tryd.prog 32 #[.slice A0 l0.length c0, .agg #[.int .i64 a1_0, .int .i64 a1_1, .bool a1_2]] w fun e w' => ∃ v0_ : Value, e = .returned (.tuple #[v0_, .int .i64 r2]) ∧ Kd.R k56 56 w' w.heap.size (fun _ => True) v0_ r1 ∧ Below w.heap.size w w' := by
  unfold match_Tokens.f at h
  split at h
  rotate_left
  · cases h
  rename_i hpre
  obtain ⟨hbig, hby, hwc⟩ := hpre
  obtain ⟨toks, ht, e⟩ := Option.map_eq_some_iff.1 h
  obtain ⟨rfl, rfl⟩ := Prod.mk.inj e
  have H0 := Aside0.mk hr0
  have HBIG := Aside0.mk hbig
  have HBY := Aside0.mk hby
  have HWC := Aside0.mk hwc
  have HT := Aside0.mk ht
  have HTL := Aside0.mk (show toks.length ≤ 16777217 by have := eachF_len _ _ _ _ _ _ _ _ _ _ _ ht; omega)
  have a0 : decide (16777216 < (l0.length : Int)) = false := decide_eq_false (by omega)
  clear hr0 hbig hby hwc ht h e hc0
  refine (callsIn_wide (n := 6)).1 ?_
  refine callsIn_of_wp_marks Tryd.func32 rfl trivial ?_ rfl
  simp only [Tryd.ntmps32, List.size_toArray, List.length_cons, List.length_nil, Nat.reduceAdd, Nat.reduceSub, Array.replicate_succ, Array.replicate_zero, List.push_toArray, List.append_toArray, List.nil_append, List.cons_append]
  gi_wp2_with fail
  obtain ⟨w1, hw1⟩ : ∃ w1, w.alloc (.cells #[.int .i64 a1_0, .int .i64 a1_1, .bool a1_2] 23 (0, 0)) = w1 := ⟨_, rfl⟩
  have HB1 := Aside0.mk (show Below w.heap.size w w1 by rw [← hw1]; exact (Below.refl _ w).alloc (Nat.le_refl _) _)
  have BK1 := Aside0.mk (show w1.heap[w.heap.size]? = some (.cells #[.int .i64 a1_0, .int .i64 a1_1, .bool a1_2] 23 (0, 0)) by rw [← hw1]; exact World.alloc_heap_new w _)
  rw [hw1]
  clear hw1
  refine ⟨trivial, ?_⟩
  refine (callsIn_wide.2 (fine_calls a1_0 a1_1 a1_2 w1 HWC.out)).mono ?_
  rintro e w2 ⟨rfl, hb2⟩
  have HB2 := Aside0.mk (below_step HB1.out hb2)
  have BK2 := Aside0.mk (blk_below BK1.out hb2)
  have f0 : w2.cell? ⟨w.heap.size, 0, none⟩ = some (.int .i64 a1_0) := blk_cell BK2.out 0
  have f1 : w2.cell? ⟨w.heap.size, 1, none⟩ = some (.int .i64 a1_1) := blk_cell BK2.out 1
  have f2 : w2.cell? ⟨w.heap.size, 2, none⟩ = some (.bool a1_2) := blk_cell BK2.out 2
  clear hb2 HB1 BK1
  have hlt := blk_lt BK2.out
  gi_wp2_with fail
  obtain ⟨w3, hw3⟩ : ∃ w3, w2.alloc (.cells #[.slice none 0 0] 35 (0, 0)) = w3 := ⟨_, rfl⟩
  obtain ⟨Bl, hBl⟩ : ∃ Bl, w2.heap.size = Bl := ⟨_, rfl⟩
  have HB3 := Aside0.mk (show Below w.heap.size w w3 by rw [← hw3]; exact HB2.out.alloc HB2.out.size _)
  have BK3 := Aside0.mk (show w3.heap[Bl]? = some (.cells #[.slice none 0 0] 35 (0, 0)) by rw [← hw3, ← hBl]; exact World.alloc_heap_new w2 _)
  have HBL := Aside0.mk (show w.heap.size ≤ Bl by omega)
  rw [hw3, hBl]
  clear hw3 f0 f1 f2 hlt HB2 BK2 hBl
  refine ⟨trivial, ?_⟩
  refine (callsIn_wide.2 (each_calls A0 c0 l0 a1_0 a1_1 a1_2 w3 (Kd.C_below H0.out HB3.out) HBIG.out HWC.out)).mono ?_
  rintro e w4 ⟨Bo, Be, gA, cA, rfl, hbo, hbe, g1, g2, hd, hb4⟩
  have hgA : w3.heap.size ≤ gA := (Kd.R_bound hd).1 gA rfl |>.2.1
  have hgA2 : gA < w4.heap.size := (Kd.R_bound hd).1 gA rfl |>.2.2.1
  have HB4 := Aside0.mk (below_step HB3.out hb4)
  have BK4 := Aside0.mk (blk_below BK3.out hb4)
  have HLT := Aside0.mk (And.intro (blk_lt hbo) (And.intro (blk_lt hbe) (And.intro (blk_lt BK3.out) HB3.out.size)))
  gi_wp2_with fail
  obtain ⟨fr, hfr⟩ : ∃ fr : Nat → Value → Act, fr = fun Bx v => { tmps := #[.slice A0 l0.length c0, .agg #[.int .i64 a1_0, .int .i64 a1_1, .bool a1_2], undef, .pointer (some ⟨w.heap.size, 0, none⟩), .slice none 0 0, .int .i64 0, .pointer (some ⟨Bl, 0, none⟩), .pointer (some ⟨Bx, 0, none⟩), .slice A0 l0.length c0, .int .i64 (l0.length : Int), .bool false, .bool false, .agg #[.int .i64 a1_0, .int .i64 a1_1, .bool a1_2], .bool true, .bool false, .bool false, .slice A0 l0.length c0, .agg #[.int .i64 a1_0, .int .i64 a1_1, .bool a1_2], .func (.func 50) #[] #[.pointer (some ⟨Bo, 0, none⟩), .pointer (some ⟨Be, 0, none⟩)], v, undef, undef, undef, undef, undef], defers := [] } := ⟨_, rfl⟩
  refine wpIn_rangeFunc_foot rfl (by decide) (gf := 50) (lb := #[.pointer (some ⟨Bo, 0, none⟩), .pointer (some ⟨Be, 0, none⟩)]) rfl trivial (enters_of Tryd.func50 (by kernel_rfl) rfl)
    (each_seq (6 - 1) Bo Be gA cA l0 a1_0 a1_1 a1_2 toks w4 HBIG.out HBY.out HWC.out hbo hbe (Kd.R_lower hd (Nat.zero_le _)) HT.out) ?hRd (Below.refl _ _) (fun _ => rfl)
    (TokI w Bl) (fun _ _ _ _ => False) (fun pre S A B h k => h.keep k) (fun _ _ _ _ _ h _ => h)
    (fun k => k < w.heap.size ∨ k = Bl) ?hS0 ?hS1 ?h0 (TokA w Bl fr) (fun pre x S a' A B h k => h.keep k) ?assign ?body ?done ?stop
  case hRd => rintro k (rfl | rfl | rfl); exact HLT.out.1; exact HLT.out.2.1; exact hgA2
  case hS0 =>
    have q1 := HLT.out
    rintro k (hk | rfl) (e | e | e) <;> omega
  case hS1 =>
    have q1 := HLT.out
    have q2 := HB4.out.size
    have q3 := blk_lt BK4.out
    rintro k (hk | rfl) <;> omega
  case h0 => exact ⟨fun k hk => .inl hk, .inr rfl, HBL.out, HB4.out, _, BK4.out, Kd.R_nil _ _ _ _ _⟩
  case assign =>
    intro l pre x S W K hI hs hlen hK
    have HK := Aside0.mk hK
    have HI := Aside0.mk hI
    have HS := Aside0.mk hs
    have HFR := Aside0.mk hfr
    clear hK hI hs hfr hlen
    unfold tokV at *
    gi_wp2_with fail
    have hA := TokI.box (fr := fr) HI.out HS.out (o := .cells #[.int .i64 x.f0, .int .i64 x.f1, .int .u8 x.f2] 56 (0, 0)) rfl
    refine HK.out (fun k => S k ∨ k = W.heap.size) _ _ (fun k hk => ?_) (KeepsOn.alloc _ W _) ?_
    · rcases hk with h | rfl
      · exact ⟨.inl h, by have := HS.out k h; rw [World.size_alloc]; omega⟩
      · exact ⟨.inr (Nat.le_refl _), by rw [World.size_alloc]; omega⟩
    · rw [HFR.out] at hA ⊢
      exact hA
  case body =>
    rintro l pre x S a' W ⟨Bx, b1, b2, b3, b4, rfl, h1, h2, h3, h4, v, h5, h6⟩ hs hlen
    rw [hfr]
    have HS := Aside0.mk hs
    have HI := Aside0.mk (And.intro h1 (And.intro h2 (And.intro h3 h4)))
    have HBX := Aside0.mk (And.intro b1 (And.intro b2 b3))
    have H6 := Aside0.mk h6
    have H5 := Aside0.mk h5
    have H4 := Aside0.mk b4
    have HL := Aside0.mk hlen
    have z0 : W.cell? ⟨Bl, 0, none⟩ = some v := blk_cell h5 0
    have zf : W.frozen? ⟨Bl, 0, none⟩ = false := blk_frozen h5 0
    have x0 : W.cell? ⟨Bx, 0, none⟩ = some (.int .i64 x.f0) := blk_cell b4 0
    have x1 : W.cell? ⟨Bx, 1, none⟩ = some (.int .i64 x.f1) := blk_cell b4 1
    have x2 : W.cell? ⟨Bx, 2, none⟩ = some (.int .u8 x.f2) := blk_cell b4 2
    clear h1 h2 h3 h4 h5 h6 b1 b2 b3 b4 hs hlen hfr
    gi_wp2_with (first
      | (gi_at_builtin; refine R_append_in k56 (W := W) (w0 := w) w.heap.size rfl (.tmp 20) (.tmp 22) 35 56 (.agg #[.int .i64 0, .int .i64 0, .int .u8 0]) 24 rfl Tryd.underlying35 info56 rfl (by show 0 < 3; omega) (by omega) v pre x [.int .i64 x.f0, .int .i64 x.f1, .int .u8 x.f2] (fun k => (S k ∨ W.heap.size ≤ k) ∧ w.heap.size ≤ k ∧ k ≠ Bx) (fun _ => False) rfl rfl ?aP (fun _ hk => hk.elim) ?aF ?aO ?aB ?aS ?aL ?_; (case aP => exact k56_mkM _ _ _ _); (case aB => exact HI.out.2.2.2); (case aS => exact HI.out.2.2.2.size); (case aF => exact (fun k hk => ⟨.inr hk, Nat.le_trans HI.out.2.2.2.size hk, fun e => by have := blk_lt H4.out; omega⟩)); (case aO => exact Kd.R_mono H6.out (fun k q => ⟨.inl q.1, q.2⟩)); (case aL => have := HL.out; have := HTL.out; omega); intro v1 w5 ho hb hgr hat; obtain ⟨g1, c1, e1⟩ := R_head_ne ho (by simp); subst e1; have HO5 := Aside0.mk ho; have HG5 := Aside0.mk hgr; have z5 : w5.cell? ⟨Bl, 0, none⟩ = some v := blk_cell (blk_grown H5.out hgr (Kd.R_ne H6.out H5.out (by decide))) 0; have zf5 : w5.frozen? ⟨Bl, 0, none⟩ = false := blk_frozen (blk_grown H5.out hgr (Kd.R_ne H6.out H5.out (by decide))) 0; clear ho hb hgr hat)
      | fail)
    have ho6 := HO5.out
    rw [show (pre ++ [x]).length = pre.length + 1 by simp] at ho6
    refine TokA.done HS.out HI.out.1 HI.out.2.1 HI.out.2.2.1 HI.out.2.2.2 H5.out (Kd.R_mono H6.out (fun k (q : S k ∧ w.heap.size ≤ k ∧ k ≠ Bx) => ⟨q.1, q.2.1⟩)) (Kd.R_mono ho6 (fun k (q : (S k ∨ W.heap.size ≤ k) ∧ w.heap.size ≤ k ∧ k ≠ Bx) => ⟨q.1, q.2.1⟩)) HG5.out
  case done =>
    rintro D xs S W rfl ⟨h1, h2, h3, h4, v, h5, h6⟩ hD hwD hDK
    have z0 : W.cell? ⟨Bl, 0, none⟩ = some v := blk_cell h5 0
    have HI := Aside0.mk (And.intro h1 (And.intro h2 (And.intro h3 h4)))
    have H6 := Aside0.mk h6
    have HD := Aside0.mk (And.intro hD (And.intro hwD hDK))
    clear h1 h2 h3 h4 h5 h6 hD hwD hDK
    gi_wp2_with fail
    refine ⟨by simp, .inl ⟨_, _, rfl, run_takeDeferred HD.out.2.2, ?_⟩⟩
    have kp := KeepsOn.putObj W D (.deferred none) HD.out.1
    refine ⟨_, results_tmp2 rfl _ _ _, v, rfl, ?_, below_keepsOn HI.out.2.2.2 HI.out.1 kp⟩
    exact Kd.R_mono (Kd.R_step H6.out fun k q hl => kp.block k q.1 hl) fun _ _ => trivial
  case stop => rintro D c pre S W _ h; exact h.elim
end Go.Proofs.YtpndhoefmepfdaaDoor.PSq
