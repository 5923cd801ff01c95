/- valiselaw11.apart of n lists of one's own that lie apart: true; nothing elder is written. -/
import Derived.Test.YtpndhoefmepfdaaPStx2
import Derived.Test.YtpndhoefmepfdaaKeep
import Derived.Test.YtpndhoefmepfdaaStoresPure
import Derived.BigQuiet
namespace Go.Proofs.Ytpndhoefmepfdaa.StApart
open Go.RowKit Go.Proofs.Ytpndhoefmepfdaa.PSt Go.Proofs.YtpndhoefmepfdaaW.PrintWords Go.Proofs.YtpndhoefmepfdaaW.PrintLast Go.Proofs.YtpndhoefmepfdaaW.PrintMore
set_option linter.unusedVariables false
def full (l : List Int) (i : Int) (v : Int) : Prop := ∀ j : Int, 0 ≤ j → j < i → rd l j = v
theorem full_set (l : List Int) (i v : Int) (h0 : 0 ≤ i) (h1 : i < (l.length : Int)) (h : full l i v) : full (l.set i.toNat v) (i + 1) v := by
  intro j j0 j1
  unfold rd
  have hj : j.toNat < (l.set i.toNat v).length := by rw [List.length_set]; omega
  rw [List.getD_eq_getElem?_getD, List.getElem?_eq_getElem hj, Option.getD_some, List.getElem_set]
  by_cases hij : i.toNat = j.toNat
  · rw [if_pos hij]
  · rw [if_neg hij]
    have := h j j0 (by omega)
    unfold rd at this
    rwa [List.getD_eq_getElem?_getD, List.getElem?_eq_getElem (by rw [List.length_set] at hj; exact hj), Option.getD_some] at this
/-- The rows, each a row of one's own. -/
def Rows (w : World) (base n : Nat) (A : Nat → Option Addr) (N C : Nat → Nat) (Y : Nat → List Int) : Prop := ∀ i, i < n → Kd.R (Kd.int .u8) 5 w base (fun _ => True) (.slice (A i) (N i) (C i)) (Y i)
def Far (n : Nat) (A : Nat → Option Addr) (N C : Nat → Nat) : Prop := ∀ i j, i < n → j < n → i ≠ j → ∀ k, (Value.slice (A i) (N i) (C i)).ownBlock = some k → (Value.slice (A j) (N j) (C j)).ownBlock ≠ some k
def put (Y : Nat → List Int) (i : Nat) (l : List Int) : Nat → List Int := fun j => if j = i then l else Y j
theorem rows_len {w : World} {base n : Nat} {A : Nat → Option Addr} {N C : Nat → Nat} {Y : Nat → List Int} (h : Rows w base n A N C Y) (i : Nat) (hi : i < n) : N i = (Y i).length := (Kd.R_reads' (h i hi)).1
theorem rows_put {w : World} {base n g : Nat} {A : Nat → Option Addr} {N C : Nat → Nat} {Y : Nat → List Int} (h : Rows w base n A N C Y) (hf : Far n A N C) (i : Nat) (hi : i < n) (ha : A i = some ⟨g, 0, none⟩) (q x : Int) :
    Rows (w.setCell ⟨g, q.toNat, none⟩ (.int .u8 x)) base n A N C (put Y i ((Y i).set q.toNat x)) := by
  intro j hj
  unfold put
  by_cases hji : j = i
  · subst hji
    rw [if_pos rfl]
    have := h j hj
    rw [ha] at this ⊢
    exact Kd.R_putn this q x
  · rw [if_neg hji]
    refine Kd.R_of_own (own_setCell (Kd.own_of_R (h j hj)) (fun he => ?_) _) (fun _ _ => trivial)
    exact hf j i hj hi hji g he.symm (by rw [ha]; rfl)
theorem rows_grown {w w1 : World} {base n : Nat} {A : Nat → Option Addr} {N C : Nat → Nat} {Y : Nat → List Int} (h : Rows w base n A N C Y) (row : Option Nat) (hg : w.grownBy w1 row) (hr : ∀ i, i < n → ∀ k, row = some k → (Value.slice (A i) (N i) (C i)).ownBlock ≠ some k) : Rows w1 base n A N C Y := by
  intro j hj
  refine Kd.R_of_own (World.ownsRow.kept (Kd.own_of_R (h j hj)) hg ?_) (fun _ _ => trivial)
  by_cases hz : (Value.slice (A j) (N j) (C j)).ownBlock = none
  · exact .inl hz
  · obtain ⟨k, hk⟩ := Option.ne_none_iff_exists'.1 hz
    exact .inr (fun he => hr j hj k (he ▸ hk) hk)
/-- What is told of a list that was begun as an append to row i: row i's elements come first; it shares row i's memory or none of the rows'. -/
def Rel (w : World) (base n : Nat) (A : Nat → Option Addr) (N C : Nat → Nat) (Y : Nat → List Int) (i : Nat) (vm : Value) (ys : List Int) : Prop :=
  Kd.R (Kd.int .u8) 5 w base (fun _ => True) vm ys ∧ ys.take (N i) = Y i ∧ N i ≤ ys.length ∧ (∀ j, j < n → j ≠ i → ∀ k, vm.ownBlock = some k → (Value.slice (A j) (N j) (C j)).ownBlock ≠ some k) ∧
    ((∀ k, vm.ownBlock = some k → (Value.slice (A i) (N i) (C i)).ownBlock ≠ some k) ∨ ∃ g, A i = some ⟨g, 0, none⟩ ∧ vm = .slice (some ⟨g, 0, none⟩) ys.length (C i))
theorem rel_start {w : World} {base n : Nat} {A : Nat → Option Addr} {N C : Nat → Nat} {Y : Nat → List Int} (h : Rows w base n A N C Y) (hf : Far n A N C) (i : Nat) (hi : i < n) : Rel w base n A N C Y i (.slice (A i) (N i) (C i)) (Y i) := by
  have hl := rows_len h i hi
  refine ⟨h i hi, by rw [hl, List.take_length], by omega, fun j hj hji k hk => hf i j hi hj (fun e => hji e.symm) k hk, ?_⟩
  by_cases hz : (Value.slice (A i) (N i) (C i)).ownBlock = none
  · exact .inl (fun k hk => by rw [hz] at hk; cases hk)
  · obtain ⟨k, hk⟩ := Option.ne_none_iff_exists'.1 hz
    refine .inr ?_
    obtain ⟨_, inner, ho, _⟩ := h i hi
    rcases ho.2 with ⟨e1, _⟩ | ⟨g, cap, cur, e1, _⟩
    · rw [e1] at hk
      simp [Value.ownBlock] at hk
    · injection e1 with e2 e3 e4
      exact ⟨g, e2, by rw [e2, ← hl]⟩
theorem rel_step {w w1 : World} {base n : Nat} {A : Nat → Option Addr} {N C : Nat → Nat} {Y : Nat → List Int} (h : Rows w base n A N C Y) (i : Nat) (hi : i < n) {vm v1 : Value} {ys : List Int} {x : Int} (hr : Rel w base n A N C Y i vm ys)
    (h1 : Kd.R (Kd.int .u8) 5 w1 base (fun _ => True) v1 (ys ++ [x])) (h2 : Kd.R (Kd.int .u8) 5 w1 base (fun _ => True) vm ys) (hg : w.grownBy w1 vm.ownBlock) (hat : v1.ownBlock = vm.ownBlock ∨ ∃ b, v1.ownBlock = some b ∧ w.heap.size ≤ b) :
    Rows w1 base n A N C Y ∧ Rel w1 base n A N C Y i v1 (ys ++ [x]) := by
  obtain ⟨r1, r2, r3, r4, r5⟩ := hr
  have kept : ∀ j, j < n → (∀ k, vm.ownBlock = some k → (Value.slice (A j) (N j) (C j)).ownBlock ≠ some k) → Kd.R (Kd.int .u8) 5 w1 base (fun _ => True) (.slice (A j) (N j) (C j)) (Y j) := by
    intro j hj hne
    refine Kd.R_of_own (World.ownsRow.kept (Kd.own_of_R (h j hj)) hg ?_) (fun _ _ => trivial)
    by_cases hz : (Value.slice (A j) (N j) (C j)).ownBlock = none
    · exact .inl hz
    · obtain ⟨k, hk⟩ := Option.ne_none_iff_exists'.1 hz
      exact .inr (fun he => hne k (he ▸ hk) hk)
  have lt : ∀ j, j < n → ∀ k, (Value.slice (A j) (N j) (C j)).ownBlock = some k → k < w.heap.size := fun j hj k hk => Kd.R_lt (h j hj) k hk
  have hown : ∀ j, j < n → (∀ k, vm.ownBlock = some k → (Value.slice (A j) (N j) (C j)).ownBlock ≠ some k) → ∀ k, v1.ownBlock = some k → (Value.slice (A j) (N j) (C j)).ownBlock ≠ some k := by
    intro j hj hne k hk he
    rcases hat with e1 | ⟨b, e1, e2⟩
    · exact hne k (e1 ▸ hk) he
    · rw [e1] at hk
      injection hk with hk
      have := lt j hj k he
      omega
  refine ⟨fun j hj => ?_, h1, ?_, by rw [List.length_append]; omega, fun j hj hji => hown j hj (r4 j hj hji), ?_⟩
  · by_cases hji : j = i
    · subst hji
      rcases r5 with r5 | ⟨g, e1, e2⟩
      · exact kept j hj r5
      · subst e2
        have := Kd.R_take (m := N j) h2 (by omega)
        rw [r2] at this
        rw [e1]
        exact this
    · exact kept j hj (r4 j hj hji)
  · rw [List.take_append_of_le_length r3]
    exact r2
  · rcases r5 with r5 | ⟨g, e1, e2⟩
    · exact .inl (hown i hi r5)
    · rcases hat with e3 | ⟨b, e3, e4⟩
      · refine .inr ⟨g, e1, ?_⟩
        subst e2
        obtain ⟨_, in1, o1, _⟩ := h1
        obtain ⟨_, in2, o2, _⟩ := h2
        rcases o1.2 with ⟨f1, _⟩ | ⟨g1, cap1, cur1, f1, _, f2, _, _, f3, _⟩
        · rw [f1] at e3
          simp [Value.ownBlock] at e3
        · rcases o2.2 with ⟨q1, _⟩ | ⟨g2, cap2, cur2, q1, _, q2, _, _, q3, _⟩
          · cases q1
          · injection q1 with q4 q5 q6
            injection q4 with q4
            injection q4 with q4
            subst q4
            rw [f1] at e3
            have e5 : g1 = g := by simpa [Value.ownBlock] using e3
            subst e5
            rw [f2] at q2
            injection q2 with q2
            injection q2 with q7 q8
            subst q7
            have : cap1 = cap2 := by
              have hs : (Kd.int .u8).sz = 1 := rfl
              rw [hs] at f3 q3
              omega
            rw [f1, this, q6]
      · refine .inl (fun k hk he => ?_)
        rw [e3] at hk
        injection hk with hk
        have := lt i hi k he
        omega
abbrev Ent := Option Addr × Nat × Nat
def encS (e : Ent) : Value := .slice e.1 e.2.1 e.2.2
def dS : Kd Ent := Kd.scalar encS (fun _ => rfl)
theorem info22 : (Try.prog.info? 22).map (fun i => (i.zero, i.size, i.bytes)) = some (some (.slice none 0 0), 1, 24) := by kernel_rfl
theorem own_apart {w : World} {base base' e e' sz sz' n n' : Nat} {v u : Value} {xs ys : List Value} (h : w.ownsRow base e sz v n xs) (h' : w.ownsRow base' e' sz' u n' ys) (hne : e ≠ e') : v.ownBlock = none ∨ v.ownBlock ≠ u.ownBlock := by
  by_cases hz : v.ownBlock = none
  · exact .inl hz
  · obtain ⟨k, hk⟩ := Option.ne_none_iff_exists'.1 hz
    refine .inr (fun he => ?_)
    obtain ⟨c1, h1⟩ := own_typed h k hk
    obtain ⟨c2, h2⟩ := own_typed h' k (he ▸ hk)
    rw [h1] at h2
    injection h2 with h2
    injection h2 with _ h2
    exact hne h2
theorem more_kept {w w1 : World} {base : Nat} {ok ok' : Nat → Prop} {v vm : Value} {L : List Ent} {ys : List Int} (h : Kd.R dS 22 w base ok v L) (hm : Kd.R (Kd.int .u8) 5 w base ok' vm ys) (hg : w.grownBy w1 vm.ownBlock) : Kd.R dS 22 w1 base ok v L :=
  Kd.R_of_own (World.ownsRow.kept (Kd.own_of_R h) hg (own_apart (Kd.own_of_R h) (Kd.own_of_R hm) (by decide))) h.1
theorem rows_more {w w1 : World} {base n : Nat} {A : Nat → Option Addr} {N C : Nat → Nat} {Y : Nat → List Int} {ok : Nat → Prop} {v : Value} {L : List Ent} (h : Rows w base n A N C Y) (hm : Kd.R dS 22 w base ok v L) (hg : w.grownBy w1 v.ownBlock) : Rows w1 base n A N C Y :=
  fun j hj => Kd.R_of_own (World.ownsRow.kept (Kd.own_of_R (h j hj)) hg (own_apart (Kd.own_of_R (h j hj)) (Kd.own_of_R hm) (by decide))) (fun _ _ => trivial)
theorem marked_from (l : List Int) (v : Int) (hl : l.length ≤ 9223372036854775806) (h : full l (l.length : Int) v) : ∀ (n i : Nat), i + n = l.length → ∀ k, n < k → valiselaw11_marked.l0 k l v (i : Int) = some true := by
  intro n
  induction n with
  | zero =>
    intro i hi k hk
    obtain ⟨k, rfl⟩ : ∃ q, k = q + 1 := ⟨k - 1, by omega⟩
    rw [valiselaw11_marked.l0, if_neg (by omega)]
  | succ n ih =>
    intro i hi k hk
    obtain ⟨k, rfl⟩ : ∃ q, k = q + 1 := ⟨k - 1, by omega⟩
    rw [valiselaw11_marked.l0, if_pos (by omega), if_pos (by omega), if_pos (h i (by omega) (by omega)), Go.Proofs.Ytpndhoefmepfdaa.StPure.wrap_id (by omega) (by omega)]
    exact ih (i + 1) (by omega) k (by omega)
theorem marked_ok (l : List Int) (v : Int) (hl : l.length ≤ 9223372036854775806) (h : full l (l.length : Int) v) : valiselaw11_marked.f (l.length + 1) l v = some true := marked_from l v hl h l.length 0 (by omega) _ (by omega)
set_option maxHeartbeats 8000000 in
set_option maxRecDepth 100000 in
theorem apart_calls (w : World) (base n gb : Nat) (A : Nat → Option Addr) (N C : Nat → Nat) (X : Nat → List Int) (cs : Array Value) (hn : n ≤ 100) (hbase : base ≤ gb) (hblk : w.heap[gb]? = some (.cells cs 22 (0, 0))) (hcs : ∀ i, i < n → cs[i]? = some (.slice (A i) (N i) (C i)))
    (hR : Rows w base n A N C X) (hF : Far n A N C) (hX : ∀ i, i < n → N i ≤ 20000000) :
    Calls Try.prog 24 #[.slice (some ⟨gb, 0, none⟩) n n] w fun e w' => e = .returned (.bool true) ∧ Below base w w' := by
  have HR := Aside0.mk hR
  have HF := Aside0.mk hF
  have HX := Aside0.mk hX
  have HCS := Aside0.mk hcs
  have HK := Aside0.mk hblk
  have HBG := Aside0.mk (show base ≤ gb ∧ n ≤ 100 from ⟨hbase, hn⟩)
  have HB := Aside0.mk (Below.refl base w)
  have HBS := Aside0.mk (show base ≤ w.heap.size from Nat.le_trans hbase (Nat.le_of_lt (blk_lt hblk)))
  clear hR hF hX hcs hblk hbase hn
  go_enter Try.func24, Try.ntmps24
  go_wp2
  go_loopg [3] (n + 1) (fun kq v3 w' => ∃ (i : Nat) (Y : Nat → List Int), v3 = .int .i64 (i : Int) ∧ Aside0 (i + kq = n + 1 ∧ i ≤ n ∧ ∀ j, j < i → full (Y j) (N j : Int) (j : Int)) ∧ Aside0 (Rows w' base n A N C Y) ∧ Aside0 (w'.heap[gb]? = some (.cells cs 22 (0, 0))) ∧ Aside0 (Below base w w' ∧ base ≤ w'.heap.size))
  case atStart => exact ⟨0, X, rfl, ⟨⟨by omega, by omega, fun j hj => by omega⟩⟩, HR, HK, ⟨HB.out, HBS.out⟩⟩
  case round =>
    clear HR HK HB HBS
    obtain ⟨i, Y, rfl, HI, HR, HK, HB⟩ := hrel
    cases gk with
    | zero => exact absurd HI.out.1 (by have := HI.out.2.1; omega)
    | succ k1 =>
      obtain ⟨q, hq⟩ : ∃ q : Int, (i : Int) = q := ⟨_, rfl⟩
      have h0 : 0 ≤ q := by omega
      by_cases c8 : q < (n : Int)
      · have c8b0 : decide (q < (n : Int)) = true := decide_eq_true c8
        have hin : i < n := by omega
        obtain ⟨a, ha⟩ : ∃ a, A i = a := ⟨_, rfl⟩
        obtain ⟨m, hm⟩ : ∃ m, N i = m := ⟨_, rfl⟩
        obtain ⟨c, hc⟩ : ∃ c, C i = c := ⟨_, rfl⟩
        have hcell : ∀ W : World, W.heap[gb]? = some (.cells cs 22 (0, 0)) → W.cell? ⟨gb, q.toNat, none⟩ = some (.slice a m c) := fun W hW => by
          rw [blk_cell hW, show q.toNat = i by omega, HCS.out i hin, ha, hm, hc]
        have HCELL := Aside0.mk hcell
        have HM := Aside0.mk (show m ≤ 20000000 from hm ▸ HX.out i hin)
        have HQ := Aside0.mk (show (i : Int) = q ∧ i < n from ⟨hq, hin⟩)
        have HAM := Aside0.mk (show A i = a ∧ N i = m ∧ C i = c from ⟨ha, hm, hc⟩)
        have HW := Aside0.mk (show wrap64 (q + 1) = ((i + 1 : Nat) : Int) by have := HBG.out.2; unfold wrap64; omega)
        have HI1 := Aside0.mk (show (i + 1) + k1 = n + 1 ∧ i + 1 ≤ n by have := HI.out; omega)
        have q99 : (q < 100) = True := eq_true (by have := HBG.out.2; omega)
        rw [hq]
        replace h0 := eq_true h0
        replace c8 := eq_true c8
        clear hq hin ha hm hc hcell
        go_wp2
        go_loopg [4] (m + 1) (fun kq v4 w' => ∃ (t : Int) (l : List Int), v4 = .int .i64 t ∧ Aside0 (0 ≤ t ∧ t ≤ (m : Int) ∧ kq = ((m : Int) - t).toNat + 1 ∧ l.length = m ∧ full l t q) ∧ Aside0 (Rows w' base n A N C (put Y i l)) ∧ Aside0 (w'.heap[gb]? = some (.cells cs 22 (0, 0))) ∧ Aside0 (Below base w w' ∧ base ≤ w'.heap.size))
        case atStart =>
          refine ⟨0, Y i, rfl, ⟨⟨by omega, by omega, by omega, ?_, fun j h0 h1 => by omega⟩⟩, ⟨?_⟩, HK, HB⟩
          · rw [← HAM.out.2.1]; exact (rows_len HR.out i HQ.out.2).symm
          · intro j hj
            unfold put
            by_cases hji : j = i
            · subst hji; rw [if_pos rfl]; exact HR.out j hj
            · rw [if_neg hji]; exact HR.out j hj
        case round =>
          clear HR HK HB
          obtain ⟨t, l, rfl, HT, HR, HK, HB⟩ := hrel
          cases gk with
          | zero => exact absurd HT.out.2.2.1 (by omega)
          | succ k2 =>
            have y0 := HCELL.out wr HK.out
            have t0 := HT.out.1
            by_cases c9 : t < (m : Int)
            · have c9b0 : decide (t < (m : Int)) = true := decide_eq_true c9
              have hri := HR.out i HQ.out.2
              rw [HAM.out.1, HAM.out.2.1, HAM.out.2.2] at hri
              unfold put at hri
              rw [if_pos rfl] at hri
              obtain ⟨g, cap, he, hbg, hgl, cells, hgc⟩ := Kd.R_form hri (by have := HT.out; omega)
              injection he with hA hn2 hc2
              subst hA
              have hx1 := (Kd.R_celln (0 : Int) hri t t0 c9).1
              have hx2 := (Kd.R_celln (0 : Int) hri t t0 c9).2
              have HWT := Aside0.mk (show wrap64 (t + 1) = t + 1 by have := HM.out; unfold wrap64; omega)
              have HT' := Aside0.mk (show 0 ≤ t + 1 ∧ t + 1 ≤ (m : Int) ∧ k2 = ((m : Int) - (t + 1)).toNat + 1 ∧ (l.set t.toNat q).length = m ∧ full (l.set t.toNat q) (t + 1) q by
                have h := HT.out
                exact ⟨by omega, by omega, by omega, by rw [List.length_set]; exact h.2.2.2.1, full_set l t q t0 (by omega) h.2.2.2.2⟩)
              have HG := Aside0.mk (show base ≤ g ∧ gb ≠ g from ⟨hbg, fun he => by
                subst he
                rw [HK.out] at hgc
                injection hgc with hgc
                injection hgc with _ h2
                exact absurd h2 (by decide)⟩)
              have HS := Aside0.mk (show ∀ u : Value, (wr.setCell ⟨g, t.toNat, none⟩ u).heap.size = wr.heap.size from fun u => by simp [World.setCell])
              replace t0 := eq_true t0
              replace c9 := eq_true c9
              clear HT hri hn2 hc2 hbg hgl hgc
              go_wp2
              go_roundg k2
              case measure => omega
              case rel =>
                have hv : q.tmod 200 % 256 = q := by
                  have h1 := HQ.out
                  have h2 := HBG.out.2
                  rw [Int.tmod_eq_emod_of_nonneg (by omega)]
                  omega
                rw [hv]
                refine ⟨wrap64 (t + 1), l.set t.toNat q, (by first | rfl | (simp; done) | (simp [*]; done)), ⟨by rw [HWT.out]; exact HT'.out⟩, ⟨?_⟩, ⟨?_⟩, ⟨?_, ?_⟩⟩
                · have h := rows_put HR.out HF.out i HQ.out.2 HAM.out.1 t q
                  have e : put (put Y i l) i ((put Y i l i).set t.toNat q) = put Y i (l.set t.toNat q) := by
                    funext j
                    unfold put
                    by_cases hji : j = i
                    · rw [if_pos hji, if_pos hji, if_pos rfl]
                    · rw [if_neg hji, if_neg hji, if_neg hji]
                  rwa [e] at h
                · exact blk_far HK.out HG.out.2 _
                · exact HB.out.1.setCell HG.out.1 _
                · rw [HS.out]; exact HB.out.2
            · have c9b0 : decide (t < (m : Int)) = false := decide_eq_false c9
              have HT' := Aside0.mk (show full l (m : Int) q by
                have h := HT.out
                rw [show (m : Int) = t by omega]
                exact h.2.2.2.2)
              clear HT t0 c9
              go_wp2
              go_roundg k1
              case measure => omega
              case rel =>
                refine ⟨i + 1, put Y i l, by rw [HW.out], ⟨⟨HI1.out.1, HI1.out.2, fun j hj => ?_⟩⟩, HR, HK, HB⟩
                unfold put
                by_cases hji : j = i
                · subst hji
                  rw [if_pos rfl, HAM.out.2.1, HQ.out.1]
                  exact HT'.out
                · rw [if_neg hji]
                  exact HI.out.2.2 j (by omega)
      · have c8b0 : decide (q < (n : Int)) = false := decide_eq_false c8
        have HFULL := Aside0.mk (show ∀ j, j < n → full (Y j) (N j : Int) (j : Int) from fun j hj => HI.out.2.2 j (by have := HI.out; omega))
        rw [hq]
        clear HI h0 c8
        go_wp2
        go_loopg [5, 6] (n + 1) (fun kq v5 v6 w' => ∃ (i : Nat) (L : List Ent), v6 = .int .i64 (i : Int) ∧ Aside0 (i + kq = n + 1 ∧ i ≤ n ∧ L.length = i ∧ ∀ j, j < i → (L.getD j (none, 0, 0)).2.1 = N j + 100) ∧ Aside0 (Rows w' base n A N C Y) ∧ Aside0 (w'.heap[gb]? = some (.cells cs 22 (0, 0))) ∧ Aside0 (Kd.R dS 22 w' base (fun k => k ≠ gb) v5 L) ∧ Aside0 (Below base w w' ∧ base ≤ w'.heap.size))
        case atStart => exact ⟨0, [], rfl, ⟨⟨by omega, by omega, rfl, fun j hj => by omega⟩⟩, HR, HK, ⟨Kd.R_nil _ _ _ _ _⟩, HB⟩
        case round =>
          clear HR HK HB hq
          obtain ⟨i2, L, rfl, HI, HR, HK, HO, HB⟩ := hrel
          cases gk with
          | zero => exact absurd HI.out.1 (by have := HI.out.2.1; omega)
          | succ k2 =>
            obtain ⟨q2, hq⟩ : ∃ q : Int, (i2 : Int) = q := ⟨_, rfl⟩
            have h0 : 0 ≤ q2 := by omega
            by_cases c8 : q2 < (n : Int)
            · have c8b0 : decide (q2 < (n : Int)) = true := decide_eq_true c8
              have hin : i2 < n := by omega
              obtain ⟨a, ha⟩ : ∃ a, A i2 = a := ⟨_, rfl⟩
              obtain ⟨m, hm⟩ : ∃ m, N i2 = m := ⟨_, rfl⟩
              obtain ⟨c, hc⟩ : ∃ c, C i2 = c := ⟨_, rfl⟩
              have hcell : wr.cell? ⟨gb, q2.toNat, none⟩ = some (.slice a m c) := by
                rw [blk_cell HK.out, show q2.toNat = i2 by omega, HCS.out i2 hin, ha, hm, hc]
              have RL := Aside0.mk (show Rel wr base n A N C Y i2 (.slice a m c) (Y i2) by
                have h := rel_start HR.out HF.out i2 hin
                rwa [ha, hm, hc] at h)
              have HM := Aside0.mk (show m ≤ 20000000 ∧ (Y i2).length = m from ⟨hm ▸ HX.out i2 hin, hm ▸ (rows_len HR.out i2 hin).symm⟩)
              have HQ := Aside0.mk (show (i2 : Int) = q2 ∧ i2 < n ∧ N i2 = m from ⟨hq, hin, hm⟩)
              have HW := Aside0.mk (show wrap64 (q2 + 1) = ((i2 + 1 : Nat) : Int) by have := HBG.out.2; unfold wrap64; omega)
              rw [hq]
              replace h0 := eq_true h0
              replace c8 := eq_true c8
              clear hq hin ha hm hc
              go_wp2_with (first
                | ((with_reducible refine gate_builtin (b := .append) (xs := #[.tmp 44, .tmp 45]) rfl ?_); at_builtin; refine Go.Proofs.Ytpndhoefmepfdaa.Keep.keep_append (w0 := w) base rfl (.tmp 44) (.tmp 45) 22 5 (.int .u8 0) 1 1 rfl Try.underlying22 info5 rfl (by decide) (by decide) (.slice a m c) (Y i2).length (encs (Value.int .u8) (Y i2)) [.int .u8 241] rfl rfl rfl ?o1 (Kd.own_of_R RL.out.1) HB.out.1 HB.out.2 ?hl ?_; (case o1 => (intro u hu; rcases List.mem_singleton.1 hu with rfl; rfl)); (case hl => (have := HM.out; omega)); intro vm w1 hc1 ha1 hb1 hg1 hat1; have hst := rel_step HR.out i2 HQ.out.2.1 RL.out (Kd.R_of_own (by rw [List.length_append]; simpa [encs] using hc1) (fun _ _ => trivial)) (Kd.R_of_own ha1 (fun _ _ => trivial)) hg1 hat1; have HR1 := Aside0.mk hst.1; have RL1 := Aside0.mk hst.2; have HO1 := Aside0.mk (more_kept HO.out RL.out.1 hg1); have HK1 := Aside0.mk (blk_grown HK.out hg1 (Kd.R_ne RL.out.1 HK.out (by decide))); have HB1 := Aside0.mk (And.intro hb1 (Nat.le_trans HB.out.2 hg1.size)); clear HR RL HO HK HB hst hc1 ha1 hb1 hg1 hat1 hcell)
                | fail)
              go_loopg [7, 8] 100 (fun kq v7 v8 w' => ∃ (t : Nat) (ys : List Int), v8 = .int .i64 (t : Int) ∧ Aside0 (t + kq = 100 ∧ t ≤ 99 ∧ ys.length = m + 1 + t) ∧ Aside0 (Rows w' base n A N C Y) ∧ Aside0 (Rel w' base n A N C Y i2 v7 ys) ∧ Aside0 (w'.heap[gb]? = some (.cells cs 22 (0, 0))) ∧ Aside0 (Kd.R dS 22 w' base (fun k => k ≠ gb) u5 L) ∧ Aside0 (Below base w w' ∧ base ≤ w'.heap.size))
              case atStart => exact ⟨0, _, rfl, ⟨⟨by omega, by omega, by rw [List.length_append, HM.out.2]; rfl⟩⟩, HR1, RL1, HK1, HO1, HB1⟩
              case round =>
                clear HR1 RL1 HK1 HO1 HB1
                obtain ⟨t, ys, rfl, HT, HR, RL, HK, HO, HB⟩ := hrel
                cases gk with
                | zero => exact absurd HT.out.1 (by have := HT.out.2.1; omega)
                | succ k3 =>
                  by_cases c9 : (t : Int) < 99
                  · have c9b0 : decide ((t : Int) < 99) = true := decide_eq_true c9
                    have HW2 := Aside0.mk (show wrap64 ((t : Int) + 1) = ((t + 1 : Nat) : Int) by unfold wrap64; omega)
                    have HT' := Aside0.mk (show (t + 1) + k3 = 100 ∧ t + 1 ≤ 99 ∧ ys.length = m + 1 + t by have := HT.out; omega)
                    clear HT c9
                    go_wp2_with (first
                      | ((with_reducible refine gate_builtin (b := .append) (xs := #[.tmp 51, .tmp 52]) rfl ?_); at_builtin; refine Go.Proofs.Ytpndhoefmepfdaa.Keep.keep_append (w0 := w) base rfl (.tmp 51) (.tmp 52) 22 5 (.int .u8 0) 1 1 rfl Try.underlying22 info5 rfl (by decide) (by decide) u7 ys.length (encs (Value.int .u8) ys) [.int .u8 242] rfl rfl rfl ?o1 (Kd.own_of_R RL.out.1) HB.out.1 HB.out.2 ?hl ?_; (case o1 => (intro u hu; rcases List.mem_singleton.1 hu with rfl; rfl)); (case hl => (have := HM.out; have := HT'.out; omega)); intro vm w1 hc1 ha1 hb1 hg1 hat1; have hst := rel_step HR.out i2 HQ.out.2.1 RL.out (Kd.R_of_own (by rw [List.length_append]; simpa [encs] using hc1) (fun _ _ => trivial)) (Kd.R_of_own ha1 (fun _ _ => trivial)) hg1 hat1; have HR1 := Aside0.mk hst.1; have RL1 := Aside0.mk hst.2; have HO1 := Aside0.mk (more_kept HO.out RL.out.1 hg1); have HK1 := Aside0.mk (blk_grown HK.out hg1 (Kd.R_ne RL.out.1 HK.out (by decide))); have HB1 := Aside0.mk (And.intro hb1 (Nat.le_trans HB.out.2 hg1.size)); clear HR RL HO HK HB hst hc1 ha1 hb1 hg1 hat1)
                      | fail)
                    go_roundg k3
                    case measure => omega
                    case rel => exact ⟨t + 1, _, by rw [HW2.out], ⟨⟨HT'.out.1, HT'.out.2.1, by rw [List.length_append, HT'.out.2.2]; rfl⟩⟩, HR1, RL1, HK1, HO1, HB1⟩
                  · have c9b0 : decide ((t : Int) < 99) = false := decide_eq_false c9
                    obtain ⟨am, cm, hvm⟩ := Kd.R_slice RL.out.1
                    subst hvm
                    have HYL := Aside0.mk (show ys.length = m + 100 by have := HT.out; omega)
                    clear HT c9
                    go_wp2_with (first
                      | ((with_reducible refine gate_builtin (b := .append) (xs := #[.tmp 54, .tmp 56]) rfl ?_); at_builtin; refine Kd.R_append dS (w0 := w) base rfl (.tmp 54) (.tmp 56) 43 22 (.slice none 0 0) 24 rfl Try.underlying43 info22 rfl (by decide) (by omega) u5 L (am, ys.length, cm) [.slice am ys.length cm] (fun k => k ≠ gb) (fun _ => False) rfl rfl rfl (fun _ hk => hk.elim) (fun k hk => by have := blk_lt HK.out; omega) HO.out HB.out.1 HB.out.2 (by have := HI.out; have := HBG.out; omega) ?_; intro vx w1 ho hb1 hg1 hat1; have HR1 := Aside0.mk (rows_more HR.out HO.out hg1); have HK1 := Aside0.mk (blk_grown HK.out hg1 (fun he => HO.out.1 gb he.symm rfl)); have HO1 := Aside0.mk ho; have HB1 := Aside0.mk (And.intro hb1 (Nat.le_trans HB.out.2 hg1.size)); clear HR HO HK HB RL ho hb1 hg1 hat1)
                      | fail)
                    go_roundg k2
                    case measure => have := HI.out; omega
                    case rel =>
                      refine ⟨i2 + 1, _, by rw [HW.out], ⟨⟨by have := HI.out; omega, by have := HQ.out; omega, by rw [List.length_append, HI.out.2.2.1]; rfl, fun j hj => ?_⟩⟩, HR1, HK1, HO1, HB1⟩
                      have hl := HI.out.2.2.1
                      by_cases hji : j = i2
                      · subst hji
                        rw [List.getD_eq_getElem?_getD, List.getElem?_append_right (by omega), hl, Nat.sub_self, HQ.out.2.2]
                        exact HYL.out
                      · rw [List.getD_eq_getElem?_getD, List.getElem?_append_left (by omega), ← List.getD_eq_getElem?_getD]
                        exact HI.out.2.2.2 j (by omega)
            · have c8b0 : decide (q2 < (n : Int)) = false := decide_eq_false c8
              have HLEN := Aside0.mk (show L.length = n ∧ ∀ j, j < n → (L.getD j (none, 0, 0)).2.1 = N j + 100 from ⟨by have := HI.out; omega, fun j hj => HI.out.2.2.2 j (by have := HI.out; omega)⟩)
              rw [hq]
              clear HI h0 c8 hq
              go_wp2
              go_loopg [9] (n + 1) (fun kq v9 w' => ∃ i : Nat, v9 = .int .i64 (i : Int) ∧ Aside0 (i + kq = n + 1 ∧ i ≤ n) ∧ Drawn0 wr w')
              case atStart => exact ⟨0, rfl, ⟨⟨by omega, by omega⟩⟩, by repeat (first | exact Drawn0.refl _ | apply Drawn0.step)⟩
              case round =>
                obtain ⟨i3, rfl, HI, ⟨md, hmd⟩⟩ := hrel
                subst hmd
                cases gk with
                | zero => exact absurd HI.out.1 (by have := HI.out.2; omega)
                | succ k4 =>
                  obtain ⟨q3, hq⟩ : ∃ q : Int, (i3 : Int) = q := ⟨_, rfl⟩
                  have h0 : 0 ≤ q3 := by omega
                  by_cases c8 : q3 < (n : Int)
                  · have c8b0 : decide (q3 < (n : Int)) = true := decide_eq_true c8
                    have hin : i3 < n := by omega
                    obtain ⟨a, ha⟩ : ∃ a, A i3 = a := ⟨_, rfl⟩
                    obtain ⟨m, hm⟩ : ∃ m, N i3 = m := ⟨_, rfl⟩
                    obtain ⟨c, hc⟩ : ∃ c, C i3 = c := ⟨_, rfl⟩
                    have hcell : wr.cell? ⟨gb, q3.toNat, none⟩ = some (.slice a m c) := by
                      rw [blk_cell HK.out, show q3.toNat = i3 by omega, HCS.out i3 hin, ha, hm, hc]
                    obtain ⟨gm, capm, hu5, _⟩ := Kd.R_form HO.out (by have := HLEN.out.1; omega)
                    have HO' := HO.out
                    rw [hu5] at HO'
                    have hmc := (Kd.R_celln ((none, 0, 0) : Ent) HO' q3 h0 (by have := HLEN.out.1; omega)).1
                    obtain ⟨⟨am, lm, cm⟩, hent⟩ : ∃ e : Ent, rdOf ((none, 0, 0) : Ent) L q3 = e := ⟨_, rfl⟩
                    have hlm : lm = m + 100 := by
                      have h1 := HLEN.out.2 i3 hin
                      unfold rdOf at hent
                      rw [show q3.toNat = i3 by omega] at hent
                      rw [hent, hm] at h1
                      exact h1
                    rw [hent] at hmc
                    subst hlm
                    replace hmc : wr.cell? ⟨gm, q3.toNat, none⟩ = some (.slice am (m + 100) cm) := hmc
                    rw [HLEN.out.1] at hu5
                    subst hu5
                    have hml := rows_len HR.out i3 hin
                    have hrow := (Kd.R_reads' (HR.out i3 hin))
                    rw [ha, hc] at hrow
                    have hfull := HFULL.out i3 hin
                    obtain ⟨y, hy⟩ : ∃ y, Y i3 = y := ⟨_, rfl⟩
                    rw [hy] at hml hrow hfull
                    rw [hm] at hml hrow hfull
                    have hv : q3.tmod 200 % 256 = q3 := by
                      have h2 := HBG.out.2
                      rw [Int.tmod_eq_emod_of_nonneg (by omega)]
                      omega
                    have HMK := Aside0.mk (show valiselaw11_marked.f (y.length + 1) y (q3.tmod 200 % 256) = some true from marked_ok y _ (by have := HX.out i3 hin; omega) (by rw [hv, ← hml, ← hq]; exact hfull))
                    have HCY := Aside0.mk (show Kd.C (Kd.int .u8) wr a y.length y ∧ y.length ≤ c from ⟨hrow.2.2, by have := hrow.2.1; omega⟩)
                    subst hml
                    have HW := Aside0.mk (show wrap64 (q3 + 1) = ((i3 + 1 : Nat) : Int) by have := HBG.out.2; unfold wrap64; omega)
                    have HI' := Aside0.mk (show (i3 + 1) + k4 = n + 1 ∧ i3 + 1 ≤ n by have := HI.out; omega)
                    have HMM := HX.out i3 hin
                    rw [hm] at HMM
                    have b1 : wrap64 ((y.length : Int) + 100) = ((y.length + 100 : Nat) : Int) := by unfold wrap64; omega
                    have b2 : (((y.length + 100 : Nat) : Int) == ((y.length + 100 : Nat) : Int)) = true := beq_iff_eq.2 rfl
                    rw [hq]
                    replace h0 := eq_true h0
                    replace c8 := eq_true c8
                    clear HI hin ha hm hc hq hent hrow hfull hy hv HO'
                    replace hcell : (wr.drewN md).cell? ⟨gb, q3.toNat, none⟩ = some (.slice a y.length c) := hcell
                    replace hmc : (wr.drewN md).cell? ⟨gm, q3.toNat, none⟩ = some (.slice am (y.length + 100) cm) := hmc
                    have HCY2 := Aside0.mk (Kd.C_drewN HCY.out.1 md)
                    have HZ := Aside0.mk (show ∀ k, Drawn0 wr ((wr.drewN md).drewN k) from fun k => ⟨⟨md + k, World.drewN_drewN ..⟩⟩)
                    generalize wr.drewN md = wz at hcell hmc HCY2 HZ ⊢
                    go_wp2_with fail
                    go_quiet (first | (go_at_call 30; refine (valiselaw11_marked.calls (y.length + 1) a c y _ true _ (Kd.C_drewN HCY2.out _) HCY.out.2 HMK.out).mono ?_; rintro e w' ⟨rfl, ⟨mz, rfl⟩⟩; exact ⟨rfl, _, World.drewN_drewN ..⟩))
                    go_wp2
                    go_roundg k4
                    case measure => omega
                    case rel => exact ⟨i3 + 1, by rw [HW.out], ⟨HI'.out⟩, HZ.out _⟩
                  · have c8b0 : decide (q3 < (n : Int)) = false := decide_eq_false c8
                    rw [hq]
                    clear HI h0 c8 hq
                    go_wp2
                    go_ret
                    exact ⟨rfl, pw_below_drewN HB.out.1 md⟩
end Go.Proofs.Ytpndhoefmepfdaa.StApart
