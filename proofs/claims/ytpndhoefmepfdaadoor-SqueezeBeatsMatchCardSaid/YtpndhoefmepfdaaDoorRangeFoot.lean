/-
  A RANGE OVER A FUNCTION WHOSE ITERATOR KEEPS STATE OF ITS OWN IN CELLS: a law of the walk. The loop's invariant carries the set of the blocks that are the caller's: the iterator touches none of these, a round touches no others (but new ones).
-/
import Derived.RangeFuncNested
import Derived.RangeFuncKeeps
import Derived.WalkKit
import Derived.Deep.Draws
set_option linter.unusedVariables false
namespace Go.YtpndhoefmepfdaaDoor
open Go.RowKit

/-- What lies in S lies as it lay. -/
structure KeepsOn (S : Nat → Prop) (W W' : World) : Prop where
  os : W'.os = W.os
  tape : W'.tape = W.tape
  output : W'.output = W.output
  size : W.heap.size ≤ W'.heap.size
  block : ∀ k, S k → k < W.heap.size → W'.heap[k]? = W.heap[k]?

theorem KeepsOn.refl (S : Nat → Prop) (W : World) : KeepsOn S W W := ⟨rfl, rfl, rfl, Nat.le_refl _, fun _ _ _ => rfl⟩
theorem KeepsOn.trans {S : Nat → Prop} {A B C : World} (h : KeepsOn S A B) (k : KeepsOn S B C) : KeepsOn S A C :=
  ⟨k.os.trans h.os, k.tape.trans h.tape, k.output.trans h.output, Nat.le_trans h.size k.size, fun i hi hl => (k.block i hi (Nat.lt_of_lt_of_le hl h.size)).trans (h.block i hi hl)⟩
theorem KeepsOn.mono {S T : Nat → Prop} {A B : World} (h : KeepsOn S A B) (hT : ∀ k, T k → k < A.heap.size → S k) : KeepsOn T A B :=
  ⟨h.os, h.tape, h.output, h.size, fun k hk hl => h.block k (hT k hk hl) hl⟩
theorem KeepsOn.seq {S T : Nat → Prop} {A B C : World} (h : KeepsOn S A B) (k : KeepsOn T B C) (hT : ∀ i, S i → i < A.heap.size → T i) : KeepsOn S A C :=
  ⟨k.os.trans h.os, k.tape.trans h.tape, k.output.trans h.output, Nat.le_trans h.size k.size, fun i hi hl => (k.block i (hT i hi hl) (Nat.lt_of_lt_of_le hl h.size)).trans (h.block i hi hl)⟩
theorem KeepsOn.below {n : Nat} {A B : World} (h : KeepsOn (fun k => k < n) A B) (hn : n ≤ A.heap.size) : Below n A B :=
  ⟨h.os, h.tape, h.output, h.size, fun k hk => h.block k hk (by omega)⟩
theorem KeepsOn.of_below {n : Nat} {S : Nat → Prop} {A B : World} (h : Below n A B) (hS : ∀ k, S k → k < A.heap.size → k < n) : KeepsOn S A B :=
  ⟨h.os, h.tape, h.output, h.size, fun k hk hl => h.block k (hS k hk hl)⟩
theorem KeepsOn.putObj {S : Nat → Prop} (W : World) (r : Nat) (o : Obj) (h : ¬ S r) : KeepsOn S W (W.putObj r o) :=
  ⟨rfl, rfl, rfl, by simp, fun k hk _ => World.putObj_heap_other (fun e => h (e ▸ hk))⟩
theorem KeepsOn.alloc (S : Nat → Prop) (W : World) (o : Obj) : KeepsOn S W (W.alloc o) :=
  ⟨rfl, rfl, rfl, by simp, fun k _ hl => Below.heap_alloc W o k hl⟩
theorem KeepsOn.drewN (S : Nat → Prop) (W : World) (q : Nat) : KeepsOn S W (W.drewN q) :=
  ⟨rfl, rfl, rfl, Nat.le_refl _, fun _ _ _ => rfl⟩
theorem KeepsOn.setCell {S : Nat → Prop} (W : World) (a : Addr) (v : Value) (h : ¬ S a.block) : KeepsOn S W (W.setCell a v) :=
  ⟨rfl, rfl, rfl, (KeepsWalks.setCell W a v).size, fun k hk _ => Below.heap_setCell W a v k (fun e => h (e ▸ hk))⟩
theorem KeepsOn.obj {S : Nat → Prop} {W W' : World} (h : KeepsOn S W W') {k : Nat} {o : Obj} (hk : W.heap[k]? = some o) (hS : S k) : W'.heap[k]? = some o :=
  (h.block k hS (Array.getElem?_eq_some_iff.1 hk).1).trans hk

/-- THE ITERATOR's CONTRACT: for every caller whose state lies within a set S of blocks, apart from what the iterator reads (Rd). -/
def SeqFoot {α : Type} (F : Fence) (n : Nat) (P : Program) (g : Nat) (lb : Array Value) (encs : α → Array Value) (Rd : Nat → Prop) (Sq Sp : List α → Prop) (N : Nat) (w : World) : Prop :=
  ∀ (l : Nat) (J Jx : List α → (Nat → Prop) → World → Prop) (S0 : Nat → Prop) (W : World), Below w.heap.size w W →
    (∀ k, S0 k → ¬ Rd k) → (∀ k, S0 k → k < W.heap.size) →
    (∀ pre S W1 W2, J pre S W1 → KeepsOn S W1 W2 → J pre S W2) →
    (∀ pre S W1 W2, Jx pre S W1 → KeepsOn S W1 W2 → Jx pre S W2) →
    (∀ pre x S W1, J pre S W1 → (∀ k, S k → k < W1.heap.size) → pre.length < N → YieldAt F (n - 1) P l (encs x) W1 fun e W' => ∃ S', (∀ k, S' k → (S k ∨ W1.heap.size ≤ k) ∧ k < W'.heap.size) ∧ KeepsOn (fun k => ¬ S k) W1 W' ∧
      ((e = .returned (.bool true) ∧ J (pre ++ [x]) S' W') ∨ (e = .returned (.bool false) ∧ Jx (pre ++ [x]) S' W'))) →
    J [] S0 W →
    CallsIn F n P g (#[.func (.yield l) #[] #[]] ++ lb) W fun e W' => (∃ v, e = .returned v) ∧ ∃ S', ((∃ xs, Sq xs ∧ J xs S' W') ∨ (∃ pre, Sp pre ∧ Jx pre S' W'))

/-- HOW THE BODY OF A ROUND MAY BE LEFT. -/
def footPost {α : Type} (I : List α → (Nat → Prop) → World → Prop) (Ix : Code → List α → (Nat → Prop) → World → Prop) (xs : List α) (S : Nat → Prop) (W : World) : Exit → Act → World → Prop
  | .normal, _, W' => ∃ S', (∀ k, S' k → (S k ∨ W.heap.size ≤ k) ∧ k < W'.heap.size) ∧ KeepsOn (fun k => ¬ S k) W W' ∧ I xs S' W'
  | .ret, _, W' => ∃ S', (∀ k, S' k → (S k ∨ W.heap.size ≤ k) ∧ k < W'.heap.size) ∧ KeepsOn (fun k => ¬ S k) W W' ∧ Ix .ret xs S' W'
  | .exit id, _, W' => ∃ S', (∀ k, S' k → (S k ∨ W.heap.size ≤ k) ∧ k < W'.heap.size) ∧ KeepsOn (fun k => ¬ S k) W W' ∧ Ix (.exit id) xs S' W'
  | .goto t, _, W' => ∃ S', (∀ k, S' k → (S k ∨ W.heap.size ≤ k) ∧ k < W'.heap.size) ∧ KeepsOn (fun k => ¬ S k) W W' ∧ Ix (.goto t) xs S' W'
  | .panic _, _, _ => False
  | .outgrown, _, _ => False

variable {F : Fence} {n : Nat} {P : Program}

/-- THE LAW. -/
theorem wpIn_rangeFunc_foot {α : Type} {g : Operand} {ps : Array Tmp} {assign body : Code} {Q : Exit → Act → World → Prop} {a : Act} {w : World}
    (hro : F.round = none) (h1 : 1 ≤ n) {gf : Nat} {lb : Array Value} (hg : a.eval g = .func (.func gf) #[] lb) (hFg : F.fn gf) (eg : ∀ args w, (callFunc gf args).run P w = .ok (.enter gf args) w)
    {encs : α → Array Value} {Rd : Nat → Prop} {Sq Sp : List α → Prop} {N : Nat} {w0 : World} (hseq : SeqFoot F (n - 1) P gf lb encs Rd Sq Sp N w0)
    (hRd : ∀ k, Rd k → k < w.heap.size) (hb0 : Below w0.heap.size w0 w) (hps : ∀ x, (encs x).size = ps.size)
    (I : List α → (Nat → Prop) → World → Prop) (Ix : Code → List α → (Nat → Prop) → World → Prop)
    (hI : ∀ pre S W1 W2, I pre S W1 → KeepsOn S W1 W2 → I pre S W2) (hIx : ∀ c pre S W1 W2, Ix c pre S W1 → KeepsOn S W1 W2 → Ix c pre S W2)
    (S0 : Nat → Prop) (hS0 : ∀ k, S0 k → ¬ Rd k) (hS1 : ∀ k, S0 k → k < w.heap.size) (h0 : I [] S0 w)
    (A : List α → α → (Nat → Prop) → Act → World → Prop) (hA : ∀ pre x S a' W1 W2, A pre x S a' W1 → KeepsOn S W1 W2 → A pre x S a' W2)
    (hassign : ∀ (l : Nat) (pre : List α) (x : α) (S : Nat → Prop) (W : World) (K : Act → World → Prop), I pre S W → (∀ k, S k → k < W.heap.size) → pre.length < N →
      (∀ S' a' W', (∀ k, S' k → (S k ∨ W.heap.size ≤ k) ∧ k < W'.heap.size) → KeepsOn (fun k => ¬ S k) W W' → A pre x S' a' W' → K a' W') →
      assign.wpIn (F.inRound l) (n - 1 - 1) P (Exit.then K (fun _ _ _ => False)) { tmps := (ps.zip (encs x)).foldl (fun t (p, v) => t.setIfInBounds p v) a.tmps, defers := [] } W)
    (hbody : ∀ (l : Nat) (pre : List α) (x : α) (S : Nat → Prop) (a' : Act) (W : World), A pre x S a' W → (∀ k, S k → k < W.heap.size) → pre.length < N → body.wpIn (F.inRound l) (n - 1 - 1) P (footPost I Ix (pre ++ [x]) S W) a' W)
    (hdone : ∀ (D : Nat) (xs : List α) (S : Nat → Prop) (W : World), Sq xs → I xs S W → ¬ S D → w.heap.size ≤ D → W.heap[D]? = some (.deferred (some [])) → Q .normal { a with defers := { target := .collected D, args := #[] } :: a.defers } W)
    (hstop : ∀ (D : Nat) (c : Code) (pre : List α) (S : Nat → Prop) (W : World), Sp pre → Ix c pre S W → ¬ S D → w.heap.size ≤ D → W.heap[D]? = some (.deferred (some [])) → c.wpIn F n P Q { a with defers := { target := .collected D, args := #[] } :: a.defers } W) :
    (Code.rangeFunc g ps assign body).wpIn F n P Q a w := by
  refine wpIn_rangeFunc ?_
  intro fn hfn
  rw [hro]
  obtain ⟨rec, hrec⟩ : ∃ rec : LoopState → Option Code → Loop, rec = fun st pe => { state := st, pending := pe, fn, tmps := a.tmps, params := ps, assign, body, defers := w.heap.size } := ⟨_, rfl⟩
  obtain ⟨W1, hW1⟩ : ∃ W1, (w.alloc (.deferred (some []))).alloc (.loop (rec .ready none)) = W1 := ⟨_, rfl⟩
  have hL1 : W1.heap[w.heap.size + 1]? = some (.loop (rec .ready none)) := by
    rw [← hW1]; have := World.alloc_heap_new (w.alloc (.deferred (some []))) (.loop (rec .ready none)); rwa [World.size_alloc] at this
  have hK1 : W1.heap[w.heap.size]? = some (.deferred (some [])) := by
    rw [← hW1]; exact (Below.heap_alloc _ _ _ (by simp)).trans (World.alloc_heap_new w _)
  have hz1 : W1.heap.size = w.heap.size + 2 := by rw [← hW1]; simp
  have hko : ∀ S, KeepsOn S w W1 := fun S => by rw [← hW1]; exact (KeepsOn.alloc S w _).trans (KeepsOn.alloc S _ _)
  have hI1 : I [] S0 W1 := hI _ _ _ _ h0 (hko S0)
  have hb1 : Below w0.heap.size w0 W1 := by
    rw [← hW1]; exact hb0.trans ((((Below.refl _ w).alloc (Nat.le_refl _) _).alloc (by simp) _).mono hb0.size)
  refine ⟨w.heap.size + 1, [{ target := .collected w.heap.size, args := #[] }], W1, { target := .fn (.func gf) lb, args := #[.func (.yield (w.heap.size + 1)) #[] #[]] }, W1, gf,
    #[.func (.yield (w.heap.size + 1)) #[] #[]] ++ lb, W1, ?_, ?_, ?_, ?_, fun _ => h1, ?_⟩
  · rw [← hW1, hrec]; exact run_enterLoop_outer _ _ _ _ _
  · simp only [resolve, hg]
    simp [go_sem]
  · intro f' hf'; simp [Target.leads] at hf'; subst hf'; exact hFg
  · simp [invoke, go_sem, eg]
  · refine (hseq (w.heap.size + 1)
      (fun pre T W => ∃ S, T = (fun k => S k ∨ k = w.heap.size ∨ k = w.heap.size + 1) ∧ ¬ S w.heap.size ∧ ¬ S (w.heap.size + 1) ∧ w.heap.size + 1 < W.heap.size ∧ I pre S W ∧ W.heap[w.heap.size + 1]? = some (.loop (rec .ready none)) ∧ W.heap[w.heap.size]? = some (.deferred (some [])))
      (fun pre T W => ∃ S c, T = (fun k => S k ∨ k = w.heap.size ∨ k = w.heap.size + 1) ∧ ¬ S w.heap.size ∧ ¬ S (w.heap.size + 1) ∧ w.heap.size + 1 < W.heap.size ∧ Ix c pre S W ∧ W.heap[w.heap.size + 1]? = some (.loop (rec .done (some c))) ∧ W.heap[w.heap.size]? = some (.deferred (some [])))
      (fun k => S0 k ∨ k = w.heap.size ∨ k = w.heap.size + 1) W1 hb1
      (by
        rintro k (hk | rfl | rfl) hr
        · exact hS0 k hk hr
        · have := hRd _ hr; omega
        · have := hRd _ hr; omega)
      (by
        rintro k (hk | rfl | rfl)
        · have := hS1 k hk; omega
        · omega
        · omega)
      (by
        rintro pre T A B ⟨S, rfl, hD, hl, hz, hi, hl1, hd1⟩ hk
        exact ⟨S, rfl, hD, hl, Nat.lt_of_lt_of_le hz hk.size, hI _ _ _ _ hi (hk.mono fun k h _ => .inl h), hk.obj hl1 (.inr (.inr rfl)), hk.obj hd1 (.inr (.inl rfl))⟩)
      (by
        rintro pre T A B ⟨S, c, rfl, hD, hl, hz, hi, hl1, hd1⟩ hk
        exact ⟨S, c, rfl, hD, hl, Nat.lt_of_lt_of_le hz hk.size, hIx _ _ _ _ _ hi (hk.mono fun k h _ => .inl h), hk.obj hl1 (.inr (.inr rfl)), hk.obj hd1 (.inr (.inl rfl))⟩)
      ?_ ⟨S0, rfl, fun h => by have := hS1 _ h; omega, fun h => by have := hS1 _ h; omega, by omega, hI1, hL1, hK1⟩).mono ?_
    · -- ONE ROUND
      rintro pre x T W ⟨S, rfl, hSD, hSl, hz, hi, hl, hk⟩ hT hlen
      have hlt : w.heap.size + 1 < W.heap.size := hz
      have hSlt : ∀ k, S k → k < W.heap.size := fun k h => hT k (.inl h)
      have hy := run_yield (P := P) (args := encs x) hl (by rw [hrec]; exact hps x)
      rw [hrec] at hy
      refine ⟨fn, _, assign, body, hy, roundIn_of_wpIn hfn (hassign _ pre x S W _ hi hSlt hlen ?_)⟩
      intro Sa a' Wa hSa hka ha
      have hzl : w.heap.size + 1 < Wa.heap.size := Nat.lt_of_lt_of_le hlt hka.size
      have hla : Wa.heap[w.heap.size + 1]? = some (.loop (rec .ready none)) := hka.obj hl hSl
      have hda : Wa.heap[w.heap.size]? = some (.deferred (some [])) := hka.obj hk hSD
      have hSaD : ¬ Sa w.heap.size := fun h => (hSa _ h).1.elim hSD (fun h => by omega)
      have hSal : ¬ Sa (w.heap.size + 1) := fun h => (hSa _ h).1.elim hSl (fun h => by omega)
      refine ⟨_, run_beginRound hla (by rw [hrec]), ?_⟩
      obtain ⟨W2, hW2⟩ : ∃ W2, Wa.putObj (w.heap.size + 1) (.loop { rec .ready none with state := .busy }) = W2 := ⟨_, rfl⟩
      have hl2 : W2.heap[w.heap.size + 1]? = some (.loop { rec .ready none with state := .busy }) := by rw [← hW2]; exact World.putObj_heap_same hzl
      have hk2 : W2.heap[w.heap.size]? = some (.deferred (some [])) := by rw [← hW2]; exact (World.putObj_heap_other (by omega)).trans hda
      have hz2 : W2.heap.size = Wa.heap.size := by rw [← hW2]; simp
      have hi2 : A pre x Sa a' W2 := by rw [← hW2]; exact hA _ _ _ _ _ _ ha (KeepsOn.putObj _ _ _ hSal)
      have hT2 : KeepsOn (fun k => ¬ (S k ∨ k = w.heap.size ∨ k = w.heap.size + 1)) W W2 := by
        rw [← hW2]; exact (hka.mono fun k h _ h' => h (.inl h')).trans (KeepsOn.putObj _ _ _ (fun h => h (.inr (.inr rfl))))
      have hgoal := hbody (w.heap.size + 1) pre x Sa a' W2 hi2 (fun k h => by rw [hz2]; exact (hSa k h).2) hlen
      rw [hW2]
      refine wpIn_mono hgoal ?_
      have fin : ∀ (jump : Option Code) (S' : Nat → Prop) (W3 : World), (∀ k, S' k → (Sa k ∨ W2.heap.size ≤ k) ∧ k < W3.heap.size) → KeepsOn (fun k => ¬ Sa k) W2 W3 → ∃ W4, W4 = W3.putObj (w.heap.size + 1) (.loop (rec (if jump.isNone then .ready else .done) jump)) ∧
          (Instr.endRound (w.heap.size + 1) jump).run P W3 = .ok (.bool jump.isNone) W4 ∧
          W4.heap[w.heap.size + 1]? = some (.loop (rec (if jump.isNone then .ready else .done) jump)) ∧
          W4.heap[w.heap.size]? = some (.deferred (some [])) ∧ ¬ S' w.heap.size ∧ ¬ S' (w.heap.size + 1) ∧ w.heap.size + 1 < W4.heap.size ∧ KeepsOn S' W3 W4 ∧
          (∀ k, (S' k ∨ k = w.heap.size ∨ k = w.heap.size + 1) → ((S k ∨ k = w.heap.size ∨ k = w.heap.size + 1) ∨ W.heap.size ≤ k) ∧ k < W4.heap.size) ∧
          KeepsOn (fun k => ¬ (S k ∨ k = w.heap.size ∨ k = w.heap.size + 1)) W W4 := fun jump S' W3 hS' hk3 => by
        have hl3 : W3.heap[w.heap.size + 1]? = some (.loop { rec .ready none with state := .busy }) := hk3.obj hl2 hSal
        have hd3 : W3.heap[w.heap.size]? = some (.deferred (some [])) := hk3.obj hk2 hSaD
        have hz3 := hk3.size
        have hr := run_endRound (P := P) jump hl3
        have hn1 : ¬ S' w.heap.size := fun h => (hS' _ h).1.elim hSaD (fun h => by omega)
        have hn2 : ¬ S' (w.heap.size + 1) := fun h => (hS' _ h).1.elim hSal (fun h => by omega)
        refine ⟨_, rfl, ?_, World.putObj_heap_same (by omega), (World.putObj_heap_other (by omega)).trans hd3, hn1, hn2, ?_, KeepsOn.putObj _ _ _ hn2, ?_, ?_⟩
        · rw [hrec] at hr ⊢; exact hr
        · rw [World.putObj_size]; omega
        · rintro k (h | rfl | rfl)
          · rw [World.putObj_size]
            obtain ⟨h1, h2⟩ := hS' k h
            refine ⟨?_, h2⟩
            rcases h1 with h1 | h1
            · exact (hSa k h1).1.elim (fun h => .inl (.inl h)) .inr
            · exact .inr (by have := hka.size; omega)
          · rw [World.putObj_size]; exact ⟨.inl (.inr (.inl rfl)), by omega⟩
          · rw [World.putObj_size]; exact ⟨.inl (.inr (.inr rfl)), by omega⟩
        · refine KeepsOn.trans ⟨hk3.os.trans hT2.os, hk3.tape.trans hT2.tape, hk3.output.trans hT2.output, Nat.le_trans hT2.size hk3.size, fun k h hlk => ?_⟩ (KeepsOn.putObj _ _ _ (fun h => h (.inr (.inr rfl))))
          exact (hk3.block k (fun h' => (hSa k h').1.elim (fun h'' => h (.inl h'')) (fun h'' => by omega)) (Nat.lt_of_lt_of_le hlk hT2.size)).trans (hT2.block k h hlk)
      rintro e a3 W3 hp
      cases e with
      | normal =>
        obtain ⟨S', hS', hk3, hi3⟩ := hp
        obtain ⟨W4, hW4, hr, hl4, hd4, hn1, hn2, hz4, hko4, hT4, hK4⟩ := fin none S' W3 hS' hk3
        exact ⟨_, _, hr, _, hT4, hK4, .inl ⟨rfl, S', rfl, hn1, hn2, hz4, hI _ _ _ _ hi3 hko4, hl4, hd4⟩⟩
      | ret =>
        obtain ⟨S', hS', hk3, hi3⟩ := hp
        obtain ⟨W4, hW4, hr, hl4, hd4, hn1, hn2, hz4, hko4, hT4, hK4⟩ := fin (some .ret) S' W3 hS' hk3
        exact ⟨_, _, hr, _, hT4, hK4, .inr ⟨rfl, S', .ret, rfl, hn1, hn2, hz4, hIx _ _ _ _ _ hi3 hko4, hl4, hd4⟩⟩
      | exit id =>
        obtain ⟨S', hS', hk3, hi3⟩ := hp
        obtain ⟨W4, hW4, hr, hl4, hd4, hn1, hn2, hz4, hko4, hT4, hK4⟩ := fin (some (.exit id)) S' W3 hS' hk3
        exact ⟨_, _, hr, _, hT4, hK4, .inr ⟨rfl, S', .exit id, rfl, hn1, hn2, hz4, hIx _ _ _ _ _ hi3 hko4, hl4, hd4⟩⟩
      | goto t =>
        obtain ⟨S', hS', hk3, hi3⟩ := hp
        obtain ⟨W4, hW4, hr, hl4, hd4, hn1, hn2, hz4, hko4, hT4, hK4⟩ := fin (some (.goto t)) S' W3 hS' hk3
        exact ⟨_, _, hr, _, hT4, hK4, .inr ⟨rfl, S', .goto t, rfl, hn1, hn2, hz4, hIx _ _ _ _ _ hi3 hko4, hl4, hd4⟩⟩
      | panic ch => exact hp.elim
      | outgrown => exact hp.elim
    · -- BEHIND THE ITERATOR
      rintro e W2 ⟨⟨v, rfl⟩, T, (⟨xs, hS, S, rfl, hn1, hn2, hz, hi, hl, hk⟩ | ⟨pre, hSp, S, c, rfl, hn1, hn2, hz, hi, hl, hk⟩)⟩
      · exact ⟨none, _, by have := run_endLoop (P := P) hl (by rw [hrec]; simp); rw [hrec] at this; exact this, hdone _ xs S _ hS (hI _ _ _ _ hi (KeepsOn.putObj _ _ _ hn2)) hn1 (Nat.le_refl _) ((World.putObj_heap_other (by omega)).trans hk)⟩
      · exact ⟨some c, _, by have := run_endLoop (P := P) hl (by rw [hrec]; simp); rw [hrec] at this; exact this, hstop _ c pre S _ hSp (hIx _ _ _ _ _ hi (KeepsOn.putObj _ _ _ hn2)) hn1 (Nat.le_refl _) ((World.putObj_heap_other (by omega)).trans hk)⟩

end Go.YtpndhoefmepfdaaDoor
