/- match.Each: the walk (the iterator that it hands back). -/
import Derived.Test.YtpndhoefmepfdaaDoorMatchSpec
import Derived.Test.YtpndhoefmepfdaaDoorRangeFoot
import Derived.WideKeyArr
import Derived.WideKeyEntry
import Derived.Test.YtpndhoefmepfdaaDoorMore
import Derived.Test.YtpndhoefmepfdaaDoorWFour
namespace Go.Proofs.YtpndhoefmepfdaaDoor.PSq
open Go.RowKit Go.Proofs.YtpndhoefmepfdaaDoorW.PrintWords Go.Proofs.YtpndhoefmepfdaaDoorW.PrintLast Go.Proofs.YtpndhoefmepfdaaDoorW.PrintMore
open Go.WideMaps Go.MapKept
open Go.ChangeMaps (setBlock modify_eq_set)
open Go.YtpndhoefmepfdaaDoor (KeepsOn)
set_option linter.unusedVariables false
theorem key_inj {l : List MapEntry} (h : (l.map (·.key)).Nodup) : ∀ {x y : MapEntry}, x ∈ l → y ∈ l → x.key = y.key → x = y := by
  induction l with
  | nil => intro x y hx; cases hx
  | cons a r ih =>
    intro x y hx hy he
    rw [List.map_cons, List.nodup_cons] at h
    rcases List.mem_cons.1 hx with e1 | h1
    · rcases List.mem_cons.1 hy with e2 | h2
      · rw [e1, e2]
      · exact absurd (List.mem_map.2 ⟨y, h2, by rw [← he, e1]⟩) h.1
    · rcases List.mem_cons.1 hy with e2 | h2
      · exact absurd (List.mem_map.2 ⟨x, h1, by rw [he, e2]⟩) h.1
      · exact ih h.2 h1 h2 he
section
variable {P : Program} {k e t : TypeId} {w : World} {b : Nat} {es : Array MapEntry} {clock : Nat}
/-- 'm[k]' read and written ('m[k] = append(m[k], x)'): the entry's value; behind a store of another, the entries. -/
theorem dict_step (K : KeyLaw P k) (ht : P.underlying t = some (.map k e)) {z : Value} (hz : ∀ u : World, (zeroValue e).run P u = .ok z u) (hb : w.heap[b]? = some (.map es clock)) (S : Stamped es clock) (hk : ∀ x ∈ es.toList, ∃ l, keyOf P k x.key = some l)
    {key : Value} {kl : Lit} (hkey : keyOf P k key = some kl) :
    ∃ (v0 : Value) (st : Nat) (es1 : Array MapEntry) (clock1 : Nat), (Instr.mapEntry t (.map (some b)) key).run P w = .ok (.tuple #[v0, goInt st]) (setBlock w b (.map es1 clock1)) ∧
      ((∃ e0 ∈ es.toList, e0.key = key ∧ v0 = e0.val) ∨ ((∀ x ∈ es.toList, x.key ≠ key) ∧ v0 = z)) ∧
      ∀ (w2 : World) (val : Value), w2.heap[b]? = some (.map es1 clock1) → ∃ es' clock', (Instr.entryStore t (.map (some b)) (goInt st) val).run P w2 = .ok () (setBlock w2 b (.map es' clock')) ∧
        Stamped es' clock' ∧ (∀ x ∈ es'.toList, (x.key = key ∧ x.val = val) ∨ (x ∈ es.toList ∧ x.key ≠ key)) ∧ (∀ x ∈ es.toList, x.key ≠ key → x ∈ es'.toList) ∧ (∃ x ∈ es'.toList, x.key = key ∧ x.val = val) := by
  obtain ⟨s1, s2, s3⟩ := S
  rcases K.find w hkey es.toList hk with ⟨h1, h2⟩ | ⟨j, e0, h1, h2, h3⟩
  · refine ⟨z, clock, es.push ⟨key, z, clock⟩, clock + 1, ?_, Or.inr ⟨h2, rfl⟩, fun w2 val hw2 => ⟨es.push ⟨key, val, clock⟩, clock + 1, ?_, stamped_push ⟨s1, s2, s3⟩ h2, ?_, ?_, ?_⟩⟩
    · simp [Instr.mapEntry, run_underlying ht, MapKept.run_getObj_map hb, K.check w false hkey, h1, hz, MapKept.run_setObj_map _ hb, Result.andThen, setBlock]
    · have hidx : (es.push ⟨key, z, clock⟩).findIdx? (fun e => ((e.born : Nat) : Int) == ((clock : Nat) : Int)) = some es.size := by
        rw [WideElems.findIdx_arr]
        have := WideElems.findIdx_born (l := (es.push ⟨key, z, clock⟩).toList) (j := es.size) (e0 := ⟨key, z, clock⟩) (by
          simp only [Array.toList_push, List.map_append, List.map_cons, List.map_nil]
          refine List.nodup_append.2 ⟨s2, by simp, fun a ha c hc e1 => ?_⟩
          simp only [List.mem_singleton] at hc
          obtain ⟨x, hx, rfl⟩ := List.mem_map.1 ha
          have := s1 x hx
          omega) (by simp)
        exact this
      have hmod : (es.push ⟨key, z, clock⟩).modify es.size (fun e => { e with val := val }) = es.push ⟨key, val, clock⟩ := by
        apply Array.ext'
        rw [Array.toList_modify, Array.toList_push, Array.toList_push, ← Array.length_toList, WideElems.modify_last]
      simp [Instr.entryStore, MapKept.run_getObj_map hw2, asInt, asIntOf, goInt, hidx, hmod, MapKept.run_setObj_map _ hw2, Result.andThen, setBlock]
    · intro x hx
      rw [Array.toList_push, List.mem_append, List.mem_singleton] at hx
      rcases hx with hx | rfl
      · exact .inr ⟨hx, h2 x hx⟩
      · exact .inl ⟨rfl, rfl⟩
    · intro x hx _
      rw [Array.toList_push, List.mem_append]
      exact .inl hx
    · exact ⟨⟨key, val, clock⟩, by rw [Array.toList_push, List.mem_append]; exact .inr (List.mem_singleton.2 rfl), rfl, rfl⟩
  · have hj : es[j]? = some e0 := by simpa using h2
    have hsame : es.modify j (fun e => { e with key := key }) = es := by
      apply Array.ext'
      rw [Array.toList_modify, modify_eq_set _ _ _ _ h2]
      have : ({ e0 with key := key } : MapEntry) = e0 := by rw [← h3]
      rw [this]
      exact WideElems.set_self _ _ _ h2
    have hS' : ∀ val, Stamped (es.modify j (fun e => { e with val := val })) clock := fun val => stamped_modify ⟨s1, s2, s3⟩ j _ (fun _ _ => rfl) (fun _ _ _ => rfl)
    have hlist : ∀ val, (es.modify j (fun e => { e with val := val })).toList = es.toList.set j { e0 with val := val } := fun val => by
      rw [Array.toList_modify, modify_eq_set _ _ _ _ h2]
    have hjl : j < es.toList.length := (List.getElem?_eq_some_iff.1 h2).1
    have hin : ∀ val, ({ e0 with val := val } : MapEntry) ∈ (es.modify j (fun e => { e with val := val })).toList := fun val => by
      rw [hlist val]; exact List.mem_set hjl _
    refine ⟨e0.val, e0.born, es, clock, ?_, Or.inl ⟨e0, List.mem_of_getElem? h2, h3, rfl⟩, fun w2 val hw2 => ⟨es.modify j (fun e' => { e' with val := val }), clock, ?_, hS' val, ?_, ?_, ?_⟩⟩
    · simp [Instr.mapEntry, run_underlying ht, MapKept.run_getObj_map hb, K.check w false hkey, h1, hj, h3, K.stays w hkey, hsame, MapKept.run_setObj_map _ hb, Result.andThen, setBlock]
    · have hidx : es.findIdx? (fun e => ((e.born : Nat) : Int) == ((e0.born : Nat) : Int)) = some j := by
        rw [WideElems.findIdx_arr]
        exact WideElems.findIdx_born s2 h2
      simp [Instr.entryStore, MapKept.run_getObj_map hw2, asInt, asIntOf, goInt, hidx, MapKept.run_setObj_map _ hw2, Result.andThen, setBlock]
    · intro x hx
      by_cases hxk : x.key = key
      · have := key_inj (hS' val).2.2 hx (hin val) (by rw [hxk, h3])
        exact .inl ⟨hxk, by rw [this]⟩
      · rw [hlist val] at hx
        rcases List.mem_or_eq_of_mem_set hx with hx | rfl
        · exact .inr ⟨hx, hxk⟩
        · exact absurd h3 hxk
    · intro x hx hne
      rw [hlist val]
      obtain ⟨i, hi, hxi⟩ := List.getElem_of_mem hx
      have hij : j ≠ i := by
        rintro rfl
        rw [List.getElem?_eq_getElem hi, hxi] at h2
        injection h2 with h2
        subst h2
        exact hne h3
      exact List.mem_iff_getElem.2 ⟨i, by rw [List.length_set]; exact hi, by rw [List.getElem_set_ne hij]; exact hxi⟩
    · exact ⟨_, hin val, h3, rfl⟩
/-- 'm[k]' read. -/
theorem dict_look (K : KeyLaw P k) (ht : P.underlying t = some (.map k e)) {z : Value} (hz : (zeroValue e).run P w = .ok z w) (hb : w.heap[b]? = some (.map es clock)) (hk : ∀ x ∈ es.toList, ∃ l, keyOf P k x.key = some l)
    {key : Value} {kl : Lit} (hkey : keyOf P k key = some kl) :
    ∃ v, (Instr.lookup t (.map (some b)) key false).run P w = .ok v w ∧ ((∃ e0 ∈ es.toList, e0.key = key ∧ v = e0.val) ∨ ((∀ x ∈ es.toList, x.key ≠ key) ∧ v = z)) := by
  rcases K.find w hkey es.toList hk with ⟨h1, h2⟩ | ⟨j, e0, h1, h2, h3⟩
  · refine ⟨z, ?_, .inr ⟨h2, rfl⟩⟩
    simp [Instr.lookup, run_underlying ht, MapKept.run_getObj_map hb, K.check w _ hkey, h1, hz, Result.andThen]
  · refine ⟨e0.val, ?_, .inl ⟨e0, List.mem_of_getElem? h2, h3, rfl⟩⟩
    simp [Instr.lookup, run_underlying ht, MapKept.run_getObj_map hb, K.check w _ hkey, h1, Result.andThen]
end
def key3 (k : K3) : Value := .agg #[.int .u8 k.1, .int .u8 k.2.1, .int .u8 k.2.2]
def byte3 (k : K3) : Prop := (0 ≤ k.1 ∧ k.1 ≤ 255) ∧ (0 ≤ k.2.1 ∧ k.2.1 ≤ 255) ∧ 0 ≤ k.2.2 ∧ k.2.2 ≤ 255
theorem key3_inj {a b : K3} (h : key3 a = key3 b) : a = b := by
  unfold key3 at h
  obtain ⟨a1, a2, a3⟩ := a
  obtain ⟨b1, b2, b3⟩ := b
  simp at h
  obtain ⟨rfl, rfl, rfl⟩ := h
  rfl
theorem arr107 : ArrKey Tryd.prog 107 5 3 := ⟨by kernel_rfl, by kernel_rfl, by kernel_rfl, by kernel_rfl⟩
theorem law107 : KeyLaw Tryd.prog 107 := arr107.law
theorem keyOf_arr3 {P : Program} {k e : TypeId} (A : ArrKey P k e 3) (h5 : P.underlying e = some (.int .u8)) (hkt : P.keyType k = true) (hsz : ∃ m, P.types.size = m + 1) (a b c : Int) (a0 : 0 ≤ a ∧ a ≤ 255) (b0 : 0 ≤ b ∧ b ≤ 255) (c0 : 0 ≤ c ∧ c ≤ 255) : ∃ l, keyOf P k (.agg #[.int .u8 a, .int .u8 b, .int .u8 c]) = some l := by
  have wa : (Lit.int .u8 a).wf = true := by simp [Lit.wf, show IntKind.u8.min = 0 from rfl, show IntKind.u8.max = 255 from rfl]; omega
  have wb : (Lit.int .u8 b).wf = true := by simp [Lit.wf, show IntKind.u8.min = 0 from rfl, show IntKind.u8.max = 255 from rfl]; omega
  have wc : (Lit.int .u8 c).wf = true := by simp [Lit.wf, show IntKind.u8.min = 0 from rfl, show IntKind.u8.max = 255 from rfl]; omega
  unfold keyOf
  simp only [A.hu]
  rw [if_pos (by simp [hkt, Value.formed, A.hu, A.size])]
  unfold Program.keyLits
  simp only [A.hu, Value.cells]
  obtain ⟨m, hm⟩ := hsz
  rw [hm, if_pos (by simp [A.size]), A.one, show List.range 3 = [0, 1, 2] from rfl]
  simp [Program.keyLits, h5, wa, wb, wc]
theorem keyOf3 (k : K3) (h : byte3 k) : ∃ l, keyOf Tryd.prog 107 (key3 k) = some l :=
  keyOf_arr3 arr107 (by kernel_rfl) (by kernel_rfl) ⟨Tryd.prog.types.size - 1, by kernel_rfl⟩ _ _ _ h.1 h.2.1 h.2.2
theorem zero36 (u : World) : (zeroValue 36).run Tryd.prog u = .ok (.slice none 0 0) u := by kernel_rfl
def updG (gr : K3 → List Int) (k : K3) (l : List Int) : K3 → List Int := fun q => if q = k then l else gr q
abbrev KI : Kd Int := Kd.int .i64
/-- Block M is a map from threes to rows of places; the rows are apart, of blocks of O. -/
def Grp (w : World) (base : Nat) (O : Nat → Prop) (M : Nat) (gr : K3 → List Int) : Prop :=
  ∃ es clock, w.heap[M]? = some (.map es clock) ∧ Stamped es clock ∧ (∀ x ∈ es.toList, ∃ k, byte3 k ∧ x.key = key3 k ∧ Kd.R KI 3 w base O x.val (gr k)) ∧
    (∀ k, byte3 k → gr k ≠ [] → ∃ x ∈ es.toList, x.key = key3 k) ∧ (∀ x ∈ es.toList, ∀ y ∈ es.toList, x.key ≠ y.key → ∀ b, x.val.ownBlock = some b → y.val.ownBlock ≠ some b)
section
variable {w w1 : World} {base M : Nat} {O : Nat → Prop} {gr : K3 → List Int}
theorem Grp.made (w : World) (base : Nat) (O : Nat → Prop) : Grp (w.alloc (.map #[] 0)) base O w.heap.size (fun _ => []) :=
  ⟨#[], 0, (MapKept.heap_alloc w _).1, stamped_empty 0, fun x hx => by simp at hx, fun k _ h => absurd rfl h, fun x hx => by simp at hx⟩
theorem Grp.keep (h : Grp w base O M gr) (hM : O M) (hk : KeepsOn O w w1) : Grp w1 base O M gr := by
  obtain ⟨es, clock, h1, h2, h3, h4, h5⟩ := h
  refine ⟨es, clock, hk.obj h1 hM, h2, fun x hx => ?_, h4, h5⟩
  obtain ⟨k, a, b, c⟩ := h3 x hx
  exact ⟨k, a, b, Kd.R_step c (fun q hq hl => hk.block q hq hl)⟩
theorem Grp.mono {O2 : Nat → Prop} (h : Grp w base O M gr) (hO : ∀ b, O b → O2 b) : Grp w base O2 M gr := by
  obtain ⟨es, clock, h1, h2, h3, h4, h5⟩ := h
  refine ⟨es, clock, h1, h2, fun x hx => ?_, h4, h5⟩
  obtain ⟨k, a, b, c⟩ := h3 x hx
  exact ⟨k, a, b, Kd.R_mono c hO⟩
theorem ents_keys {es : Array MapEntry} (h : ∀ x ∈ es.toList, ∃ k, byte3 k ∧ x.key = key3 k ∧ Kd.R KI 3 w base O x.val (gr k)) : ∀ x ∈ es.toList, ∃ l, keyOf Tryd.prog 107 x.key = some l := fun x hx => by
  obtain ⟨k, a, b, _⟩ := h x hx
  rw [b]
  exact keyOf3 k a
theorem Grp.look (h : Grp w base O M gr) (k : K3) (hk : byte3 k) : ∃ v, (Instr.lookup 104 (.map (some M)) (key3 k) false).run Tryd.prog w = .ok v w ∧ Kd.R KI 3 w base O v (gr k) := by
  obtain ⟨es, clock, h1, h2, h3, h4, h5⟩ := h
  obtain ⟨l, hl⟩ := keyOf3 k hk
  obtain ⟨v, hr, hv⟩ := dict_look (P := Tryd.prog) (k := 107) (e := 36) (t := 104) law107 (by kernel_rfl) (z := .slice none 0 0) (zero36 w) h1 (ents_keys h3) hl
  refine ⟨v, hr, ?_⟩
  rcases hv with ⟨e0, m0, e1, rfl⟩ | ⟨hno, rfl⟩
  · obtain ⟨k', a, b, c⟩ := h3 e0 m0
    rw [e1] at b
    rw [key3_inj b]
    exact c
  · have : gr k = [] := Classical.byContradiction fun hne => by
      obtain ⟨x, hx, he⟩ := h4 k hk hne
      exact hno x hx he
    rw [this]
    exact Kd.R_nil _ _ _ _ _
theorem R_mine {O2 : Nat → Prop} {v : Value} {xs : List Int} (h : Kd.R KI 3 w base O v xs) (hO : ∀ b, v.ownBlock = some b → O2 b) : Kd.R KI 3 w base O2 v xs := Kd.R_of_own (Kd.own_of_R h) hO
theorem R_notmap {v : Value} {xs : List Int} (h : Kd.R KI 3 w base O v xs) {es : Array MapEntry} {clock : Nat} (hM : w.heap[M]? = some (.map es clock)) : v.ownBlock ≠ some M := fun he => by
  obtain ⟨_, inner, ho, _⟩ := h
  obtain ⟨cells, hc⟩ := own_typed ho M he
  rw [hM] at hc
  cases hc
theorem keep_setBlock {S : Nat → Prop} (w : World) (M : Nat) (o : Obj) (h : ¬ S M) : KeepsOn S w (setBlock w M o) := KeepsOn.putObj w M o h
/-- What a store at the entry's stamp owes, from a world w on. -/
def Clo (w : World) (base M : Nat) (O : Nat → Prop) (gr : K3 → List Int) (k : K3) (v0 : Value) (st : Nat) (o1 : Obj) : Prop :=
  ∀ (W1 : World), W1.heap[M]? = some o1 → KeepsOn (fun b => O b ∧ b ≠ M ∧ v0.ownBlock ≠ some b) w W1 → ∀ (O2 : Nat → Prop) (v2 : Value) (l2 : List Int), (∀ b, O b → O2 b) → Kd.R KI 3 W1 base O2 v2 l2 → (v2.ownBlock = v0.ownBlock ∨ ∀ b, v2.ownBlock = some b → w.heap.size ≤ b) →
      ∃ o2, (Instr.entryStore 104 (.map (some M)) (goInt st) v2).run Tryd.prog W1 = .ok () (setBlock W1 M o2) ∧ Grp (setBlock W1 M o2) base O2 M (updG gr k l2)
theorem Clo.step {k : K3} {v0 : Value} {st : Nat} {o1 : Obj} (h : Clo w base M O gr k v0 st o1) (hk : KeepsOn (fun b => O b ∧ b ≠ M ∧ v0.ownBlock ≠ some b) w w1) : Clo w1 base M O gr k v0 st o1 :=
  fun W1 hW hk2 O2 v2 l2 hO hR ho => h W1 hW (hk.trans hk2) O2 v2 l2 hO hR (ho.imp id (fun f b hb => Nat.le_trans hk.size (f b hb)))
theorem Grp.entry (h : Grp w base O M gr) (k : K3) (hk : byte3 k) (hM : O M) : ∃ (v0 : Value) (st : Nat) (o1 : Obj), (Instr.mapEntry 104 (.map (some M)) (key3 k)).run Tryd.prog w = .ok (.tuple #[v0, goInt st]) (setBlock w M o1) ∧ Kd.R KI 3 w base (fun b => O b ∧ b ≠ M) v0 (gr k) ∧ Clo w base M O gr k v0 st o1 := by
  obtain ⟨es, clock, h1, h2, h3, h4, h5⟩ := h
  obtain ⟨l, hl⟩ := keyOf3 k hk
  obtain ⟨v0, st, es1, clock1, hr, hv, hst⟩ := dict_step (P := Tryd.prog) (k := 107) (e := 36) (t := 104) law107 (by kernel_rfl) (z := .slice none 0 0) zero36 h1 h2 (ents_keys h3) hl
  have hR0 : Kd.R KI 3 w base O v0 (gr k) := by
    rcases hv with ⟨e0, m0, e1, rfl⟩ | ⟨hno, rfl⟩
    · obtain ⟨k', a, b, c⟩ := h3 e0 m0
      rw [e1] at b
      rw [key3_inj b]
      exact c
    · have : gr k = [] := Classical.byContradiction fun hne => by
        obtain ⟨x, hx, he⟩ := h4 k hk hne
        exact hno x hx he
      rw [this]
      exact Kd.R_nil _ _ _ _ _
  refine ⟨v0, st, .map es1 clock1, hr, R_mine hR0 (fun b hb => ⟨hR0.1 b hb, fun e => R_notmap hR0 h1 (by rw [hb, e])⟩), fun W1 hW1 hkeep O2 v2 l2 hO hR2 hown => ?_⟩
  obtain ⟨es', clock', hr', hS', hmem, hold, hnew⟩ := hst W1 v2 hW1
  have hap : ∀ x ∈ es.toList, x.key ≠ key3 k → ∀ b, x.val.ownBlock = some b → v0.ownBlock ≠ some b := by
    intro x hx hne b hb
    rcases hv with ⟨e0, m0, e1, rfl⟩ | ⟨hno, rfl⟩
    · exact fun he => h5 e0 m0 x hx (by rw [e1]; exact fun q => hne q.symm) b he hb
    · intro he; cases he
  have hap2 : ∀ x ∈ es.toList, x.key ≠ key3 k → ∀ b, x.val.ownBlock = some b → v2.ownBlock ≠ some b := by
    intro x hx hne b hb he
    rcases hown with ho | ho
    · exact hap x hx hne b hb (ho ▸ he)
    · obtain ⟨k', _, _, c⟩ := h3 x hx
      have h6 := Kd.R_lt c b hb
      have h7 := ho b he
      omega
  have hR2' : Kd.R KI 3 (setBlock W1 M (.map es' clock')) base O2 v2 l2 :=
    R_mine (Kd.R_step (R_mine hR2 (O2 := fun b => v2.ownBlock = some b) (fun b hb => hb)) (fun b hb hlt => (keep_setBlock (S := fun b => v2.ownBlock = some b) W1 M _ (R_notmap hR2 hW1)).block b hb hlt)) hR2.1
  have hlt : M < W1.heap.size := (Array.getElem?_eq_some_iff.1 hW1).1
  refine ⟨.map es' clock', hr', es', clock', World.putObj_heap_same hlt, hS', fun x hx => ?_, fun q hq hne => ?_, fun x hx y hy hne b hb => ?_⟩
  · rcases hmem x hx with ⟨a, b⟩ | ⟨a, b⟩
    · exact ⟨k, hk, a, by rw [b]; unfold updG; rw [if_pos rfl]; exact hR2'⟩
    · obtain ⟨k', c1, c2, c3⟩ := h3 x a
      refine ⟨k', c1, c2, ?_⟩
      have hkk : k' ≠ k := fun e => b (by rw [c2, e])
      unfold updG
      rw [if_neg hkk]
      have g1 : Kd.R KI 3 w base (fun b => (O b ∧ b ≠ M ∧ v0.ownBlock ≠ some b)) x.val (gr k') := R_mine c3 (fun q hq => ⟨c3.1 q hq, fun e => R_notmap c3 h1 (by rw [hq, e]), hap x a b q hq⟩)
      have g2 := Kd.R_step g1 (fun q hq hl => hkeep.block q hq hl)
      have g3 := Kd.R_step g2 (w1 := setBlock W1 M (.map es' clock')) (fun q hq hl => World.putObj_heap_other hq.2.1)
      exact Kd.R_mono g3 (fun q hq => hO q hq.1)
  · by_cases hqk : q = k
    · obtain ⟨x, hx, hxk, _⟩ := hnew
      exact ⟨x, hx, by rw [hqk]; exact hxk⟩
    · unfold updG at hne
      rw [if_neg hqk] at hne
      obtain ⟨x, hx, hxk⟩ := h4 q hq hne
      exact ⟨x, hold x hx (fun e => hqk (key3_inj (hxk.symm.trans e))), hxk⟩
  · rcases hmem x hx with ⟨a1, a2⟩ | ⟨a1, a2⟩
    · rcases hmem y hy with ⟨b1, b2⟩ | ⟨b1, b2⟩
      · exact absurd (a1.trans b1.symm) hne
      · rw [a2] at hb
        exact fun he => hap2 y b1 b2 b he hb
    · rcases hmem y hy with ⟨b1, b2⟩ | ⟨b1, b2⟩
      · rw [b2]
        exact hap2 x a1 a2 b hb
      · exact h5 x a1 y b1 hne b hb
end
end Go.Proofs.YtpndhoefmepfdaaDoor.PSq
namespace Go.Proofs.YtpndhoefmepfdaaDoor.PSq
open Go.RowKit Go.Proofs.YtpndhoefmepfdaaDoorW.PrintWords Go.Proofs.YtpndhoefmepfdaaDoorW.PrintLast Go.Proofs.YtpndhoefmepfdaaDoorW.PrintMore
set_option linter.unusedVariables false
theorem below_setRow {w W : World} {g : Nat} (h : Below w.heap.size w W) (hg : w.heap.size ≤ g) (cs : Array Value) : Below w.heap.size w (W.setRow g cs) :=
  ⟨h.os, h.tape, h.output, by have := h.size; simpa [World.setRow] using this, fun k hk => (setRow_other W g k cs (by omega)).trans (h.block k hk)⟩
theorem below_setCells {w W : World} {g : Nat} (h : Below w.heap.size w W) (hg : w.heap.size ≤ g) (o : Nat) (cs : List Value) : Below w.heap.size w (W.setCells g o cs) := by
  obtain ⟨h1, h2, h3, h4⟩ := setCells_same g cs o W
  exact ⟨h1.trans h.os, h2.trans h.tape, h3.trans h.output, by rw [h4]; exact h.size, fun k hk => (setCells_far cs o k (by omega)).trans (h.block k hk)⟩
set_option maxHeartbeats 4000000 in
set_option maxRecDepth 100000 in
theorem three_no (A : Option Addr) (c : Nat) (d : List Int) (at_ : Int) (w : World) (h0 : 0 ≤ at_) (h1 : at_ ≤ (d.length : Int)) (hn : d.length ≤ 16777216) (h3 : ¬ at_ + 3 ≤ (d.length : Int)) :
    Calls Tryd.prog 59 #[.slice A d.length c, .int .i64 at_] w fun e w' => e = .returned (.tuple #[key3 (0, 0, 0), .bool false]) ∧ Below w.heap.size w w' := by
  have hws : wrap64 (at_ + 3) = at_ + 3 := by unfold wrap64; omega
  have hb : decide ((d.length : Int) < at_ + 3) = true := decide_eq_true (by omega)
  have HW := Aside0.mk hws
  have HB := Aside0.mk (Below.refl w.heap.size w)
  go_enter Tryd.func59, Tryd.ntmps59
  go_wp2_with (first
    | ((with_reducible refine gate_dst (N := 4) rfl ?_); refine box_event ?hg (N := 4) ?hd (cs := #[.int .u8 0, .int .u8 0, .int .u8 0]) (t := 107) ?hr ?_; (case hd => rfl); (case hg => rfl); (case hr => first | kernel_rfl | (go_simp; kernel_rfl)); intro ga hg w1 hbox hbb; have HB1 := Aside0.mk (below_step HB.out hbb); have BK4 := Aside0.mk hbox; have GE4 := Aside0.mk ((by rw [hg]; exact below_size HB.out) : w.heap.size ≤ ga); clear HB hbox hbb hg)
    | (refine wpList_load_row (by rfl) 107 (.tmp 4) (by rfl) ga (by first | rfl | (go_simp; done) | (go_simp; rfl)) 107 _ (0, 0) _ BK4.out Go.Proofs.YtpndhoefmepfdaaDoor.PSq.arr107.hu rfl (by kernel_rfl) ?_)
    | (refine wpList_store_row (by rfl) 107 (.tmp 4) (.tmp 11) (by rfl) ga #[.int .u8 0, .int .u8 0, .int .u8 0] (by first | rfl | (go_simp; done) | (go_simp; rfl)) (by first | rfl | (go_simp; done) | (go_simp; rfl)) 107 _ BK4.out (by kernel_rfl) rfl (by simp [Value.oneCell']) ?_)
    | fail)
  refine bodyPost_ret (v := .tuple #[key3 (0, 0, 0), .bool false]) ?_ ?_ ?_
  rotate_left
  · rfl
  · exact ⟨rfl, below_setRow HB1.out GE4.out _⟩
  exact results_ct (p := 4) (ty := 107) Tryd.results59 _ _ ga 107 _ (0, 0) _ (by rfl) (setRow_heap _ ga _ _ 107 (0, 0) BK4.out) arr107.hu rfl (by kernel_rfl)
set_option maxHeartbeats 4000000 in
set_option maxRecDepth 100000 in
theorem three_yes (A : Option Addr) (c : Nat) (d : List Int) (at_ : Int) (w : World) (hd : Kd.C (Kd.int .u8) w A d.length d) (hc : d.length ≤ c) (h0 : 0 ≤ at_) (hn : d.length ≤ 16777216) (h3 : at_ + 3 ≤ (d.length : Int)) :
    Calls Tryd.prog 59 #[.slice A d.length c, .int .i64 at_] w fun e w' => e = .returned (.tuple #[key3 (kAt d at_), .bool true]) ∧ Below w.heap.size w w' := by
  have hws : wrap64 (at_ + 3) = at_ + 3 := by unfold wrap64; omega
  have hb : decide ((d.length : Int) < at_ + 3) = false := decide_eq_false (by omega)
  have HW := Aside0.mk hws
  have HD := Aside0.mk hd
  have HC := Aside0.mk hc
  have H3 := Aside0.mk h3
  have H0 := Aside0.mk h0
  have HN := Aside0.mk hn
  have HB := Aside0.mk (Below.refl w.heap.size w)
  obtain ⟨n, hlen⟩ : ∃ n, d.length = n := ⟨_, rfl⟩
  have HL := Aside0.mk hlen
  rw [hlen] at hb ⊢
  clear hd h3 hc hn hlen
  go_enter Tryd.func59, Tryd.ntmps59
  go_wp2_with (first
    | ((with_reducible refine gate_dst (N := 4) rfl ?_); refine box_event ?hg (N := 4) ?hd (cs := #[.int .u8 0, .int .u8 0, .int .u8 0]) (t := 107) ?hr ?_; (case hd => rfl); (case hg => rfl); (case hr => first | kernel_rfl | (go_simp; kernel_rfl)); intro ga hg w1 hbox hbb; have HB1 := Aside0.mk (below_step HB.out hbb); have BK4 := Aside0.mk hbox; have GE4 := Aside0.mk ((by rw [hg]; exact below_size HB.out) : w.heap.size ≤ ga); clear HB hbox hbb hg)
    | fail)
  refine still_tail_drew 4 (by kernel_rfl) (by kernel_rfl) ?_
  simp only [List.take_succ_cons, List.take_zero, List.drop_succ_cons, List.drop_zero]
  obtain ⟨ad, rfl, hcell⟩ := HD.out.2.2 (by have := H3.out; omega)
  have h1 : at_ ≤ (n : Int) := by have := H3.out; have := HL.out; omega
  have h2 : (n : Int) ≤ (c : Int) := by have := HC.out; have := HL.out; omega
  have h4 : n ≤ c := by omega
  have h5 : ¬ c = at_.toNat := by have := H3.out; have := H0.out; have := HL.out; omega
  repeat still_step
  refine wpStill_nil ?_
  have hC1 := Kd.C_below HD.out (by simpa using (below_step HB1.out (below_drew (Below.refl _ _)) : Below w.heap.size w w1.drew))
  have hat : ∀ j : Nat, j < 3 → w1.drew.cell? ((ad.add at_.toNat).add j) = some (.int .u8 (rd d (at_ + (j : Int)))) := by
    intro j hj
    have h0 := H0.out
    obtain ⟨ad', e1, y1⟩ := Kd.at_int hC1 (at_ + (j : Int)) (by omega) (by have := H3.out; omega)
    cases e1
    rw [show (at_ + (j : Int)).toNat = at_.toNat + j by omega] at y1
    have e2 : (ad.add at_.toNat).add j = ad.add (at_.toNat + j) := Addr.add_add _ _ _
    rw [e2]
    exact y1
  have hcopy := Go.Proofs.YtpndhoefmepfdaaDoor.More.run_copy_cellsN (P := Tryd.prog) w1.drew 44 44 3 5 1 ga 0 3 3 (ad.add at_.toNat) (n - at_.toNat) (c - at_.toNat) [.int .u8 (rd d at_), .int .u8 (rd d (at_ + 1)), .int .u8 (rd d (at_ + 2))] (by kernel_rfl) (by kernel_rfl)
    (by
      rw [show Nat.min (n - at_.toNat) 3 = 3 from Nat.min_eq_right (by have := H3.out; have := H0.out; have := HL.out; omega)]
      rfl)
    (by
      intro j v hj
      rcases j with _ | _ | _ | j
      · simp at hj; subst hj; have := hat 0 (by omega); simpa using this
      · simp at hj; subst hj; have := hat 1 (by omega); simpa using this
      · simp at hj; subst hj; have := hat 2 (by omega); simpa using this
      · simp at hj)
    (by
      intro j hj
      rw [blk_cell (blk_drew BK4.out)]
      rcases j with _ | _ | _ | j
      · rfl
      · rfl
      · rfl
      · simp at hj; omega)
    (fun j _ => blk_frozen (blk_drew BK4.out) _)
    (by intro v hv; simp at hv; rcases hv with rfl | rfl | rfl <;> rfl)
  have BK5 := Aside0.mk (blk_put (cs' := #[.int .u8 (rd d at_), .int .u8 (rd d (at_ + 1)), .int .u8 (rd d (at_ + 2))]) (blk_put (cs' := #[.int .u8 (rd d at_), .int .u8 (rd d (at_ + 1)), .int .u8 0]) (blk_put (cs' := #[.int .u8 (rd d at_), .int .u8 0, .int .u8 0]) (blk_drew BK4.out) 0 (.int .u8 (rd d at_)) rfl) 1 (.int .u8 (rd d (at_ + 1))) rfl) 2 (.int .u8 (rd d (at_ + 2))) rfl)
  have HB5 := Aside0.mk (below_set (j := 2) (v := .int .u8 (rd d (at_ + 2))) (below_set (j := 1) (v := .int .u8 (rd d (at_ + 1))) (below_set (j := 0) (v := .int .u8 (rd d at_)) (below_step HB1.out (below_drew (Below.refl _ _))) GE4.out) GE4.out) GE4.out)
  clear hat hC1
  refine Kd.event_run (by rfl) (v := .int .i64 ((Nat.min (n - at_.toNat) 3 : Nat) : Int)) (w1 := ((w1.drew.setCell ⟨ga, 0, none⟩ (.int .u8 (rd d at_))).setCell ⟨ga, 1, none⟩ (.int .u8 (rd d (at_ + 1)))).setCell ⟨ga, 2, none⟩ (.int .u8 (rd d (at_ + 2)))) ?_ ?_
  · unfold execOp
    simp only [resolve, invoke, builtin, Sem.run_bind, Sem.run_pure, Result.andThen_ok, List.map_toArray, List.map_cons, List.map_nil]
    exact congrArg (fun r => Result.andThen r (fun a w' => Result.ok (Next.value a) w')) hcopy
  generalize ((w1.drew.setCell ⟨ga, 0, none⟩ (.int .u8 (rd d at_))).setCell ⟨ga, 1, none⟩ (.int .u8 (rd d (at_ + 1)))).setCell ⟨ga, 2, none⟩ (.int .u8 (rd d (at_ + 2))) = w2 at BK5 HB5 ⊢
  clear hcopy BK4 HB1
  go_wp2_with (first
    | (refine wpList_load_row (by rfl) 107 (.tmp 4) (by rfl) ga (by first | rfl | (go_simp; done) | (go_simp; rfl)) 107 _ (0, 0) _ BK5.out Go.Proofs.YtpndhoefmepfdaaDoor.PSq.arr107.hu rfl (by kernel_rfl) ?_)
    | (refine wpList_store_row (by rfl) 107 (.tmp 4) (.tmp 17) (by rfl) ga _ (by first | rfl | (go_simp; done) | (go_simp; rfl)) (by first | rfl | (go_simp; done) | (go_simp; rfl)) 107 _ BK5.out (by kernel_rfl) rfl (by simp [Value.oneCell']) ?_)
    | fail)
  refine bodyPost_ret (v := .tuple #[key3 (kAt d at_), .bool true]) ?_ ?_ ?_
  rotate_left
  · rfl
  · exact ⟨rfl, below_setRow HB5.out GE4.out _⟩
  exact results_ct (p := 4) (ty := 107) Tryd.results59 _ _ ga 107 _ (0, 0) _ (by rfl) (setRow_heap _ ga _ _ 107 (0, 0) BK5.out) arr107.hu rfl (by kernel_rfl)
end Go.Proofs.YtpndhoefmepfdaaDoor.PSq
namespace Go.Proofs.YtpndhoefmepfdaaDoor.PSq
open Go.RowKit Go.Proofs.YtpndhoefmepfdaaDoorW.PrintWords Go.Proofs.YtpndhoefmepfdaaDoorW.PrintLast Go.Proofs.YtpndhoefmepfdaaDoorW.PrintMore
set_option linter.unusedVariables false
/-- The block of a finder. -/
def fcells (A : Option Addr) (n c : Nat) (window chain : Int) (lazy : Bool) (M : Nat) (next : Int) : Array Value := #[.slice A n c, .int .i64 window, .int .i64 chain, .bool lazy, .map (some M), .int .i64 next]
attribute [local go_sem] max2_int min2_int max_two min_two
set_option maxHeartbeats 4000000 in
set_option maxRecDepth 100000 in
theorem run_calls (F : Nat) (A : Option Addr) (c n M : Nat) (window chain next : Int) (lazy : Bool) (d : List Int) (j i r : Int) (w : World) (hF : w.heap[F]? = some (.cells (fcells A n c window chain lazy M next) 106 (0, 0)))
    (hd : Kd.C (Kd.int .u8) w A n d) (hn : d.length = n) (hbig : n ≤ 16777216) (hj : 0 ≤ j ∧ j ≤ (n : Int)) (hi : 0 ≤ i ∧ i ≤ (n : Int)) (hr : runF d j i = some r) :
    Calls Tryd.prog 60 #[.pointer (some ⟨F, 0, none⟩), .int .i64 j, .int .i64 i] w fun e w' => e = .returned (.int .i64 r) ∧ Drawn0 w w' := by
  have HF := Aside0.mk hF
  have HD := Aside0.mk hd
  have HN := Aside0.mk hn
  have HJ := Aside0.mk hj
  have HI := Aside0.mk hi
  have HR := Aside0.mk hr
  have z0 : w.cell? ⟨F, 0, none⟩ = some (.slice A n c) := blk_cell hF 0
  have hws : IntKind.i64.wrap ((n : Int) - i) = (n : Int) - i := IntWalk.i64_in _ (by omega)
  have HB := Aside0.mk hbig
  clear hF hd hn hj hi hr hbig
  go_enter Tryd.func60, Tryd.ntmps60
  go_upto_region 2 with fail
  obtain ⟨mo, hmo⟩ : ∃ mo, (if (n : Int) - i < 258 then (n : Int) - i else 258) = mo := ⟨_, rfl⟩
  rw [hmo]
  have HMO := Aside0.mk (show mo ≤ 258 ∧ i + mo ≤ (n : Int) ∧ 0 ≤ mo by have := HI.out; rw [← hmo]; split <;> omega)
  have HR2 := Aside0.mk (show runLoop d j i mo 260 0 = some r by have := HR.out; unfold runF mostF at this; rwa [HN.out, hmo] at this)
  clear hmo hws z0 HR
  go_wp2
  go_loopg [8] 260 (fun gk v8 w' => ∃ (m : Int) (q : Nat), v8 = .int .i64 m ∧ Aside0 (0 ≤ m ∧ m ≤ mo ∧ runLoop d j i mo gk m = some r) ∧ w' = w.drewN q)
  case atStart => exact ⟨0, 0, rfl, ⟨⟨by omega, HMO.out.2.2, HR2.out⟩⟩, rfl⟩
  case round =>
    clear HR2
    obtain ⟨m, q, rfl, HT, rfl⟩ := hrel
    cases gk with
    | zero => have h := HT.out.2.2; rw [runLoop] at h; cases h
    | succ k1 =>
      have z0 : w.cell? ⟨F, 0, none⟩ = some (.slice A n c) := blk_cell HF.out 0
      by_cases c1 : m < mo
      · have c1b : decide (m < mo) = true := decide_eq_true c1
        have hT := HT.out.2.2
        rw [runLoop, if_pos c1] at hT
        by_cases c2 : 0 ≤ j + m ∧ j + m < (d.length : Int) ∧ 0 ≤ i + m ∧ i + m < (d.length : Int)
        rotate_left
        · rw [if_neg c2] at hT; cases hT
        rw [if_pos c2] at hT
        rw [HN.out] at c2
        obtain ⟨ad, e1, y1⟩ := Kd.at_int HD.out (j + m) c2.1 c2.2.1
        cases e1
        obtain ⟨ad2, e2, y2⟩ := Kd.at_int HD.out (i + m) c2.2.2.1 c2.2.2.2
        cases e2
        have w1 : IntKind.i64.wrap (j + m) = j + m := IntWalk.i64_in _ (by have := HB.out; omega)
        have w2 : IntKind.i64.wrap (i + m) = i + m := IntWalk.i64_in _ (by have := HB.out; omega)
        have w3 : wrap64 (m + 1) = m + 1 := by have := HMO.out; have := HT.out.1; unfold wrap64; omega
        obtain ⟨a0, a1, a2, a3⟩ := c2
        obtain ⟨p, hp⟩ : ∃ p, rd d (j + m) = p := ⟨_, rfl⟩
        obtain ⟨u, hu⟩ : ∃ u, rd d (i + m) = u := ⟨_, rfl⟩
        rw [hp] at y1 hT
        rw [hu] at y2 hT
        by_cases c3 : p = u
        · have c3b : (p == u) = true := by rw [c3]; simp
          rw [if_pos c3] at hT
          have HT2 := Aside0.mk (show 0 ≤ m + 1 ∧ m + 1 ≤ mo ∧ runLoop d j i mo k1 (m + 1) = some r from ⟨by have := HT.out; omega, by omega, hT⟩)
          have W3 := Aside0.mk w3
          clear hp hu hT HT w3 c3
          go_wp2
          go_quiet (fail)
          go_wp2
          go_roundg k1
          case measure => omega
          case rel => exact ⟨wrap64 (m + 1), _, (by first | rfl | (simp; done) | (simp [*]; done)), ⟨by rw [W3.out]; exact HT2.out⟩, by first | rfl | rw [World.drewN_drewN]⟩
        · have c3b : (p == u) = false := by simpa using c3
          rw [if_neg c3] at hT
          obtain rfl := Option.some.inj hT
          clear hp hu hT HT w3 c3
          go_wp2
          go_quiet (fail)
          go_wp2
          refine bodyPost_ret (results_tmp rfl _ _ _) rfl ?_
          exact ⟨rfl, _, World.drewN_drewN _ _ _⟩
      · have c1b : decide (m < mo) = false := decide_eq_false c1
        have hT := HT.out.2.2
        rw [runLoop, if_neg c1] at hT
        obtain rfl := Option.some.inj hT
        clear hT HT c1
        go_wp2
        go_quiet (fail)
        go_wp2
        refine bodyPost_ret (results_tmp rfl _ _ _) rfl ?_
        exact ⟨rfl, _, World.drewN_drewN _ _ _⟩
end Go.Proofs.YtpndhoefmepfdaaDoor.PSq
namespace Go.Proofs.YtpndhoefmepfdaaDoor.PSq
open Go.RowKit Go.Proofs.YtpndhoefmepfdaaDoorW.PrintWords Go.Proofs.YtpndhoefmepfdaaDoorW.PrintLast Go.Proofs.YtpndhoefmepfdaaDoorW.PrintMore
open Go.YtpndhoefmepfdaaDoor (KeepsOn)
open Go.ChangeMaps (setBlock)
set_option linter.unusedVariables false
/-- A finder in memory: its block, the data that it keeps, its groups. -/
structure Fnd (W : World) (base : Nat) (O : Nat → Prop) (F M gA cA : Nat) (d : List Int) (window chain : Int) (lazy : Bool) (next : Nat) : Prop where
  hF : W.heap[F]? = some (.cells (fcells (some ⟨gA, 0, none⟩) d.length cA window chain lazy M (next : Int)) 106 (0, 0))
  hd : Kd.R (Kd.int .u8) 5 W base O (.slice (some ⟨gA, 0, none⟩) d.length cA) d
  hg : Grp W base (fun b => O b ∧ b ≠ F) M (grpF d next)
  oF : O F
  oM : O M
  bF : base ≤ F
  bM : base ≤ M
  ne : M ≠ F
theorem three_any (A : Option Addr) (c n : Nat) (d : List Int) (at_ : Int) (w : World) (hd : Kd.C (Kd.int .u8) w A n d) (hlen : d.length = n) (hc : n ≤ c) (h0 : 0 ≤ at_) (h1 : at_ ≤ (n : Int)) (hn : n ≤ 16777216) :
    Calls Tryd.prog 59 #[.slice A n c, .int .i64 at_] w fun e w' => e = .returned (.tuple #[key3 (if at_ + 3 ≤ (n : Int) then kAt d at_ else (0, 0, 0)), .bool (decide (at_ + 3 ≤ (n : Int)))]) ∧ Below w.heap.size w w' := by
  subst hlen
  by_cases h : at_ + 3 ≤ (d.length : Int)
  · rw [if_pos h, decide_eq_true h]
    exact three_yes A c d at_ w hd hc h0 hn h
  · rw [if_neg h, decide_eq_false h]
    exact three_no A c d at_ w h0 h1 hn h
theorem kAt_byte {d : List Int} (hby : ∀ x ∈ d, 0 ≤ x ∧ x ≤ 255) (at_ : Int) : byte3 (kAt d at_) := by
  have h : ∀ i, 0 ≤ rd d i ∧ rd d i ≤ 255 := fun i => by
    unfold rd
    rw [List.getD_eq_getElem?_getD]
    cases hx : d[i.toNat]? with
    | none => exact ⟨Int.le_refl _, by decide⟩
    | some x => exact hby x (List.mem_of_getElem? hx)
  exact ⟨h _, h _, h _⟩
theorem cell_keeps {S : Nat → Prop} {w w1 : World} {b i : Nat} {v : Value} (hk : KeepsOn S w w1) (hv : w.cell? ⟨b, i, none⟩ = some v) (hb : S b) : w1.cell? ⟨b, i, none⟩ = some v := by
  have hlt : b < w.heap.size := by
    refine Nat.lt_of_not_le fun h => ?_
    simp [World.cell?, Array.getElem?_eq_none h] at hv
  have := hk.block b hb hlt
  unfold World.cell? at hv ⊢
  rw [this]
  exact hv
section
variable {W W1 : World} {base : Nat} {O : Nat → Prop} {F M gA cA : Nat} {d : List Int} {window chain : Int} {lazy : Bool} {next : Nat}
theorem Fnd.keep (h : Fnd W base O F M gA cA d window chain lazy next) (hk : KeepsOn O W W1) : Fnd W1 base O F M gA cA d window chain lazy next :=
  ⟨hk.obj h.hF h.oF, Kd.R_step h.hd (fun k ho hl => hk.block k ho hl), h.hg.keep ⟨h.oM, h.ne⟩ (hk.mono fun _ q _ => q.1), h.oF, h.oM, h.bF, h.bM, h.ne⟩
theorem Fnd.mono {O2 : Nat → Prop} (h : Fnd W base O F M gA cA d window chain lazy next) (hO : ∀ b, O b → O2 b) : Fnd W base O2 F M gA cA d window chain lazy next :=
  ⟨h.hF, Kd.R_mono h.hd hO, h.hg.mono (fun b q => ⟨hO b q.1, q.2⟩), hO _ h.oF, hO _ h.oM, h.bF, h.bM, h.ne⟩
/-- The next place is written. -/
theorem Fnd.put {O2 : Nat → Prop} (h : Fnd W base O F M gA cA d window chain lazy next) (hF : W1.heap[F]? = some (.cells (fcells (some ⟨gA, 0, none⟩) d.length cA window chain lazy M (next : Int)) 106 (0, 0))) (hd : Kd.R (Kd.int .u8) 5 W1 base O2 (.slice (some ⟨gA, 0, none⟩) d.length cA) d)
    (hg : Grp W1 base (fun b => O2 b ∧ b ≠ F) M (grpF d (next + 1))) (hO : ∀ b, O b → O2 b) : Fnd (W1.setCell ⟨F, 5, none⟩ (.int .i64 ((next : Int) + 1))) base O2 F M gA cA d window chain lazy (next + 1) :=
  ⟨blk_put hF 5 _ rfl, Kd.R_set hd hF (fun q hq => by rcases List.mem_cons.1 hq with rfl | h; decide; cases h) _ _, hg.keep ⟨hO _ h.oM, h.ne⟩ (KeepsOn.setCell _ _ _ (fun q => q.2 rfl)), hO _ h.oF, hO _ h.oM, h.bF, h.bM, h.ne⟩
end
theorem keeps_grown {w w1 : World} {row : Option Nat} (hg : w.grownBy w1 row) : KeepsOn (fun b => some b ≠ row) w w1 := ⟨hg.os, hg.tape, hg.output, hg.size, fun k hk hl => hg.block k hl hk⟩
theorem exec_mapEntry {P : Program} {ρ : Operand → Value} {o : Oper} {w w1 : World} {t : TypeId} {m k : Operand} {mv kv v : Value} (ho : o.op = .mapEntry t m k) (hm : ρ m = mv) (hk : ρ k = kv) (h : (Instr.mapEntry t mv kv).run P w = .ok v w1) : (execOp ρ o).run P w = .ok (.value v) w1 := by
  simp [execOp, ho, hm, hk, h, Result.andThen]
theorem exec_entryStore {P : Program} {ρ : Operand → Value} {o : Oper} {w w1 : World} {t : TypeId} {m k x : Operand} {mv kv xv : Value} (ho : o.op = .entryStore t m k x) (hm : ρ m = mv) (hk : ρ k = kv) (hx : ρ x = xv) (h : (Instr.entryStore t mv kv xv).run P w = .ok () w1) : (execOp ρ o).run P w = .ok .skip w1 := by
  simp [execOp, ho, hm, hk, hx, h, Result.andThen]
theorem grp_more {d : List Int} {nx : Nat} {kk : K3} (h3 : (nx : Int) + 3 ≤ (d.length : Int)) (hk : kAt d (nx : Int) = kk) : updG (grpF d nx) kk (grpF d nx kk ++ [(nx : Int)]) = grpF d (nx + 1) := by
  funext q
  unfold updG
  rw [grpF]
  by_cases e : q = kk
  · rw [if_pos e, if_pos ⟨h3, by rw [hk, e]⟩, e]
  · rw [if_neg e, if_neg (fun h => e (by rw [← h.2, hk]))]
theorem grp_same {d : List Int} {nx : Nat} (h3 : ¬ (nx : Int) + 3 ≤ (d.length : Int)) : grpF d nx = grpF d (nx + 1) := by
  funext q
  rw [grpF, if_neg (fun h => h3 h.1)]
set_option maxHeartbeats 16000000 in
set_option maxRecDepth 100000 in
theorem upTo_calls (base : Nat) (O : Nat → Prop) (F M gA cA : Nat) (d : List Int) (window chain : Int) (lazy : Bool) (next : Nat) (at_ : Int) (w : World) (h : Fnd w base O F M gA cA d window chain lazy next) (h0 : 0 ≤ at_ ∧ at_ ≤ (d.length : Int)) (hOF : O F) (hn : next ≤ d.length + 1) (hbig : d.length ≤ 16777216) (hby : ∀ x ∈ d, 0 ≤ x ∧ x ≤ 255) :
    Calls Tryd.prog 58 #[.pointer (some ⟨F, 0, none⟩), .int .i64 at_] w fun e w' => (∃ v, e = .returned v) ∧ ∃ O', Fnd w' base O' F M gA cA d window chain lazy (max next at_.toNat) ∧ (∀ k, O' k → O k ∨ w.heap.size ≤ k) ∧ (∀ k, O k → O' k) ∧ KeepsOn (fun k => ¬ O k) w w' := by
  go_enter Tryd.func58, Tryd.ntmps58
  go_wp2
  go_loopg [] (d.length + 2 - next) (fun gk w' => ∃ (nx : Nat) (O' : Nat → Prop), gk = d.length + 2 - nx ∧ Aside0 (nx ≤ d.length + 1 ∧ next ≤ nx ∧ nx ≤ max next at_.toNat) ∧ Fnd w' base O' F M gA cA d window chain lazy nx ∧ (∀ k, O' k → O k ∨ w.heap.size ≤ k) ∧ (∀ k, O k → O' k) ∧ KeepsOn (fun k => ¬ O k) w w')
  case atStart => exact ⟨next, O, rfl, ⟨⟨hn, Nat.le_refl _, Nat.le_max_left _ _⟩⟩, h, fun k hk => .inl hk, fun _ hk => hk, KeepsOn.refl _ _⟩
  case round =>
    obtain ⟨nx, O', rfl, HT, hf, g1, g2, g3⟩ := hrel
    have z3 : wr.cell? ⟨F, 5, none⟩ = some (.int .i64 (nx : Int)) := blk_cell hf.hF 5
    have z0 : wr.cell? ⟨F, 0, none⟩ = some (.slice (some ⟨gA, 0, none⟩) d.length cA) := blk_cell hf.hF 0
    by_cases c1 : (nx : Int) < at_
    rotate_left
    · have c1b : decide ((nx : Int) < at_) = false := decide_eq_false c1
      have hend : max next at_.toNat = nx := by have h1 := HT.out; omega
      go_wp2
      go_end0
      refine ⟨⟨_, rfl⟩, O', ?_, g1, g2, g3⟩
      first | exact hf | (rw [hend]; exact hf)
    · have c1b : decide ((nx : Int) < at_) = true := decide_eq_true c1
      have HF := Aside0.mk hf
      have HBY := Aside0.mk hby
      have HBIG := Aside0.mk hbig
      have H0 := Aside0.mk h0
      have HC := Aside0.mk c1
      have HFO := Aside0.mk (show ¬ ¬ O F from fun hno => hno hOF)
      obtain ⟨n, hn2⟩ : ∃ n, d.length = n := ⟨_, rfl⟩
      rw [hn2] at z0
      have HN := Aside0.mk hn2
      have hcap : n ≤ cA := by
        obtain ⟨A1, c1, e1, h1, _⟩ := Kd.R_reads hf.hd
        injection e1 with _ _ e1
        omega
      have HCAP := Aside0.mk hcap
      have G1 := Aside0.mk g1
      have G2 := Aside0.mk g2
      have G3 := Aside0.mk g3
      clear hf hby hbig h h0 hn c1 hn2 hcap g1 g2 g3
      go_upto_region 2 with fail
      obtain ⟨kk, hkk⟩ : ∃ kk, (if (nx : Int) + 3 ≤ (n : Int) then kAt d (nx : Int) else (0, 0, 0)) = kk := ⟨_, rfl⟩
      obtain ⟨ok, hok⟩ : ∃ ok, decide ((nx : Int) + 3 ≤ (n : Int)) = ok := ⟨_, rfl⟩
      have hthree : ∀ w1, Below wr.heap.size wr w1 → Calls Tryd.prog 59 #[.slice (some ⟨gA, 0, none⟩) n cA, .int .i64 (nx : Int)] w1 fun e w' => e = .returned (.tuple #[key3 kk, .bool ok]) ∧ Below w1.heap.size w1 w' := fun w1 hb1 => by
        rw [← hkk, ← hok]
        refine three_any _ cA n d (nx : Int) w1 (Kd.C_below ?_ hb1) HN.out HCAP.out (by omega) (by have := HC.out; have := H0.out; have := HN.out; omega) (by have := HBIG.out; have := HN.out; omega)
        obtain ⟨A1, c1, e1, _, hc1⟩ := Kd.R_reads HF.out.hd
        injection e1 with e1 _ _
        rw [e1, ← HN.out]
        exact hc1
      refine start_ (n := 15) (S := fun w' => w'.cell? ⟨F, 0, none⟩ = some (.slice (some ⟨gA, 0, none⟩) n cA) ∧ w'.cell? ⟨F, 5, none⟩ = some (.int .i64 (nx : Int))) (ds := []) #[false, false, false, false, false, false, false, false, false, false, false, false, false, false, false] (by kernel_rfl) rfl rfl (⟨z0, z3⟩) (fun hHeld => ?_)
      refine pure_ (i := 0) (N := some 20) (v := ?_) (a' := ?_) #[true, false, false, false, false, false, false, false, false, false, false, false, false, false, false] rfl rfl (by kernel_rfl) (fun _ _ _ h => h) (Or.inl ⟨by rfl, ?_⟩) ?_ ?_
      rotate_left
      · intro w'
        go_simp
        with_reducible rfl
      rotate_left
      · simp only [Act.put, List.setIfInBounds_toArray, List.set_cons_zero, List.set_cons_succ]
        rfl
      refine pure_ (i := 1) (N := some 21) (v := ?_) (a' := ?_) #[true, true, false, false, false, false, false, false, false, false, false, false, false, false, false] rfl rfl (by kernel_rfl) (fun _ _ _ h => h) (Or.inl ⟨by rfl, ?_⟩) ?_ ?_
      rotate_left
      · intro w'
        go_simp
        with_reducible rfl
      rotate_left
      · simp only [Act.put, List.setIfInBounds_toArray, List.set_cons_zero, List.set_cons_succ]
        rfl
      refine pure_ (i := 2) (N := some 22) (v := ?_) (a' := ?_) #[true, true, true, false, false, false, false, false, false, false, false, false, false, false, false] rfl rfl (by kernel_rfl) (fun _ _ _ h => h) (Or.inl ⟨by rfl, ?_⟩) ?_ ?_
      rotate_left
      · intro w'
        go_simp
        with_reducible rfl
      rotate_left
      · simp only [Act.put, List.setIfInBounds_toArray, List.set_cons_zero, List.set_cons_succ]
        rfl
      refine pure_ (i := 4) (N := some 24) (v := ?_) (a' := ?_) #[true, true, true, false, true, false, false, false, false, false, false, false, false, false, false] rfl rfl (by kernel_rfl) (fun _ _ _ h => h) (Or.inl ⟨by rfl, ?_⟩) ?_ ?_
      rotate_left
      · intro w'
        go_simp
        with_reducible rfl
      rotate_left
      · simp only [Act.put, List.setIfInBounds_toArray, List.set_cons_zero, List.set_cons_succ]
        rfl
      refine pure_ (i := 5) (N := some 25) (v := ?_) (a' := ?_) #[true, true, true, false, true, true, false, false, false, false, false, false, false, false, false] rfl rfl (by kernel_rfl) (fun _ _ _ h => h) (Or.inl ⟨by rfl, ?_⟩) ?_ ?_
      rotate_left
      · intro w'
        go_simp
        with_reducible rfl
      rotate_left
      · simp only [Act.put, List.setIfInBounds_toArray, List.set_cons_zero, List.set_cons_succ]
        rfl
      refine pure_ (i := 6) (N := some 26) (v := ?_) (a' := ?_) #[true, true, true, false, true, true, true, false, false, false, false, false, false, false, false] rfl rfl (by kernel_rfl) (fun _ _ _ h => h) (Or.inl ⟨by rfl, ?_⟩) ?_ ?_
      rotate_left
      · intro w'
        go_simp
        with_reducible rfl
      rotate_left
      · simp only [Act.put, List.setIfInBounds_toArray, List.set_cons_zero, List.set_cons_succ]
        rfl
      refine take_ (i := 3) (N := some 23) (v := ?_) (a' := ?_) #[true, true, true, true, true, true, true, false, false, false, false, false, false, false, false] rfl rfl (by kernel_rfl) (fun _ _ _ h => h) (Or.inl ⟨by rfl, ?_⟩) hHeld ?_ ?_
      rotate_left
      · rintro w' ⟨s0, s5⟩
        go_simp
        with_reducible rfl
      rotate_left
      · simp only [Act.put, List.setIfInBounds_toArray, List.set_cons_zero, List.set_cons_succ]
        rfl
      refine take_ (i := 7) (N := some 27) (v := ?_) (a' := ?_) #[true, true, true, true, true, true, true, true, false, false, false, false, false, false, false] rfl rfl (by kernel_rfl) (fun _ _ _ h => h) (Or.inl ⟨by rfl, ?_⟩) hHeld ?_ ?_
      rotate_left
      · rintro w' ⟨s0, s5⟩
        go_simp
        with_reducible rfl
      rotate_left
      · simp only [Act.put, List.setIfInBounds_toArray, List.set_cons_zero, List.set_cons_succ]
        rfl
      have hb0 : Below wr.heap.size wr wr.drew := below_drew (Below.refl _ _)
      refine join_ (σ := Nat) 2 #[true, true, true, true, true, true, true, true, true, true, true, true, true, false, false] (fun s => [(28, .tuple #[key3 kk, .bool ok]), (19, .tuple #[key3 kk, .bool ok]), (29, key3 kk), (30, .bool ok), (4, .pointer (some ⟨s, 0, none⟩))]) (fun s W1 => W1.heap[s]? = some (.cells #[.int .u8 0, .int .u8 0, .int .u8 0] 107 (0, 0)) ∧ wr.heap.size ≤ s ∧ Below wr.heap.size wr W1) ?_ ?_
      rotate_left
      · intro hCont
        refine two_ (i := 8) (j := 12) (Ni := some 28) (Nj := some 4) #[true, true, true, true, true, true, true, true, true, false, false, false, false, false, false] #[true, true, true, true, true, true, true, true, false, false, false, false, true, false, false] rfl rfl rfl rfl (by kernel_rfl) (by decide) (by decide) (fun K hK => ?_) (fun K hK => ?_)
        · skip
          refine call_ 59 #[.slice (some ⟨gA, 0, none⟩) n cA, .int .i64 (nx : Int)] (by rfl) rfl (by first | rfl | kernel_rfl | (go_simp; rfl)) ?_
          refine (hthree _ hb0).mono ?_
          rintro e w1 ⟨rfl, hc1⟩
          have hb1 := below_step hb0 hc1
          refine ⟨_, rfl, ?_⟩
          refine hK.out _ _ (⟨(pw_cell_below hb1 z0), (pw_cell_below hb1 z3)⟩) (fun hHeld => ?_)
          clear hK K
          refine norm_ (a' := ?_) ?_ ?_
          rotate_left
          · show Act.put _ (some 28) _ = _
            simp only [Act.put, List.setIfInBounds_toArray, List.set_cons_zero, List.set_cons_succ]
            rfl
          refine pure_ (i := 9) (N := some 19) (v := ?_) (a' := ?_) #[true, true, true, true, true, true, true, true, true, true, false, false, false, false, false] rfl rfl (by kernel_rfl) (fun _ _ _ h => h) (Or.inl ⟨by rfl, ?_⟩) ?_ ?_
          rotate_left
          · intro w'
            go_simp
            with_reducible rfl
          rotate_left
          · simp only [Act.put, List.setIfInBounds_toArray, List.set_cons_zero, List.set_cons_succ]
            rfl
          refine pure_ (i := 10) (N := some 29) (v := key3 kk) (a' := ?_) #[true, true, true, true, true, true, true, true, true, true, true, false, false, false, false] rfl rfl (by kernel_rfl) (fun _ _ _ h => h) (Or.inl ⟨by rfl, ?_⟩) ?_ ?_
          · intro w'
            rfl
          rotate_left
          · simp only [Act.put, List.setIfInBounds_toArray, List.set_cons_zero, List.set_cons_succ]
            rfl
          refine pure_ (i := 11) (N := some 30) (v := .bool ok) (a' := ?_) #[true, true, true, true, true, true, true, true, true, true, true, true, false, false, false] rfl rfl (by kernel_rfl) (fun _ _ _ h => h) (Or.inl ⟨by rfl, ?_⟩) ?_ ?_
          · intro w'
            rfl
          rotate_left
          · simp only [Act.put, List.setIfInBounds_toArray, List.set_cons_zero, List.set_cons_succ]
            rfl
          refine one_ (i := 12) (N := some 4) #[true, true, true, true, true, true, true, true, true, true, true, true, true, false, false] rfl rfl (by kernel_rfl) (by decide) (fun K hK => ?_)
          refine value_ (w1 := w1.alloc (.cells #[.int .u8 0, .int .u8 0, .int .u8 0] 107 (0, 0))) (v := .pointer (some ⟨w1.heap.size, 0, none⟩)) (by rfl) rfl (by kernel_rfl) ?_
          have hbox2 := blk_new w1 (.cells #[.int .u8 0, .int .u8 0, .int .u8 0] 107 (0, 0))
          have hge : wr.heap.size ≤ w1.heap.size := hb1.size
          have hb2 := below_alloc hb1 (.cells #[.int .u8 0, .int .u8 0, .int .u8 0] 107 (0, 0))
          refine hK.out _ _ (⟨(pw_cell_below hb2 z0), (pw_cell_below hb2 z3)⟩) (fun hHeld => ?_)
          clear hK K
          refine norm_ (a' := ?_) ?_ ?_
          rotate_left
          · show Act.put _ (some 4) _ = _
            simp only [Act.put, List.setIfInBounds_toArray, List.set_cons_zero, List.set_cons_succ]
            rfl
          exact norm_ (by simp only [putAll, Act.put, List.setIfInBounds_toArray, List.set_cons_zero, List.set_cons_succ]) (hCont _ _ ⟨hbox2, hge, hb2⟩)
        · skip
          refine value_ (w1 := wr.drew.alloc (.cells #[.int .u8 0, .int .u8 0, .int .u8 0] 107 (0, 0))) (v := .pointer (some ⟨wr.drew.heap.size, 0, none⟩)) (by rfl) rfl (by kernel_rfl) ?_
          have hbox1 := blk_new wr.drew (.cells #[.int .u8 0, .int .u8 0, .int .u8 0] 107 (0, 0))
          have hge : wr.heap.size ≤ wr.drew.heap.size := hb0.size
          have hb1 := below_alloc hb0 (.cells #[.int .u8 0, .int .u8 0, .int .u8 0] 107 (0, 0))
          refine hK.out _ _ (⟨(pw_cell_below hb1 z0), (pw_cell_below hb1 z3)⟩) (fun hHeld => ?_)
          clear hK K
          refine norm_ (a' := ?_) ?_ ?_
          rotate_left
          · show Act.put _ (some 4) _ = _
            simp only [Act.put, List.setIfInBounds_toArray, List.set_cons_zero, List.set_cons_succ]
            rfl
          refine one_ (i := 8) (N := some 28) #[true, true, true, true, true, true, true, true, true, false, false, false, true, false, false] rfl rfl (by kernel_rfl) (by decide) (fun K hK => ?_)
          refine call_ 59 #[.slice (some ⟨gA, 0, none⟩) n cA, .int .i64 (nx : Int)] (by rfl) rfl (by first | rfl | kernel_rfl | (go_simp; rfl)) ?_
          refine (hthree _ hb1).mono ?_
          rintro e w2 ⟨rfl, hc2⟩
          have hb2 := below_step hb1 hc2
          have hbox2 := blk_below hbox1 hc2
          refine ⟨_, rfl, ?_⟩
          refine hK.out _ _ (⟨(pw_cell_below hb2 z0), (pw_cell_below hb2 z3)⟩) (fun hHeld => ?_)
          clear hK K
          refine norm_ (a' := ?_) ?_ ?_
          rotate_left
          · show Act.put _ (some 28) _ = _
            simp only [Act.put, List.setIfInBounds_toArray, List.set_cons_zero, List.set_cons_succ]
            rfl
          refine pure_ (i := 9) (N := some 19) (v := ?_) (a' := ?_) #[true, true, true, true, true, true, true, true, true, true, false, false, true, false, false] rfl rfl (by kernel_rfl) (fun _ _ _ h => h) (Or.inl ⟨by rfl, ?_⟩) ?_ ?_
          rotate_left
          · intro w'
            go_simp
            with_reducible rfl
          rotate_left
          · simp only [Act.put, List.setIfInBounds_toArray, List.set_cons_zero, List.set_cons_succ]
            rfl
          refine pure_ (i := 10) (N := some 29) (v := key3 kk) (a' := ?_) #[true, true, true, true, true, true, true, true, true, true, true, false, true, false, false] rfl rfl (by kernel_rfl) (fun _ _ _ h => h) (Or.inl ⟨by rfl, ?_⟩) ?_ ?_
          · intro w'
            rfl
          rotate_left
          · simp only [Act.put, List.setIfInBounds_toArray, List.set_cons_zero, List.set_cons_succ]
            rfl
          refine pure_ (i := 11) (N := some 30) (v := .bool ok) (a' := ?_) #[true, true, true, true, true, true, true, true, true, true, true, true, true, false, false] rfl rfl (by kernel_rfl) (fun _ _ _ h => h) (Or.inl ⟨by rfl, ?_⟩) ?_ ?_
          · intro w'
            rfl
          rotate_left
          · simp only [Act.put, List.setIfInBounds_toArray, List.set_cons_zero, List.set_cons_succ]
            rfl
          exact norm_ (by simp only [putAll, Act.put, List.setIfInBounds_toArray, List.set_cons_zero, List.set_cons_succ]) (hCont _ _ ⟨hbox2, hge, hb2⟩)
      rintro s w1 ⟨hbox, hge, hb1⟩
      refine norm_ (a' := ?_) ?_ ?_
      rotate_left
      · simp only [putAll, Act.put, List.setIfInBounds_toArray, List.set_cons_zero, List.set_cons_succ]
        rfl
      refine one_ (i := 13) (N := none) #[true, true, true, true, true, true, true, true, true, true, true, true, true, true, false] rfl rfl (by kernel_rfl) (by decide) (fun K hK => ?_)
      rw [if_pos (by rfl)]
      refine wp_store_row 107 (.tmp 4) (.tmp 29) rfl s #[.int .u8 kk.1, .int .u8 kk.2.1, .int .u8 kk.2.2] (by rfl) (by rfl) 107 _ hbox (by kernel_rfl) rfl (by simp [Value.oneCell']) ?_
      have hb2 := below_setRow hb1 hge #[.int .u8 kk.1, .int .u8 kk.2.1, .int .u8 kk.2.2]
      have hbk := setRow_heap w1 s _ #[.int .u8 kk.1, .int .u8 kk.2.1, .int .u8 kk.2.2] 107 (0, 0) hbox
      refine hK.out _ _ (⟨(pw_cell_below hb2 z0), (pw_cell_below hb2 z3)⟩) (fun hHeld => ?_)
      clear hK K
      refine norm_ (a' := ?_) ?_ ?_
      rotate_left
      · show Act.put _ none _ = _
        rfl
      refine pure_ (i := 14) (N := some 5) (v := ?_) (a' := ?_) #[true, true, true, true, true, true, true, true, true, true, true, true, true, true, true] rfl rfl (by kernel_rfl) (fun _ _ _ h => h) (Or.inl ⟨by rfl, ?_⟩) ?_ ?_
      rotate_left
      · intro w'
        go_simp
        with_reducible rfl
      rotate_left
      · simp only [Act.put, List.setIfInBounds_toArray, List.set_cons_zero, List.set_cons_succ]
        rfl
      refine done_ (by kernel_rfl) ?_
      have HF2 := Aside0.mk (HF.out.keep (KeepsOn.of_below hb2 (fun k _ h => h)))
      have HB2 := Aside0.mk hb2
      have HBK := Aside0.mk hbk
      have HGE := Aside0.mk hge
      have HOK := Aside0.mk hok
      have HKK := Aside0.mk hkk
      have HS2 := Aside0.mk (blk_lt hbk)
      generalize w1.setRow s #[.int .u8 kk.1, .int .u8 kk.2.1, .int .u8 kk.2.2] = w2 at HF2 HB2 HBK HS2 ⊢
      clear hHeld hb1 hbox hb2 hbk hge hok hkk hthree hb0 z0 z3
      cases ok with
      | false =>
        go_upto_region 1 with fail
        have h3 : ¬ (nx : Int) + 3 ≤ (n : Int) := of_decide_eq_false HOK.out
        have z5 : w2.cell? ⟨F, 5, none⟩ = some (.int .i64 (nx : Int)) := blk_cell HF2.out.hF 5
        have f5 : w2.frozen? ⟨F, 5, none⟩ = false := blk_frozen HF2.out.hF 5
        have hw : wrap64 ((nx : Int) + 1) = ((nx : Int) + 1) := by have := HT.out; have := HBIG.out; unfold wrap64; omega
        have HF5 := Aside0.mk (Fnd.put HF2.out HF2.out.hF HF2.out.hd (by rw [← grp_same (by rw [HN.out]; exact h3)]; exact HF2.out.hg) (fun _ h => h))
        have HW := Aside0.mk hw
        have HK5 := Aside0.mk ((G3.out.seq (KeepsOn.of_below (S := fun _ => True) HB2.out (fun k _ h => h)) (fun _ _ _ => trivial)).seq (KeepsOn.setCell (S := fun k => ¬ O k) w2 ⟨F, 5, none⟩ (.int .i64 ((nx : Int) + 1)) (fun h => HFO.out h)) (fun _ h _ => h))
        clear hw h3
        go_wp2
        go_roundg (d.length + 2 - (nx + 1))
        case measure => have := HT.out; have := HC.out; have := H0.out; omega
        case rel => exact ⟨nx + 1, O', rfl, ⟨by have := HT.out; have := HC.out; have := H0.out; omega⟩, by rw [HW.out]; exact HF5.out, G1.out, G2.out, by rw [HW.out]; exact HK5.out⟩
      | true =>
        have h3 : (nx : Int) + 3 ≤ (n : Int) := of_decide_eq_true HOK.out
        have hkk : kAt d (nx : Int) = kk := by have := HKK.out; rwa [if_pos h3] at this
        have hky : byte3 kk := hkk ▸ kAt_byte HBY.out _
        obtain ⟨OG, hOG⟩ : ∃ OG : Nat → Prop, OG = fun b => O' b ∧ b ≠ F := ⟨_, rfl⟩
        have hg0 : Grp w2 base OG M (grpF d nx) := by rw [hOG]; exact HF2.out.hg
        have hoM : OG M := by rw [hOG]; exact ⟨HF2.out.oM, HF2.out.ne⟩
        have HOG := Aside0.mk hOG
        clear hOG
        have z4 : w2.cell? ⟨F, 4, none⟩ = some (.map (some M)) := blk_cell HF2.out.hF 4
        have z5 : w2.cell? ⟨F, 5, none⟩ = some (.int .i64 (nx : Int)) := blk_cell HF2.out.hF 5
        have hFM : F ≠ M := fun e => by
          obtain ⟨es, cl, hm, _⟩ := hg0
          have := HF2.out.hF
          rw [e, hm] at this
          cases this
        have hsM : s ≠ M := fun e => by
          obtain ⟨es, cl, hm, _⟩ := hg0
          have := HBK.out
          rw [e, hm] at this
          cases this
        have k0 : w2.cell? ⟨s, 0, none⟩ = some (.int .u8 kk.1) := blk_cell HBK.out 0
        have k1 : w2.cell? ⟨s, 1, none⟩ = some (.int .u8 kk.2.1) := blk_cell HBK.out 1
        have k2 : w2.cell? ⟨s, 2, none⟩ = some (.int .u8 kk.2.2) := blk_cell HBK.out 2
        have cellK : ∀ {w3 : World} {b i : Nat} {v : Value}, KeepsOn (fun q => q ≠ M) w2 w3 → w2.cell? ⟨b, i, none⟩ = some v → b ≠ M → w3.cell? ⟨b, i, none⟩ = some v := fun hk hv hb => cell_keeps hk hv hb
        have hFM' := hFM
        go_upto_region 4 with fail
        refine start_ (n := 15) (S := fun w' => w'.cell? ⟨F, 4, none⟩ = some (.map (some M)) ∧ w'.cell? ⟨F, 5, none⟩ = some (.int .i64 (nx : Int)) ∧ w'.cell? ⟨s, 0, none⟩ = some (.int .u8 kk.1) ∧ w'.cell? ⟨s, 1, none⟩ = some (.int .u8 kk.2.1) ∧ w'.cell? ⟨s, 2, none⟩ = some (.int .u8 kk.2.2)) (ds := []) #[false, false, false, false, false, false, false, false, false, false, false, false, false, false, false] (by kernel_rfl) rfl rfl (⟨z4, z5, k0, k1, k2⟩) (fun hHeld => ?_)
        refine pure_ (i := 0) (N := some 32) (v := ?_) (a' := ?_) #[true, false, false, false, false, false, false, false, false, false, false, false, false, false, false] rfl rfl (by kernel_rfl) (fun _ _ _ h => h) (Or.inl ⟨by rfl, ?_⟩) ?_ ?_
        rotate_left
        · intro w'
          go_simp
          with_reducible rfl
        rotate_left
        · simp only [Act.put, List.setIfInBounds_toArray, List.set_cons_zero, List.set_cons_succ]
          rfl
        refine pure_ (i := 1) (N := some 33) (v := ?_) (a' := ?_) #[true, true, false, false, false, false, false, false, false, false, false, false, false, false, false] rfl rfl (by kernel_rfl) (fun _ _ _ h => h) (Or.inl ⟨by rfl, ?_⟩) ?_ ?_
        rotate_left
        · intro w'
          go_simp
          with_reducible rfl
        rotate_left
        · simp only [Act.put, List.setIfInBounds_toArray, List.set_cons_zero, List.set_cons_succ]
          rfl
        refine pure_ (i := 2) (N := some 34) (v := ?_) (a' := ?_) #[true, true, true, false, false, false, false, false, false, false, false, false, false, false, false] rfl rfl (by kernel_rfl) (fun _ _ _ h => h) (Or.inl ⟨by rfl, ?_⟩) ?_ ?_
        rotate_left
        · intro w'
          go_simp
          with_reducible rfl
        rotate_left
        · simp only [Act.put, List.setIfInBounds_toArray, List.set_cons_zero, List.set_cons_succ]
          rfl
        refine pure_ (i := 5) (N := some 38) (v := ?_) (a' := ?_) #[true, true, true, false, false, true, false, false, false, false, false, false, false, false, false] rfl rfl (by kernel_rfl) (fun _ _ _ h => h) (Or.inl ⟨by rfl, ?_⟩) ?_ ?_
        rotate_left
        · intro w'
          go_simp
          with_reducible rfl
        rotate_left
        · simp only [Act.put, List.setIfInBounds_toArray, List.set_cons_zero, List.set_cons_succ]
          rfl
        refine pure_ (i := 6) (N := some 39) (v := ?_) (a' := ?_) #[true, true, true, false, false, true, true, false, false, false, false, false, false, false, false] rfl rfl (by kernel_rfl) (fun _ _ _ h => h) (Or.inl ⟨by rfl, ?_⟩) ?_ ?_
        rotate_left
        · intro w'
          go_simp
          with_reducible rfl
        rotate_left
        · simp only [Act.put, List.setIfInBounds_toArray, List.set_cons_zero, List.set_cons_succ]
          rfl
        refine pure_ (i := 7) (N := some 40) (v := ?_) (a' := ?_) #[true, true, true, false, false, true, true, true, false, false, false, false, false, false, false] rfl rfl (by kernel_rfl) (fun _ _ _ h => h) (Or.inl ⟨by rfl, ?_⟩) ?_ ?_
        rotate_left
        · intro w'
          go_simp
          with_reducible rfl
        rotate_left
        · simp only [Act.put, List.setIfInBounds_toArray, List.set_cons_zero, List.set_cons_succ]
          rfl
        refine take_ (i := 3) (N := some 35) (v := ?_) (a' := ?_) #[true, true, true, true, false, true, true, true, false, false, false, false, false, false, false] rfl rfl (by kernel_rfl) (fun _ _ _ h => h) (Or.inl ⟨by rfl, ?_⟩) hHeld ?_ ?_
        rotate_left
        · rintro w' ⟨s4, s5, k0, k1, k2⟩
          go_simp
          with_reducible rfl
        rotate_left
        · simp only [Act.put, List.setIfInBounds_toArray, List.set_cons_zero, List.set_cons_succ]
          rfl
        refine take_ (i := 4) (N := some 36) (v := key3 kk) (a' := ?_) #[true, true, true, true, true, true, true, true, false, false, false, false, false, false, false] rfl rfl (by kernel_rfl) (fun _ _ _ h => h) (Or.inl ⟨by rfl, ?_⟩) hHeld ?_ ?_
        · rintro w' ⟨s4, s5, k0, k1, k2⟩
          go_simp
          rfl
        rotate_left
        · simp only [Act.put, List.setIfInBounds_toArray, List.set_cons_zero, List.set_cons_succ]
          rfl
        refine take_ (i := 8) (N := some 41) (v := ?_) (a' := ?_) #[true, true, true, true, true, true, true, true, true, false, false, false, false, false, false] rfl rfl (by kernel_rfl) (fun _ _ _ h => h) (Or.inl ⟨by rfl, ?_⟩) hHeld ?_ ?_
        rotate_left
        · rintro w' ⟨s4, s5, k0, k1, k2⟩
          go_simp
          with_reducible rfl
        rotate_left
        · simp only [Act.put, List.setIfInBounds_toArray, List.set_cons_zero, List.set_cons_succ]
          rfl
        have hq0 : KeepsOn (fun q => q ≠ M) w2 w2.drew := KeepsOn.of_below (below_drew (Below.refl w2.heap.size _)) (fun k _ h => h)
        have hgd : Grp w2.drew base OG M (grpF d nx) := hg0.keep hoM (KeepsOn.of_below (below_drew (Below.refl w2.heap.size _)) (fun k _ h => h))
        refine join_ (σ := (Value × Nat) × (Nat × Obj)) 4 #[true, true, true, true, true, true, true, true, true, true, true, false, false, false, false] (fun q => [(43, .tuple #[q.1.1, goInt q.1.2]), (42, .slice (some ⟨q.2.1, 0, none⟩) 1 1)]) (fun q W1 => W1.heap[q.2.1]? = some (.cells #[.int .i64 (nx : Int)] 3 (0, 0)) ∧ W1.heap[M]? = some q.2.2 ∧ Kd.R KI 3 W1 base (fun b => OG b ∧ b ≠ M) q.1.1 (grpF d nx kk) ∧ KeepsOn (fun b => b ≠ M) w2 W1 ∧ Clo W1 base M OG (grpF d nx) kk q.1.1 q.1.2 q.2.2) ?_ ?_
        rotate_left
        · intro hCont
          have hMlt : M < w2.heap.size := by obtain ⟨es, cl, hm, _⟩ := hg0; exact blk_lt hm
          refine one_ (i := 9) (N := some 42) #[true, true, true, true, true, true, true, true, true, true, false, false, false, false, false] rfl rfl (by kernel_rfl) (by decide) (fun K hK => ?_)
          refine value_ (w1 := w2.drew.alloc (.cells #[.int .i64 (nx : Int)] 3 (0, 0))) (v := .slice (some ⟨w2.drew.heap.size, 0, none⟩) 1 1) (by rfl) rfl (by first | kernel_rfl | (go_simp; rfl)) ?_
          have hlit1 := blk_new w2.drew (.cells #[.int .i64 (nx : Int)] 3 (0, 0))
          have hq1 := hq0.trans (KeepsOn.alloc (fun q => q ≠ M) w2.drew (.cells #[.int .i64 (nx : Int)] 3 (0, 0)))
          refine hK.out _ _ (⟨cellK hq1 z4 hFM, cellK hq1 z5 hFM, cellK hq1 k0 hsM, cellK hq1 k1 hsM, cellK hq1 k2 hsM⟩) (fun hHeld => ?_)
          clear hK K
          refine norm_ (a' := ?_) ?_ ?_
          rotate_left
          · show Act.put _ (some 42) _ = _
            simp only [Act.put, List.setIfInBounds_toArray, List.set_cons_zero, List.set_cons_succ]
            rfl
          refine one_ (i := 10) (N := some 43) #[true, true, true, true, true, true, true, true, true, true, true, false, false, false, false] rfl rfl (by kernel_rfl) (by decide) (fun K hK => ?_)
          obtain ⟨v0, st, o1, hr, hR, hcl⟩ := (hgd.keep hoM (KeepsOn.alloc _ w2.drew (.cells #[.int .i64 (nx : Int)] 3 (0, 0)))).entry kk hky hoM
          refine value_ (w1 := setBlock (w2.drew.alloc (.cells #[.int .i64 (nx : Int)] 3 (0, 0))) M o1) (v := .tuple #[v0, goInt st]) (by rfl) rfl (exec_mapEntry rfl rfl rfl hr) ?_
          have hq2 := hq1.trans (keep_setBlock (S := fun q => q ≠ M) (w2.drew.alloc (.cells #[.int .i64 (nx : Int)] 3 (0, 0))) M o1 (fun h => h rfl))
          refine hK.out _ _ (⟨cellK hq2 z4 hFM, cellK hq2 z5 hFM, cellK hq2 k0 hsM, cellK hq2 k1 hsM, cellK hq2 k2 hsM⟩) (fun hHeld => ?_)
          refine norm_ (a' := ?_) ?_ ?_
          rotate_left
          · show Act.put _ (some 43) _ = _
            simp only [Act.put, List.setIfInBounds_toArray, List.set_cons_zero, List.set_cons_succ]
            rfl
          have hMl : M < (w2.drew.alloc (.cells #[.int .i64 (nx : Int)] 3 (0, 0))).heap.size := by rw [World.size_alloc]; exact Nat.lt_succ_of_lt hMlt
          exact norm_ (by simp only [putAll, Act.put, List.setIfInBounds_toArray, List.set_cons_zero, List.set_cons_succ]) (hCont ((v0, st), (w2.drew.heap.size, o1)) _ ⟨(World.putObj_heap_other (by have := hMlt; show w2.heap.size ≠ M; omega)).trans hlit1, World.putObj_heap_same hMl, Kd.R_step hR (fun b hb _ => World.putObj_heap_other hb.2), hq2, hcl.step (keep_setBlock _ M o1 (fun h => h.2.1 rfl))⟩)
        rintro ⟨⟨v0, st⟩, ⟨g, o1⟩⟩ w3 ⟨hlit, hM3, hR3, hq3, hcl⟩
        simp only at hlit hM3 hR3 hcl
        refine norm_ (a' := ?_) ?_ ?_
        rotate_left
        · simp only [putAll, Act.put, List.setIfInBounds_toArray, List.set_cons_zero, List.set_cons_succ]
          rfl
        refine pure_ (i := 11) (N := some 37) (v := v0) (a' := ?_) #[true, true, true, true, true, true, true, true, true, true, true, true, false, false, false] rfl rfl (by kernel_rfl) (fun _ _ _ h => h) (Or.inl ⟨by rfl, ?_⟩) ?_ ?_
        · intro w'
          rfl
        rotate_left
        · simp only [Act.put, List.setIfInBounds_toArray, List.set_cons_zero, List.set_cons_succ]
          rfl
        refine pure_ (i := 13) (N := some 45) (v := goInt st) (a' := ?_) #[true, true, true, true, true, true, true, true, true, true, true, true, false, true, false] rfl rfl (by kernel_rfl) (fun _ _ _ h => h) (Or.inl ⟨by rfl, ?_⟩) ?_ ?_
        · intro w'
          rfl
        rotate_left
        · simp only [Act.put, List.setIfInBounds_toArray, List.set_cons_zero, List.set_cons_succ]
          rfl
        refine one_ (i := 12) (N := some 44) #[true, true, true, true, true, true, true, true, true, true, true, true, true, true, false] rfl rfl (by kernel_rfl) (by decide) (fun K hK => ?_)
        refine Kd.R_append_rows_step KI (Rr := KI.K w3) (w0 := w3) base (by rfl) (.tmp 37) (.tmp 42) 36 3 (.int .i64 0) 8 rfl (by kernel_rfl) (by kernel_rfl) rfl (by decide) (by decide) v0 (grpF d nx kk) [(nx : Int)] (some ⟨g, 0, none⟩) 1 1 (fun b => OG b ∨ w3.heap.size ≤ b) (fun _ => False) rfl rfl (Kd.R_mono hR3 (fun b hb => .inl hb.1)) ?hrow (fun x cs h => h) (fun _ h => h.elim) (fun b hb => .inr hb) (Below.refl _ _) ?hbase ?hlen ?_
        case hrow => exact Go.Proofs.YtpndhoefmepfdaaDoor.TS.c_of_cells 1 rfl (by decide) (fun i => (blk_cell hlit i).trans (by simp))
        case hbase => exact Nat.le_trans (Nat.le_trans HF2.out.bF (Nat.le_of_lt (blk_lt HF2.out.hF))) hq3.size
        case hlen => have h1 := grpF_len d kk nx; have h2 := HT.out; have h4 := HBIG.out; omega
        intro v1 w4 hR4 hb4 hg4 hat4
        have nF : some F ≠ v0.ownBlock := Kd.R_ne hR3 (hq3.obj HF2.out.hF hFM) (by decide)
        have nS : some s ≠ v0.ownBlock := Kd.R_ne hR3 (hq3.obj HBK.out hsM) (by decide)
        have hq4 : KeepsOn (fun b => b ≠ M ∧ some b ≠ v0.ownBlock) w2 w4 := (hq3.mono fun k h _ => h.1).trans ((keeps_grown hg4).mono fun k h _ => h.2)
        refine hK.out _ _ ⟨cell_keeps hq4 z4 ⟨hFM, nF⟩, cell_keeps hq4 z5 ⟨hFM, nF⟩, cell_keeps hq4 k0 ⟨hsM, nS⟩, cell_keeps hq4 k1 ⟨hsM, nS⟩, cell_keeps hq4 k2 ⟨hsM, nS⟩⟩ (fun hHeld => ?_)
        clear hK K
        refine norm_ (a' := ?_) ?_ ?_
        rotate_left
        · show Act.put _ (some 44) _ = _
          simp only [Act.put, List.setIfInBounds_toArray, List.set_cons_zero, List.set_cons_succ]
          rfl
        refine one_ (i := 14) (N := none) #[true, true, true, true, true, true, true, true, true, true, true, true, true, true, true] rfl rfl (by kernel_rfl) (by decide) (fun K hK => ?_)
        have nM : some M ≠ v0.ownBlock := fun e => (hR3.1 M e.symm).2 rfl
        obtain ⟨o2, hrun, hgrp⟩ := hcl w4 (blk_grown hM3 hg4 nM) ((keeps_grown hg4).mono fun k h _ e => h.2.2 e.symm) (fun b => OG b ∨ w3.heap.size ≤ b) v1 _ (fun b hb => .inl hb) hR4 (hat4.imp id (fun ⟨b1, h1, h2⟩ b hb => by rw [h1] at hb; injection hb with hb; omega))
        refine skip_ (w1 := setBlock w4 M o2) (by rfl) rfl (exec_entryStore rfl rfl rfl rfl hrun) ?_
        have hq5 := hq4.trans (keep_setBlock (S := fun b => b ≠ M ∧ some b ≠ v0.ownBlock) w4 M o2 (fun h => h.1 rfl))
        refine hK.out _ _ ⟨cell_keeps hq5 z4 ⟨hFM, nF⟩, cell_keeps hq5 z5 ⟨hFM, nF⟩, cell_keeps hq5 k0 ⟨hsM, nS⟩, cell_keeps hq5 k1 ⟨hsM, nS⟩, cell_keeps hq5 k2 ⟨hsM, nS⟩⟩ (fun hHeld => ?_)
        clear hK K
        refine done_ (by kernel_rfl) ?_
        have hF5 := hq5.obj HF2.out.hF ⟨hFM, nF⟩
        obtain ⟨inn, hown⟩ := Kd.R_own HF2.out.hd
        obtain ⟨cs5, hA2⟩ := own_typed hown gA rfl
        have nAM : gA ≠ M := fun e => by
          obtain ⟨es, cl, hm, _⟩ := hg0
          rw [e, hm] at hA2
          cases hA2
        have nA : some gA ≠ v0.ownBlock := Kd.R_ne hR3 (hq3.obj hA2 nAM) (by decide)
        have hd5 : Kd.R (Kd.int .u8) 5 (setBlock w4 M o2) base (fun b => O' b ∨ w3.heap.size ≤ b) (.slice (some ⟨gA, 0, none⟩) d.length cA) d := by
          have hx : Kd.R (Kd.int .u8) 5 w2 base (fun b => b = gA) (.slice (some ⟨gA, 0, none⟩) d.length cA) d := Kd.R_of_own (Kd.own_of_R HF2.out.hd) (fun b hb => (Option.some.inj hb).symm)
          exact Kd.R_mono (Kd.R_step hx (fun b hb hl => by rw [hb]; exact hq5.block gA ⟨nAM, nA⟩ (by rw [← hb]; exact hl))) (fun b hb => .inl (HF2.out.hd.1 b (by rw [hb]; rfl)))
        have hFlt : F < w3.heap.size := Nat.lt_of_lt_of_le (blk_lt HF2.out.hF) hq3.size
        have hg5 : Grp (setBlock w4 M o2) base (fun b => (O' b ∨ w3.heap.size ≤ b) ∧ b ≠ F) M (grpF d (nx + 1)) := by
          rw [← grp_more (by rw [HN.out]; exact h3) hkk]
          exact hgrp.mono (fun b hb => by
            rw [HOG.out] at hb
            rcases hb with hb | hb
            · exact ⟨.inl hb.1, hb.2⟩
            · exact ⟨.inr hb, by omega⟩)
        have HF5 := Aside0.mk (Fnd.put HF2.out hF5 hd5 hg5 (fun b h => .inl h))
        have hsz : w.heap.size ≤ w3.heap.size := Nat.le_trans G3.out.size (Nat.le_trans HB2.out.size hq3.size)
        have HG1 := Aside0.mk (show ∀ k, (O' k ∨ w3.heap.size ≤ k) → O k ∨ w.heap.size ≤ k from fun k hk => hk.elim (G1.out k) (fun hk => .inr (Nat.le_trans hsz hk)))
        have hvO : ∀ k, ¬ O k → k < w.heap.size → k ≠ M ∧ some k ≠ v0.ownBlock := fun k hk hl => ⟨fun e => by
          subst e
          rcases G1.out k HF2.out.oM with h | h
          · exact hk h
          · omega, fun e => by
          have h1 := (hR3.1 k e.symm).1
          rw [HOG.out] at h1
          rcases G1.out k h1.1 with h | h
          · exact hk h
          · omega⟩
        have HK5 := Aside0.mk (((G3.out.seq (KeepsOn.of_below (S := fun _ => True) HB2.out (fun k _ h => h)) (fun _ _ _ => trivial)).seq hq5 hvO).seq (KeepsOn.setCell (S := fun k => ¬ O k) (setBlock w4 M o2) ⟨F, 5, none⟩ (.int .i64 ((nx : Int) + 1)) (fun h => HFO.out h)) (fun _ h _ => h))
        have z5' : (setBlock w4 M o2).cell? ⟨F, 5, none⟩ = some (.int .i64 (nx : Int)) := blk_cell hF5 5
        have f5' : (setBlock w4 M o2).frozen? ⟨F, 5, none⟩ = false := blk_frozen hF5 5
        have HW := Aside0.mk (show wrap64 ((nx : Int) + 1) = ((nx : Int) + 1) by have := HT.out; have := HBIG.out; unfold wrap64; omega)
        clear hHeld hq5 hgrp hrun hd5 hg5 hF5 hvO hcl hR3 hR4 hM3 hlit hq3 hq4 hat4 hg4 hb4 z4 z5 k0 k1 k2 cellK hg0
        generalize setBlock w4 M o2 = w5 at HF5 HK5 z5' f5' ⊢
        go_wp2
        go_roundg (d.length + 2 - (nx + 1))
        case measure => have := HT.out; have := HC.out; have := H0.out; omega
        case rel => exact ⟨nx + 1, fun b => O' b ∨ w3.heap.size ≤ b, rfl, ⟨by have := HT.out; have := HC.out; have := H0.out; omega⟩, by rw [HW.out]; exact HF5.out, HG1.out, fun k hk => .inl (G2.out k hk), by rw [HW.out]; exact HK5.out⟩
end Go.Proofs.YtpndhoefmepfdaaDoor.PSq
namespace Go.Proofs.YtpndhoefmepfdaaDoor.PSq
open Go.RowKit Go.Proofs.YtpndhoefmepfdaaDoorW.PrintWords Go.Proofs.YtpndhoefmepfdaaDoorW.PrintLast Go.Proofs.YtpndhoefmepfdaaDoorW.PrintMore
open Go.YtpndhoefmepfdaaDoor (KeepsOn)
set_option linter.unusedVariables false
attribute [local go_sem] max2_int min2_int max_two min_two
theorem exec_lookup {P : Program} {ρ : Operand → Value} {o : Oper} {w w1 : World} {t : TypeId} {m k : Operand} {mv kv v : Value} (ho : o.op = .lookup t m k false) (hm : ρ m = mv) (hk : ρ k = kv) (h : (Instr.lookup t mv kv false).run P w = .ok v w1) : (execOp ρ o).run P w = .ok (.value v) w1 := by
  simp [execOp, ho, hm, hk, h, Result.andThen]
set_option maxHeartbeats 16000000 in
set_option maxRecDepth 100000 in
theorem best_calls (base : Nat) (O : Nat → Prop) (F M gA cA : Nat) (d : List Int) (window chain : Int) (lazy : Bool) (next : Nat) (at_ ln ds : Int) (w : World) (h : Fnd w base O F M gA cA d window chain lazy next) (h0 : 0 ≤ at_ ∧ at_ ≤ (d.length : Int)) (hn : next ≤ d.length + 1) (hbig : d.length ≤ 16777216) (hby : ∀ x ∈ d, 0 ≤ x ∧ x ≤ 255)
    (hwc : 1 ≤ window ∧ window ≤ 32768 ∧ 0 ≤ chain ∧ chain ≤ 4096) (hb : bestF d window chain next at_ = some (ln, ds)) :
    Calls Tryd.prog 52 #[.pointer (some ⟨F, 0, none⟩), .int .i64 at_] w fun e w' => e = .returned (.tuple #[.int .i64 ln, .int .i64 ds]) ∧ ∃ O', Fnd w' base O' F M gA cA d window chain lazy (max next at_.toNat) ∧ (∀ k, O' k → O k ∨ w.heap.size ≤ k) ∧ (∀ k, O k → O' k) ∧ KeepsOn (fun k => ¬ O k) w w' := by
  have H0 := Aside0.mk h0
  have HBIG := Aside0.mk hbig
  have HBY := Aside0.mk hby
  have HWC := Aside0.mk hwc
  have HBF := Aside0.mk hb
  have HNX := Aside0.mk hn
  go_enter Tryd.func52, Tryd.ntmps52
  go_wp2_with fail
  go_at_call 58
  refine (upTo_calls base O F M gA cA d window chain lazy next at_ w h h0 h.oF hn hbig hby).mono ?_
  rintro e w1 ⟨⟨v, rfl⟩, O1, hf1, g1, g2, g3⟩
  have HF1 := Aside0.mk hf1
  have G1 := Aside0.mk g1
  have G2 := Aside0.mk g2
  have G3 := Aside0.mk g3
  have z0 : w1.cell? ⟨F, 0, none⟩ = some (.slice (some ⟨gA, 0, none⟩) d.length cA) := blk_cell hf1.hF 0
  obtain ⟨n, hn2⟩ : ∃ n, d.length = n := ⟨_, rfl⟩
  have HN := Aside0.mk hn2
  rw [hn2] at z0
  clear h h0 hn hbig hby hwc hb hf1 g1 g2 g3 hn2
  go_wp2_with fail
  have hC1 : Kd.C (Kd.int .u8) w1 (some ⟨gA, 0, none⟩) n d := by
    obtain ⟨A1, c1, e1, _, hc1⟩ := Kd.R_reads HF1.out.hd
    injection e1 with e1 _ _
    rw [e1, ← HN.out]
    exact hc1
  have hcap : n ≤ cA := by
    obtain ⟨A1, c1, e1, h1, _⟩ := Kd.R_reads HF1.out.hd
    injection e1 with _ _ e1
    have := HN.out
    omega
  have hthree := three_any (some ⟨gA, 0, none⟩) cA n d at_ w1 hC1 HN.out hcap H0.out.1 (by have := H0.out; have := HN.out; omega) (by have := HBIG.out; have := HN.out; omega)
  clear hC1 hcap
  go_at_call 59
  by_cases h3 : at_ + 3 ≤ (n : Int)
  rotate_left
  · rw [if_neg h3, decide_eq_false h3] at hthree
    refine hthree.mono ?_
    clear hthree
    rintro e w2 ⟨rfl, hb2⟩
    have HF2 := Aside0.mk (HF1.out.keep (KeepsOn.of_below hb2 (fun k _ h => h)))
    have hres : ln = 0 ∧ ds = 0 := by
      have := HBF.out
      unfold bestF at this
      rw [if_neg (by rw [HN.out]; exact h3)] at this
      simp only [Option.some.injEq, Prod.mk.injEq] at this
      exact ⟨this.1.symm, this.2.symm⟩
    obtain ⟨rfl, rfl⟩ := hres
    have HB2 := Aside0.mk hb2
    clear hb2 h3
    go_wp2_with (first
      | ((with_reducible refine gate_dst (N := 6) rfl ?_); refine box_event ?hg (N := 6) ?hd (cs := #[.int .u8 0, .int .u8 0, .int .u8 0]) (t := 107) ?hr ?_; (case hd => rfl); (case hg => rfl); (case hr => first | kernel_rfl | (go_simp; kernel_rfl)); intro ga hg w3 hbox hbb; have HB3 := Aside0.mk (below_step HB2.out hbb); have BK6 := Aside0.mk hbox; have GE6 := Aside0.mk ((by rw [hg]; exact below_size HB2.out) : w1.heap.size ≤ ga); clear hbox hbb hg)
      | (refine wpList_store_row (by rfl) 107 (.tmp 6) (.tmp 22) (by rfl) ga #[.int .u8 0, .int .u8 0, .int .u8 0] (by first | rfl | (go_simp; done) | (go_simp; rfl)) (by first | rfl | (go_simp; done) | (go_simp; rfl)) 107 _ BK6.out (by kernel_rfl) rfl (by simp [Value.oneCell']) ?_)
      | fail)
    go_ret2
    have hb4 := below_setRow HB3.out GE6.out #[.int .u8 0, .int .u8 0, .int .u8 0]
    exact ⟨rfl, O1, HF1.out.keep (KeepsOn.of_below hb4 (fun k _ h => h)), G1.out, G2.out, G3.out.seq (KeepsOn.of_below (S := fun _ => True) hb4 (fun k _ h => h)) (fun _ _ _ => trivial)⟩
  · rw [if_pos h3, decide_eq_true h3] at hthree
    obtain ⟨kk, hkk⟩ : ∃ kk, kAt d at_ = kk := ⟨_, rfl⟩
    rw [hkk] at hthree
    have HKK := Aside0.mk hkk
    clear hkk
    refine hthree.mono ?_
    clear hthree
    rintro e w2 ⟨rfl, hb2⟩
    have HB2 := Aside0.mk hb2
    clear hb2
    go_upto_region 3 with (first
      | ((with_reducible refine gate_dst (N := 6) rfl ?_); refine box_event ?hg (N := 6) ?hd (cs := #[.int .u8 0, .int .u8 0, .int .u8 0]) (t := 107) ?hr ?_; (case hd => rfl); (case hg => rfl); (case hr => first | kernel_rfl | (go_simp; kernel_rfl)); intro ga hg w3 hbox hbb; have HB3 := Aside0.mk (below_step HB2.out hbb); have BK6 := Aside0.mk hbox; have GE6 := Aside0.mk ((by rw [hg]; exact below_size HB2.out) : w1.heap.size ≤ ga); clear hbox hbb hg)
      | (refine wpList_store_row (by rfl) 107 (.tmp 6) (.tmp 22) (by rfl) ga #[.int .u8 kk.1, .int .u8 kk.2.1, .int .u8 kk.2.2] (by first | rfl | (go_simp; done) | (go_simp; rfl)) (by first | rfl | (go_simp; done) | (go_simp; rfl)) 107 _ BK6.out (by kernel_rfl) rfl (by simp [Value.oneCell']) ?_)
      | fail)
    have HB4 := Aside0.mk (below_setRow HB3.out GE6.out #[.int .u8 kk.1, .int .u8 kk.2.1, .int .u8 kk.2.2])
    have BK4 := Aside0.mk (setRow_heap w3 ga _ #[.int .u8 kk.1, .int .u8 kk.2.1, .int .u8 kk.2.2] 107 (0, 0) BK6.out)
    clear HB3 BK6 HB2
    generalize w3.setRow ga #[.int .u8 kk.1, .int .u8 kk.2.1, .int .u8 kk.2.2] = w4 at HB4 BK4 ⊢
    go_upto_region 5 with fail
    refine still_tail_drew 5 (by kernel_rfl) (by kernel_rfl) ?_
    have HB5 := Aside0.mk (below_step HB4.out (below_drew (Below.refl w4.heap.size _)))
    have BK5 := Aside0.mk (blk_drew BK4.out)
    generalize w4.drew = w5 at HB5 BK5 ⊢
    have HF5 := Aside0.mk (HF1.out.keep (KeepsOn.of_below HB5.out (fun k _ h => h)))
    have HK5 := Aside0.mk (G3.out.seq (KeepsOn.of_below (S := fun _ => True) HB5.out (fun k _ h => h)) (fun _ _ _ => trivial))
    clear HB4 BK4 z0
    have HDC := Aside0.mk (show Kd.C (Kd.int .u8) w5 (some ⟨gA, 0, none⟩) n d by
      obtain ⟨A1, c1, e1, _, hc1⟩ := Kd.R_reads HF5.out.hd
      injection e1 with e1 _ _
      rw [e1, ← HN.out]
      exact hc1)
    have z4 : w5.cell? ⟨F, 4, none⟩ = some (.map (some M)) := blk_cell HF5.out.hF 4
    have k0 : w5.cell? ⟨ga, 0, none⟩ = some (.int .u8 kk.1) := blk_cell BK5.out 0
    have k1 : w5.cell? ⟨ga, 1, none⟩ = some (.int .u8 kk.2.1) := blk_cell BK5.out 1
    have k2 : w5.cell? ⟨ga, 2, none⟩ = some (.int .u8 kk.2.2) := blk_cell BK5.out 2
    simp only [List.take_succ_cons, List.take_zero, List.drop_succ_cons, List.drop_zero]
    repeat still_step
    refine wpStill_nil ?_
    have hky : byte3 kk := HKK.out ▸ kAt_byte HBY.out _
    obtain ⟨vg, hlook, hvg⟩ := HF5.out.hg.look kk hky
    refine Kd.event_run (by rfl) (v := vg) (w1 := w5) (exec_lookup rfl rfl rfl hlook) ?_
    obtain ⟨l, hl⟩ : ∃ l, grpF d (max next at_.toNat) kk = l := ⟨_, rfl⟩
    rw [hl] at hvg
    obtain ⟨Ag, cg, rfl, hcg, hCg⟩ := Kd.R_reads hvg
    have HL := Aside0.mk (show l.length ≤ 16777217 ∧ ∀ x ∈ l, 0 ≤ x ∧ x + 3 ≤ (n : Int) from ⟨by rw [← hl]; have h1 := grpF_len d kk (max next at_.toNat); have h2 := H0.out; have h4 := HBIG.out; have h5 := HNX.out; omega, fun x hx => by rw [← hl] at hx; obtain ⟨a, _, b, _⟩ := grpF_mem d kk _ x hx; rw [HN.out] at b; exact ⟨a, b⟩⟩)
    have HBL := Aside0.mk (show bestLoop d at_ window l (l.length + 1) ((l.length : Int) - 1) chain 0 0 = some (ln, ds) by
      have := HBF.out
      unfold bestF at this
      rw [if_pos (by rw [HN.out]; exact h3), HKK.out, hl] at this
      exact this)
    have HCG := Aside0.mk hCg
    clear hlook hvg hl hky hcg hCg
    have zc : w5.cell? ⟨F, 2, none⟩ = some (.int .i64 chain) := blk_cell HF5.out.hF 2
    have zw : w5.cell? ⟨F, 1, none⟩ = some (.int .i64 window) := blk_cell HF5.out.hF 1
    obtain ⟨nl, hnl⟩ : ∃ nl, l.length = nl := ⟨_, rfl⟩
    have HNL := Aside0.mk hnl
    rw [hnl] at HBL ⊢
    have hw1 : wrap64 ((nl : Int) - 1) = (nl : Int) - 1 := by have := HL.out.1; unfold wrap64; omega
    clear hnl
    go_wp2
    go_quiet (fail)
    go_wp2
    clear z4 k0 k1 k2 zc
    have HEND := Aside0.mk (show ∀ q, ∃ O', Fnd (w5.drewN q) base O' F M gA cA d window chain lazy (max next at_.toNat) ∧ (∀ k, O' k → O k ∨ w.heap.size ≤ k) ∧ (∀ k, O k → O' k) ∧ KeepsOn (fun k => ¬ O k) w (w5.drewN q) from fun q => ⟨O1, HF5.out.keep (KeepsOn.drewN _ _ _), G1.out, G2.out, HK5.out.trans (KeepsOn.drewN _ _ _)⟩)
    go_loopg [4, 5, 9, 10] (nl + 1) (fun gk v4 v5 v9 v10 w' => ∃ (le di i lf : Int) (q : Nat), v4 = .int .i64 le ∧ v5 = .int .i64 di ∧ v9 = .int .i64 i ∧ v10 = .int .i64 lf ∧ Aside0 (-1 ≤ i ∧ i < (nl : Int) ∧ 0 ≤ lf ∧ lf ≤ 4096 ∧ bestLoop d at_ window l gk i lf le di = some (ln, ds)) ∧ w' = w5.drewN q)
    case atStart => exact ⟨0, 0, (nl : Int) - 1, chain, nq, rfl, rfl, (by rw [hw1]), rfl, ⟨⟨by omega, by omega, HWC.out.2.2.1, HWC.out.2.2.2, HBL.out⟩⟩, rfl⟩
    case round =>
      clear HBL hw1
      obtain ⟨le, di, i, lf, q, rfl, rfl, rfl, rfl, HT, rfl⟩ := hrel
      cases gk with
      | zero => have hh := HT.out.2.2.2.2; rw [bestLoop] at hh; cases hh
      | succ k1 =>
        by_cases c1 : 0 ≤ i
        rotate_left
        · have c1b : decide (0 ≤ i) = false := decide_eq_false c1
          have hT := HT.out.2.2.2.2
          rw [bestLoop, if_neg (fun hh => c1 hh.1)] at hT
          simp only [Option.some.injEq, Prod.mk.injEq] at hT
          obtain ⟨rfl, rfl⟩ := hT
          clear HT c1
          go_wp2
          go_quiet (fail)
          go_wp2
          go_ret2
          exact ⟨rfl, by rw [World.drewN_drewN]; exact HEND.out _⟩
        by_cases c2 : 0 < lf
        rotate_left
        · have c1b : decide (0 ≤ i) = true := decide_eq_true c1
          have c2b : decide (0 < lf) = false := decide_eq_false c2
          have hT := HT.out.2.2.2.2
          rw [bestLoop, if_neg (fun hh => c2 hh.2)] at hT
          simp only [Option.some.injEq, Prod.mk.injEq] at hT
          obtain ⟨rfl, rfl⟩ := hT
          clear HT c1 c2
          go_wp2
          go_quiet (fail)
          go_wp2
          go_ret2
          exact ⟨rfl, by rw [World.drewN_drewN]; exact HEND.out _⟩
        · have c1b : decide (0 ≤ i) = true := decide_eq_true c1
          have c2b : decide (0 < lf) = true := decide_eq_true c2
          have hT := HT.out.2.2.2.2
          rw [bestLoop, if_pos ⟨c1, c2⟩, if_pos (by rw [HNL.out]; exact HT.out.2.1)] at hT
          obtain ⟨ad, e1, y1⟩ := Kd.at_int HCG.out i c1 (by rw [HNL.out]; exact HT.out.2.1)
          subst e1
          obtain ⟨p, hp⟩ : ∃ p, rd l i = p := ⟨_, rfl⟩
          have hpb : 0 ≤ p ∧ p + 3 ≤ (n : Int) := by
            refine HL.out.2 p ?_
            rw [← hp]
            unfold rd
            rw [List.getD_eq_getElem?_getD, List.getElem?_eq_getElem (by have := HT.out.2.1; have := HNL.out; omega)]
            exact List.getElem_mem _
          rw [hp] at hT y1
          have HP := Aside0.mk hpb
          have hws : IntKind.i64.wrap (at_ - p) = at_ - p := IntWalk.i64_in _ (by have := H0.out; have := HBIG.out; have := HN.out; omega)
          have c4 : i < (nl : Int) := HT.out.2.1
          have hi1 : wrap64 (i - 1) = i - 1 := by have := HL.out.1; have := HNL.out; unfold wrap64; omega
          have hl1 : wrap64 (lf - 1) = lf - 1 := by have := HT.out; unfold wrap64; omega
          have hl2 : wrap64 (lf + 1) = lf + 1 := by have := HT.out; unfold wrap64; omega
          have HI1 := Aside0.mk hi1
          have HL1 := Aside0.mk hl1
          have HL2 := Aside0.mk hl2
          clear hp hpb hi1 hl1 hl2
          by_cases c3 : at_ - p ≤ window
          rotate_left
          · have c3b : decide (at_ - p ≤ window) = false := decide_eq_false c3
            rw [if_neg c3] at hT
            simp only [Option.some.injEq, Prod.mk.injEq] at hT
            obtain ⟨rfl, rfl⟩ := hT
            clear HT c2 c3
            go_wp2
            go_quiet (fail)
            go_wp2
            go_ret2
            exact ⟨rfl, by rw [World.drewN_drewN]; exact HEND.out _⟩
          · have c3b : decide (at_ - p ≤ window) = true := decide_eq_true c3
            rw [if_pos c3] at hT
            by_cases c5 : at_ ≤ p
            · have c5b : decide (at_ ≤ p) = true := decide_eq_true c5
              rw [if_pos c5] at hT
              have HT2 := Aside0.mk (show -1 ≤ i - 1 ∧ i - 1 < (nl : Int) ∧ 0 ≤ lf ∧ lf ≤ 4096 ∧ bestLoop d at_ window l k1 (i - 1) lf le di = some (ln, ds) from ⟨by omega, by omega, HT.out.2.2.1, HT.out.2.2.2.1, hT⟩)
              clear hT HT c2 c3 c5
              go_wp2
              go_quiet (fail)
              go_wp2
              go_roundg k1
              case measure => omega
              case rel => exact ⟨le, di, wrap64 (i - 1), wrap64 (wrap64 (lf + 1) - 1), _, rfl, rfl, (by first | rfl | (simp; done) | (simp [*]; done)), (by first | rfl | (simp; done) | (simp [*]; done)), ⟨by rw [HL2.out, HI1.out, show lf + 1 - 1 = lf by omega, show wrap64 lf = lf by have := HT2.out; unfold wrap64; omega]; exact HT2.out⟩, by first | rfl | rw [World.drewN_drewN]⟩
            · have c5b : decide (at_ ≤ p) = false := decide_eq_false c5
              rw [if_neg c5] at hT
              obtain ⟨m, hm, hT⟩ := Option.bind_eq_some_iff.1 hT
              have HM := Aside0.mk hm
              have HT3 := Aside0.mk hT
              have HT0 := Aside0.mk (show -1 ≤ i - 1 ∧ i - 1 < (nl : Int) ∧ 0 ≤ lf - 1 ∧ lf - 1 ≤ 4096 from ⟨by omega, by omega, by omega, by have := HT.out; omega⟩)
              clear hT HT hm c2 c3 c5
              go_wp2
              go_quiet (fail)
              go_wp2_with fail
              go_at_call 60
              have hrun := run_calls F (some ⟨gA, 0, none⟩) cA n M window chain ((max next at_.toNat : Nat) : Int) lazy d p at_ m (w5.drewN (q + nq)) (by have := HF5.out.hF; rw [HN.out] at this; exact this) (Kd.C_drewN HDC.out _) HN.out (by have := HBIG.out; have := HN.out; omega) (by have := HP.out; omega) (by have := H0.out; have := HN.out; omega) HM.out
              refine hrun.mono ?_
              clear hrun
              rintro e w6 ⟨rfl, ⟨q2, rfl⟩⟩
              by_cases c6 : le < m
              · have c6b : decide (le < m) = true := decide_eq_true c6
                have hT := HT3.out
                rw [if_pos c6] at hT
                by_cases c7 : m = 258
                · have c7b : (m == 258) = true := by simpa using c7
                  rw [if_pos c7] at hT
                  simp only [Option.some.injEq, Prod.mk.injEq] at hT
                  obtain ⟨rfl, rfl⟩ := hT
                  clear HT3 c6 c7
                  go_wp2
                  go_quiet (fail)
                  go_wp2
                  go_ret2
                  exact ⟨rfl, by first | exact HEND.out _ | (simp only [World.drewN_drewN]; exact HEND.out _)⟩
                · have c7b : (m == 258) = false := by simpa using c7
                  rw [if_neg c7] at hT
                  have HT2 := Aside0.mk (show -1 ≤ i - 1 ∧ i - 1 < (nl : Int) ∧ 0 ≤ lf - 1 ∧ lf - 1 ≤ 4096 ∧ bestLoop d at_ window l k1 (i - 1) (lf - 1) m (at_ - p) = some (ln, ds) from ⟨HT0.out.1, HT0.out.2.1, HT0.out.2.2.1, HT0.out.2.2.2, hT⟩)
                  clear HT3 c6 c7 hT
                  go_wp2
                  go_quiet (fail)
                  go_wp2
                  go_roundg k1
                  case measure => omega
                  case rel => exact ⟨m, at_ - p, wrap64 (i - 1), wrap64 (lf - 1), _, rfl, (by first | rfl | (simp; done) | (simp [*]; done)), rfl, rfl, ⟨by rw [HI1.out, HL1.out]; exact HT2.out⟩, by first | rfl | simp only [World.drewN_drewN]; rfl⟩
              · have c6b : decide (le < m) = false := decide_eq_false c6
                have hT := HT3.out
                rw [if_neg c6] at hT
                by_cases c7 : le = 258
                · have c7b : (le == 258) = true := by simpa using c7
                  rw [if_pos c7] at hT
                  simp only [Option.some.injEq, Prod.mk.injEq] at hT
                  obtain ⟨rfl, rfl⟩ := hT
                  clear HT3 c6 c7
                  go_wp2
                  go_ret2
                  exact ⟨rfl, by first | exact HEND.out _ | (simp only [World.drewN_drewN]; exact HEND.out _)⟩
                · have c7b : (le == 258) = false := by simpa using c7
                  rw [if_neg c7] at hT
                  have HT2 := Aside0.mk (show -1 ≤ i - 1 ∧ i - 1 < (nl : Int) ∧ 0 ≤ lf - 1 ∧ lf - 1 ≤ 4096 ∧ bestLoop d at_ window l k1 (i - 1) (lf - 1) le di = some (ln, ds) from ⟨HT0.out.1, HT0.out.2.1, HT0.out.2.2.1, HT0.out.2.2.2, hT⟩)
                  clear HT3 c6 c7 hT
                  go_wp2
                  go_roundg k1
                  case measure => omega
                  case rel => exact ⟨le, di, wrap64 (i - 1), wrap64 (lf - 1), _, rfl, rfl, rfl, rfl, ⟨by rw [HI1.out, HL1.out]; exact HT2.out⟩, by first | rfl | simp only [World.drewN_drewN]; rfl⟩
end Go.Proofs.YtpndhoefmepfdaaDoor.PSq
namespace Go.Proofs.YtpndhoefmepfdaaDoor.PSq
open Go.RowKit Go.Proofs.YtpndhoefmepfdaaDoorW.PrintWords Go.Proofs.YtpndhoefmepfdaaDoorW.PrintLast Go.Proofs.YtpndhoefmepfdaaDoorW.PrintMore
open Go.YtpndhoefmepfdaaDoor (KeepsOn)
set_option linter.unusedVariables false
set_option maxHeartbeats 4000000 in
set_option maxRecDepth 100000 in
theorem newFinder_calls (base : Nat) (O : Nat → Prop) (gA cA : Nat) (d : List Int) (window chain : Int) (lazy : Bool) (w : World) (hd : Kd.R (Kd.int .u8) 5 w base O (.slice (some ⟨gA, 0, none⟩) d.length cA) d) (hbase : base ≤ w.heap.size) :
    Calls Tryd.prog 51 #[.slice (some ⟨gA, 0, none⟩) d.length cA, .agg #[.int .i64 window, .int .i64 chain, .bool lazy]] w fun e w' => ∃ (F M : Nat) (O' : Nat → Prop), e = .returned (.pointer (some ⟨F, 0, none⟩)) ∧ Fnd w' base O' F M gA cA d window chain lazy 0 ∧ (∀ k, O' k → O k ∨ w.heap.size ≤ k) ∧ (∀ k, O k → O' k) ∧ Below w.heap.size w w' := by
  have HD := Aside0.mk hd
  have HB := Aside0.mk hbase
  obtain ⟨n, hn⟩ : ∃ n, d.length = n := ⟨_, rfl⟩
  have HN := Aside0.mk hn
  rw [hn]
  clear hd hbase hn
  have hmm := @run_makeMap Tryd.prog
  go_enter Tryd.func51, Tryd.ntmps51
  go_wp2
  refine bodyPost_ret (results_tmp rfl _ _ _) rfl ?_
  obtain ⟨w1, hw1⟩ : ∃ w1, w.alloc (.cells #[.int .i64 window, .int .i64 chain, .bool lazy] 23 (0, 0)) = w1 := ⟨_, rfl⟩
  have s1 : w1.heap.size = w.heap.size + 1 := by rw [← hw1]; simp
  have b1 : Below w.heap.size w w1 := by rw [← hw1]; exact below_alloc (Below.refl _ _) _
  rw [hw1, ← s1]
  have b2 : Below w.heap.size w (w1.alloc (.map #[] 0)) := below_alloc b1 _
  have s2 : (w1.alloc (.map #[] 0)).heap.size = w1.heap.size + 1 := by simp
  have hg : ∀ O2 : Nat → Prop, Grp (w1.alloc (.map #[] 0)) base O2 w1.heap.size (grpF d 0) := fun O2 => Grp.made w1 base O2
  refine ⟨_, w1.heap.size, fun k => O k ∨ k = w1.heap.size + 1 ∨ k = w1.heap.size, rfl, ⟨?_, ?_, (hg _).keep ⟨.inr (.inr rfl), by omega⟩ (KeepsOn.alloc _ _ _), .inr (.inl rfl), .inr (.inr rfl), ?_, ?_, by omega⟩, ?_, fun k hk => .inl hk, below_alloc b2 _⟩
  · rw [← s2, HN.out]
    exact blk_new _ _
  · exact Kd.R_mono (Kd.R_below HD.out (below_alloc b2 _)) (fun k hk => .inl hk)
  · have := HB.out; omega
  · have := HB.out; omega
  · rintro k (hk | rfl | rfl)
    · exact .inl hk
    · exact .inr (by omega)
    · exact .inr (by omega)
set_option maxHeartbeats 4000000 in
set_option maxRecDepth 100000 in
theorem fine_calls (window chain : Int) (lazy : Bool) (w : World) (h : 1 ≤ window ∧ window ≤ 32768 ∧ 0 ≤ chain ∧ chain ≤ 4096) :
    Calls Tryd.prog 43 #[.agg #[.int .i64 window, .int .i64 chain, .bool lazy]] w fun e w' => e = .returned (.bool true) ∧ Below w.heap.size w w' := by
  have a1 : decide (1 ≤ window) = true := decide_eq_true h.1
  have a2 : decide (window ≤ 32768) = true := decide_eq_true h.2.1
  have a3 : decide (0 ≤ chain) = true := decide_eq_true h.2.2.1
  have a4 : decide (chain ≤ 4096) = true := decide_eq_true h.2.2.2
  go_enter Tryd.func43, Tryd.ntmps43
  go_wp2
  refine bodyPost_ret (results_tmp rfl _ _ _) rfl ?_
  exact ⟨rfl, below_alloc (Below.refl _ _) _⟩
end Go.Proofs.YtpndhoefmepfdaaDoor.PSq
namespace Go.Proofs.YtpndhoefmepfdaaDoor.PSq
open Go.RowKit Go.Proofs.YtpndhoefmepfdaaDoorW.PrintWords Go.Proofs.YtpndhoefmepfdaaDoorW.PrintLast Go.Proofs.YtpndhoefmepfdaaDoorW.PrintMore
open Go.YtpndhoefmepfdaaDoor (KeepsOn)
open Go.Proofs.YtpndhoefmepfdaaDoor.More (R_copyF size_of_info flat_int)
set_option linter.unusedVariables false
theorem R_heads' {α : Type} {d : Kd α} {e base : Nat} {ok : Nat → Prop} {W : World} {v : Value} {xs : List α} (h : d.R e W base ok v xs) (hb : ∃ b, v.ownBlock = some b ∧ W.heap.size = W.heap.size) : ∃ g c, v = .slice (some ⟨g, 0, none⟩) xs.length c := by
  obtain ⟨_, inner, ho, _⟩ := h
  rcases ho.2 with ⟨rfl, _⟩ | ⟨g, cap, cur, rfl, _⟩
  · obtain ⟨b, hb, _⟩ := hb
    simp [Value.ownBlock] at hb
  · exact ⟨g, cap, rfl⟩
set_option maxHeartbeats 4000000 in
set_option maxRecDepth 100000 in
theorem each_calls (A0 : Option Addr) (c0 : Nat) (d : List Int) (window chain : Int) (lazy : Bool) (w : World) (hd : Kd.C (Kd.int .u8) w A0 d.length d) (hbig : d.length ≤ 16777216) (h : 1 ≤ window ∧ window ≤ 32768 ∧ 0 ≤ chain ∧ chain ≤ 4096) :
    Calls Tryd.prog 44 #[.slice A0 d.length c0, .agg #[.int .i64 window, .int .i64 chain, .bool lazy]] w fun e w' => ∃ (Bo Be gA cA : Nat), e = .returned (.func (.func 50) #[] #[.pointer (some ⟨Bo, 0, none⟩), .pointer (some ⟨Be, 0, none⟩)]) ∧
      w'.heap[Bo]? = some (.cells #[.slice (some ⟨gA, 0, none⟩) d.length cA] 44 (0, 0)) ∧ w'.heap[Be]? = some (.cells #[.int .i64 window, .int .i64 chain, .bool lazy] 23 (0, 0)) ∧ w.heap.size ≤ Bo ∧ w.heap.size ≤ Be ∧
      Kd.R (Kd.int .u8) 5 w' w.heap.size (fun k => k = gA) (.slice (some ⟨gA, 0, none⟩) d.length cA) d ∧ Below w.heap.size w w' := by
  have HD := Aside0.mk hd
  have HW := Aside0.mk h
  have HBIG := Aside0.mk hbig
  obtain ⟨n, hn⟩ : ∃ n, d.length = n := ⟨_, rfl⟩
  have HN := Aside0.mk hn
  rw [hn]
  have a0 : decide (16777216 < (n : Int)) = false := decide_eq_false (by omega)
  have HB := Aside0.mk (Below.refl w.heap.size w)
  clear hd h hbig hn
  go_enter Tryd.func44, Tryd.ntmps44
  go_wp2_with (first
    | ((with_reducible refine gate_dst (N := 3) rfl ?_); refine box_event ?hg (N := 3) ?hd (cs := #[.int .i64 window, .int .i64 chain, .bool lazy]) (t := 23) ?hr ?_; (case hd => rfl); (case hg => rfl); (case hr => first | kernel_rfl | (go_simp; kernel_rfl)); intro gb hg w1 hbox hbb; have HB1 := Aside0.mk (below_step HB.out hbb); have BK3 := Aside0.mk hbox; have GE3 := Aside0.mk ((by rw [hg]; exact below_size HB.out) : w.heap.size ≤ gb); have e0 : w1.cell? ⟨gb, 0, none⟩ = some (.int .i64 window) := blk_cell hbox 0; have e1 : w1.cell? ⟨gb, 1, none⟩ = some (.int .i64 chain) := blk_cell hbox 1; have e2 : w1.cell? ⟨gb, 2, none⟩ = some (.bool lazy) := blk_cell hbox 2; clear HB hbox hbb hg)
    | fail)
  go_at_call 43
  refine (fine_calls window chain lazy w1 HW.out).mono ?_
  rintro e w2 ⟨rfl, hb2⟩
  have HB2 := Aside0.mk (below_step HB1.out hb2)
  have BK2 := Aside0.mk (blk_below BK3.out hb2)
  clear e0 e1 e2 BK3 HB1 hb2
  go_upto_region 4 with (first
    | ((with_reducible refine gate_dst (N := 16) rfl ?_); refine Kd.R_make (Kd.int .u8) w.heap.size 5 rfl (N := 16) rfl 44 _ _ rfl (n : Int) rfl rfl Tryd.underlying44 (.int .u8 0) 1 info5 rfl (by decide) (by omega) 0 (w0 := w) (ok := fun _ => True) (okp := fun _ => True) rfl (fun _ hk => hk) trivial (by omega) (by have := HBIG.out; have := HN.out; omega) HB2.out (below_size HB2.out) ?_; intro v5 w4 ho5 hb hg_ hnew_; have HO5 := Aside0.mk ho5; have HB4 := Aside0.mk hb; have BK4 := Aside0.mk (blk_grown BK2.out hg_ (by simp)); obtain ⟨gA, cA, hvA⟩ := R_heads' ho5 ⟨_, hnew_.choose_spec.1, rfl⟩; rw [List.length_replicate, Int.toNat_natCast] at hvA; subst hvA; clear ho5 hb hg_ hnew_ BK2 HB2)
    | ((with_reducible refine gate_dst (N := 5) rfl ?_); refine box_event ?hg (N := 5) ?hd (cs := #[.slice none 0 0]) (t := 44) ?hr ?_; (case hd => rfl); (case hg => rfl); (case hr => first | kernel_rfl | (go_simp; kernel_rfl)); intro go hg w5 hbox hbb; have HB5 := Aside0.mk (below_step HB4.out hbb); have BK5 := Aside0.mk (blk_below BK4.out hbb); have HO6 := Aside0.mk (Kd.R_below HO5.out hbb); have BKO := Aside0.mk hbox; have GO := Aside0.mk ((by rw [hg]; exact below_size HB4.out) : w.heap.size ≤ go); have NOB := Aside0.mk ((by rw [hg]; exact fun e => by have := blk_lt BK4.out; omega) : gb ≠ go); have o0 : w5.cell? ⟨go, 0, none⟩ = some (.slice none 0 0) := blk_cell hbox 0; have f0 : w5.frozen? ⟨go, 0, none⟩ = false := blk_frozen hbox 0; clear HB4 BK4 HO5 hbox hbb hg)
    | ((with_reducible refine gate_builtin (b := .copy) (xs := #[.tmp 17, .tmp 18]) rfl ?_); fail)
    | fail)
  have HB6 := Aside0.mk (below_set (j := 0) (v := .slice (some ⟨gA, 0, none⟩) n cA) HB5.out GO.out)
  have BK6 := Aside0.mk (blk_far (p := ⟨go, 0, none⟩) BK5.out NOB.out (.slice (some ⟨gA, 0, none⟩) n cA))
  have HO7 := Aside0.mk (Kd.R_set HO6.out BKO.out (fun q hq => by rcases List.mem_cons.1 hq with rfl | h; decide; cases h) 0 (.slice (some ⟨gA, 0, none⟩) n cA))
  have BO6 := Aside0.mk (blk_put (cs' := #[.slice (some ⟨gA, 0, none⟩) n cA]) BKO.out 0 (.slice (some ⟨gA, 0, none⟩) n cA) rfl)
  clear HB5 BK5 HO6 BKO o0 f0
  generalize w5.setCell ⟨go, 0, none⟩ (.slice (some ⟨gA, 0, none⟩) n cA) = w6 at HB6 BK6 HO7 BO6 ⊢
  have o1 : w6.cell? ⟨go, 0, none⟩ = some (.slice (some ⟨gA, 0, none⟩) n cA) := blk_cell BO6.out 0
  have HC6 := Aside0.mk (show Kd.C (Kd.int .u8) w6 A0 n d by have := Kd.C_below HD.out HB6.out; rwa [HN.out] at this)
  have hrep : (List.replicate ((n : Int)).toNat (0 : Int)).length = n := by rw [List.length_replicate, Int.toNat_natCast]
  have hwhole : d.take (min n (List.replicate ((n : Int)).toNat (0 : Int)).length) ++ (List.replicate ((n : Int)).toNat (0 : Int)).drop (min n (List.replicate ((n : Int)).toNat (0 : Int)).length) = d := by
    rw [hrep, Nat.min_self, List.take_of_length_le (by have := HN.out; omega), List.drop_of_length_le (by rw [hrep]; exact Nat.le_refl _), List.append_nil]
  go_wp2_with (first
    | ((with_reducible refine gate_builtin (b := .copy) (xs := #[.tmp 17, .tmp 18]) rfl ?_); refine R_copyF (P := Tryd.prog) (Kd.int .u8) (flat_int .u8) (w0 := w) w.heap.size rfl (.tmp 17) (.tmp 18) 44 44 rfl Tryd.underlying44 (size_of_info info5) (by decide) (.slice (some ⟨gA, 0, none⟩) n cA) (List.replicate ((n : Int)).toNat 0) d A0 n c0 (fun _ => True) rfl rfl HO7.out HC6.out HB6.out (below_size HB6.out) ?_; intro w7 ho hb hgr; rw [hwhole] at ho; have HO8 := Aside0.mk ho; have HB8 := Aside0.mk hb; have BK8 := Aside0.mk (blk_grown BK6.out hgr (Kd.R_ne HO7.out BK6.out (by decide))); have BO8 := Aside0.mk (blk_grown BO6.out hgr (Kd.R_ne HO7.out BO6.out (by decide))); clear ho hb hgr)
    | fail)
  refine bodyPost_ret (results_tmp rfl _ _ _) rfl ?_
  exact ⟨go, gb, gA, cA, rfl, BO8.out, BK8.out, GO.out, GE3.out, Kd.R_of_own (Kd.own_of_R HO8.out) (fun b hb => (Option.some.inj hb).symm), HB8.out⟩
end Go.Proofs.YtpndhoefmepfdaaDoor.PSq
