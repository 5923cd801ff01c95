/- match: what best and Each compute, plainly. -/
import Derived.Test.YtpndhoefmepfdaaDoorCheapReach
namespace Go.Proofs.YtpndhoefmepfdaaDoor.PSq
open Go.RowKit Go.Proofs.YtpndhoefmepfdaaDoorW.PrintWords Go.Proofs.YtpndhoefmepfdaaDoorW.PrintLast Go.Proofs.YtpndhoefmepfdaaDoorW.PrintMore
set_option linter.unusedVariables false
abbrev K3 := Int × Int × Int
def kAt (d : List Int) (p : Int) : K3 := (rd d p, rd d (p + 1), rd d (p + 2))
/-- Where a three stands, ahead of a place, rising. -/
def grpF (d : List Int) : Nat → K3 → List Int
  | 0, _ => []
  | p + 1, k => if (p : Int) + 3 ≤ (d.length : Int) ∧ kAt d (p : Int) = k then grpF d p k ++ [(p : Int)] else grpF d p k
theorem grpF_mem (d : List Int) (k : K3) : ∀ (p : Nat), ∀ x ∈ grpF d p k, 0 ≤ x ∧ x < (p : Int) ∧ x + 3 ≤ (d.length : Int) ∧ kAt d x = k := by
  intro p
  induction p with
  | zero => intro x hx; cases hx
  | succ p ih =>
    intro x hx
    rw [grpF] at hx
    split at hx
    · rename_i h
      rcases List.mem_append.1 hx with hx | hx
      · obtain ⟨a, b, c, e⟩ := ih x hx
        exact ⟨a, by omega, c, e⟩
      · rw [List.mem_singleton] at hx
        subst hx
        exact ⟨by omega, by omega, h.1, h.2⟩
    · obtain ⟨a, b, c, e⟩ := ih x hx
      exact ⟨a, by omega, c, e⟩
theorem grpF_len (d : List Int) (k : K3) : ∀ (p : Nat), (grpF d p k).length ≤ p := by
  intro p
  induction p with
  | zero => exact Nat.le_refl _
  | succ p ih =>
    rw [grpF]
    split
    · rw [List.length_append, List.length_singleton]; omega
    · omega
def runLoop (d : List Int) (j i most : Int) : Nat → Int → Option Int
  | 0, _ => none
  | f + 1, n => if n < most then (if 0 ≤ j + n ∧ j + n < (d.length : Int) ∧ 0 ≤ i + n ∧ i + n < (d.length : Int) then (if rd d (j + n) = rd d (i + n) then runLoop d j i most f (n + 1) else some n) else none) else some n
def mostF (d : List Int) (i : Int) : Int := if (d.length : Int) - i < 258 then (d.length : Int) - i else 258
def runF (d : List Int) (j i : Int) : Option Int := runLoop d j i (mostF d i) 260 0
def bestLoop (d : List Int) (at_ window : Int) (l : List Int) : Nat → Int → Int → Int → Int → Option (Int × Int)
  | 0, _, _, _, _ => none
  | f + 1, i, left, len, dist =>
    if 0 ≤ i ∧ 0 < left then
      (if i < (l.length : Int) then
        (if at_ - rd l i ≤ window then
          (if at_ ≤ rd l i then bestLoop d at_ window l f (i - 1) left len dist
           else (runF d (rd l i) at_).bind fun n =>
             if len < n then (if n = 258 then some (n, at_ - rd l i) else bestLoop d at_ window l f (i - 1) (left - 1) n (at_ - rd l i))
             else (if len = 258 then some (len, dist) else bestLoop d at_ window l f (i - 1) (left - 1) len dist))
         else some (len, dist))
       else none)
    else some (len, dist)
def bestF (d : List Int) (window chain : Int) (next : Nat) (at_ : Int) : Option (Int × Int) :=
  if at_ + 3 ≤ (d.length : Int) then
    bestLoop d at_ window (grpF d (max next at_.toNat) (kAt d at_)) ((grpF d (max next at_.toNat) (kAt d at_)).length + 1) (((grpF d (max next at_.toNat) (kAt d at_)).length : Int) - 1) chain 0 0
  else some (0, 0)
/-- The best copy at a place, asked or known; what is then seen. -/
def askF (d : List Int) (window chain at_ known len dist : Int) (next : Nat) : Option ((Int × Int) × Nat) :=
  if known = at_ then some ((len, dist), next) else (bestF d window chain next at_).map fun r => (r, max next at_.toNat)
/-- The best copy one place on, where it is asked for and longer. -/
def lazyF (d : List Int) (window chain : Int) (lazy : Bool) (at_ len : Int) (next : Nat) : Option (Option (Int × Int) × Nat) :=
  if 0 < len ∧ lazy = true ∧ at_ + 1 < (d.length : Int) then
    (bestF d window chain next (at_ + 1)).map fun r => (if len < r.1 then some r else none, max next (at_ + 1).toNat)
  else some (none, next)
def eachF (d : List Int) (window chain : Int) (lazy : Bool) : Nat → Int → Int → Int → Int → Nat → Option (List S56)
  | 0, _, _, _, _, _ => none
  | f + 1, at_, known, len, dist, next =>
    if at_ < (d.length : Int) then
      (askF d window chain at_ known len dist next).bind fun s1 =>
      (lazyF d window chain lazy at_ s1.1.1 s1.2).bind fun s2 =>
      match s2.1 with
      | some r => (eachF d window chain lazy f (at_ + 1) (at_ + 1) r.1 r.2 s2.2).map (⟨0, 0, rd d at_⟩ :: ·)
      | none =>
        if s1.1.1 = 0 then (eachF d window chain lazy f (at_ + 1) known s1.1.1 s1.1.2 s2.2).map (⟨0, 0, rd d at_⟩ :: ·)
        else (eachF d window chain lazy f (at_ + s1.1.1) known s1.1.1 s1.1.2 s2.2).map (⟨s1.1.1, s1.1.2, 0⟩ :: ·)
    else some []
def tokensF (d : List Int) (window chain : Int) (lazy : Bool) : Option (List S56) := eachF d window chain lazy (d.length + 1) 0 (-1) 0 0 0
end Go.Proofs.YtpndhoefmepfdaaDoor.PSq
