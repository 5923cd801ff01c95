/- squeeze.Cheapest as plain functions: reaches, place, the row. No memory here. -/
import Derived.Test.YtpndhoefmepfdaaDoorCheapState
namespace Go.Proofs.YtpndhoefmepfdaaDoor.PSq
open Go.RowKit Go.Proofs.YtpndhoefmepfdaaDoorW.PrintWords Go.Proofs.YtpndhoefmepfdaaDoorW.PrintLast Go.Proofs.YtpndhoefmepfdaaDoorW.PrintMore
set_option linter.unusedVariables false
def better (a b : Int × Int) : Bool := if a.2 > 0 then (if b.2 = 0 then true else if a.1 < b.1 then true else if a.1 = b.1 then decide (a.2 < b.2) else false) else false
theorem better_eq (a b : Int × Int) : squeeze_reach_better.f a.1 a.2 b.1 b.2 = some (better a b) := by
  unfold squeeze_reach_better.f better
  repeat' split
  all_goals rfl
def capped (u : Int) : Int := if 258 < u then 258 else u
/-- All distances from d on, n of them: the runs and the reaches. -/
def reachLoop (data D : List Int) (i : Int) : Nat → Int → List Int → (Int → Int × Int) → Option (List Int × (Int → Int × Int))
  | 0, _, U, b => some (U, b)
  | n + 1, d, U, b =>
    if i < d then reachLoop data D i n (d + 1) (U.set d.toNat 0) b
    else if rd data (i - d) = rd data i then
      (if 0 ≤ capped (wrap64 (rd U d + 1)) then
        reachLoop data D i n (d + 1) (U.set d.toNat (wrap64 (rd U d + 1))) (if better (rd D d, d) (b (capped (wrap64 (rd U d + 1)))) = true then updI b (capped (wrap64 (rd U d + 1))) (rd D d, d) else b)
      else none)
    else reachLoop data D i n (d + 1) (U.set d.toNat 0) b
/-- From the greatest length down: the better of a length and the next. -/
def downLoop : Nat → Int → (Int → Int × Int) → (Int → Int × Int)
  | 0, _, b => b
  | n + 1, m, b => downLoop n (m - 1) (if better (b (m + 1)) (b m) = true then updI b m (b (m + 1)) else b)
/-- reaches: the runs behind it, and the reaches by length. -/
def reachesF (data D U : List Int) (i : Int) : Option (List Int × (Int → Int × Int)) :=
  (reachLoop data D i (U.length - 1) 1 U (fun _ => (0, 0))).map fun s => (s.1, downLoop 255 257 s.2)
theorem reachLoop_len (data D : List Int) (i : Int) : ∀ (n : Nat) (d : Int) (U : List Int) (b : Int → Int × Int) (r : List Int × (Int → Int × Int)), reachLoop data D i n d U b = some r → r.1.length = U.length := by
  intro n
  induction n with
  | zero =>
    intro d U b r h
    rw [reachLoop] at h
    obtain rfl := Option.some.inj h
    rfl
  | succ n ih =>
    intro d U b r h
    rw [reachLoop] at h
    split at h
    · rw [ih _ _ _ _ h, List.length_set]
    · split at h
      · split at h
        · rw [ih _ _ _ _ h, List.length_set]
        · cases h
      · rw [ih _ _ _ _ h, List.length_set]
/-- The lengths at a place, from m on. -/
def placeLoop (L : Int → Int) (b : Int → Int × Int) (i : Int) : Nat → Int → List Int → List S56 → Option (List Int × List S56)
  | 0, _, _, _ => none
  | n + 1, m, R, T =>
    if m ≤ 258 then (if 0 < (b m).2 then
      (if i + m < (R.length : Int) then
        (if wrap64 (wrap64 (L m + (b m).1) + rd R (i + m)) ≤ rd R i then placeLoop L b i n (m + 1) (R.set i.toNat (wrap64 (wrap64 (L m + (b m).1) + rd R (i + m)))) (T.set i.toNat ⟨m, (b m).2, 0⟩)
        else placeLoop L b i n (m + 1) R T)
      else none)
    else some (R, T))
    else some (R, T)
/-- place: runs, rest and steps behind it. -/
def placeF (lit data D : List Int) (L : Int → Int) (i : Int) (U R : List Int) (T : List S56) : Option (List Int × List Int × List S56) :=
  (reachesF data D U i).bind fun s => (placeLoop L s.2 i 257 3 (R.set i.toNat (wrap64 (rd lit (rd data i) + rd R (i + 1)))) (T.set i.toNat ⟨0, 0, rd data i⟩)).map fun q => (s.1, q.1, q.2)
/-- All places from the last one back, n of them are left. -/
def placesF (lit data D : List Int) (L : Int → Int) : Nat → List Int → List Int → List S56 → Option (List Int × List Int × List S56)
  | 0, U, R, T => some (U, R, T)
  | n + 1, U, R, T => (placeF lit data D L (n : Int) U R T).bind fun s => placesF lit data D L n s.1 s.2.1 s.2.2
/-- The row of steps from a place on. -/
def rowF (T : List S56) : Nat → Int → List S56 → Option (List S56)
  | 0, _, _ => none
  | n + 1, i, l => if i < (T.length : Int) then (if 0 ≤ i then rowF T n (wrap64 (i + mx 1 (rd_T56 T i).f0)) (l ++ [rd_T56 T i]) else none) else some l
end Go.Proofs.YtpndhoefmepfdaaDoor.PSq
