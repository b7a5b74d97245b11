/-
  THE PLAIN LAW OF THE PRUNED SEARCH: a search through all orders that leaves a beginning aside whose cost is already not below the best one gives the same best order, and the same least cost, as the search through all orders.
-/
import Derived.Test.YtfjkmocjlmcjdaaPr11
namespace Go.Proofs.Ytfjkmocjlmcjdaa
/-- what a search has found: the best order so far, and its cost -/
abbrev Fnd := Option (List Int × Int)
def updF (cost : List Int → Int) (o : List Int) : Fnd → Fnd
  | none => some (o, cost o)
  | some (b, m) => if cost o < m then some (o, cost o) else some (b, m)
/-- a round through the numbers from j on: k of them -/
def roundF (next : List Int → Fnd → Fnd) (o : List Int) : Nat → Int → Fnd → Fnd
  | 0, _, s => s
  | k + 1, j, s => roundF next o k (j + 1) (if j ∈ o then s else next (o ++ [j]) s)
/-- all orders of n numbers -/
def allF (cost : List Int → Int) (n : Nat) : Nat → List Int → Fnd → Fnd
  | 0, _, s => s
  | f + 1, o, s => roundF (allF cost n f) o n 0 (if o.length < n then s else updF cost o s)
/-- the pruned search -/
def bestF (cost : List Int → Int) (n : Nat) : Nat → List Int → Fnd → Fnd
  | 0, _, s => s
  | f + 1, o, s =>
    match s with
    | some (b, m) => if m ≤ cost o then some (b, m) else if o.length = n then some (o, cost o) else roundF (bestF cost n f) o n 0 (some (b, m))
    | none => if o.length = n then some (o, cost o) else roundF (bestF cost n f) o n 0 none
theorem roundF_same {next : List Int → Fnd → Fnd} {o : List Int} {s : Fnd} (h : ∀ j, next (o ++ [j]) s = s) : ∀ (k : Nat) (j : Int), roundF next o k j s = s
  | 0, _ => rfl
  | k + 1, j => by
    rw [roundF]
    split
    · exact roundF_same h k (j + 1)
    · rw [h j]; exact roundF_same h k (j + 1)
theorem roundF_congr {f g : List Int → Fnd → Fnd} {o : List Int} (h : ∀ j s, f (o ++ [j]) s = g (o ++ [j]) s) : ∀ (k : Nat) (j : Int) (s : Fnd), roundF f o k j s = roundF g o k j s
  | 0, _, _ => rfl
  | k + 1, j, s => by
    rw [roundF, roundF, h j s]
    exact roundF_congr h k (j + 1) _
/-- behind a beginning that costs no less than the best one nothing changes -/
theorem allF_done {cost : List Int → Int} {n : Nat} (hc : ∀ o i, cost o ≤ cost (o ++ [i])) : ∀ (f : Nat) (o b : List Int) (m : Int), m ≤ cost o → allF cost n f o (some (b, m)) = some (b, m)
  | 0, _, _, _, _ => rfl
  | f + 1, o, b, m, h => by
    have h1 : (if o.length < n then some (b, m) else updF cost o (some (b, m))) = some (b, m) := by
      split
      · rfl
      · rw [updF, if_neg (by omega)]
    rw [allF, h1]
    exact roundF_same (fun j => allF_done hc f _ b m (by have := hc o j; omega)) n 0
theorem bestF_all {cost : List Int → Int} {n : Nat} (hc : ∀ o i, cost o ≤ cost (o ++ [i])) : ∀ (f : Nat) (o : List Int) (s : Fnd), o.length ≤ n → bestF cost n f o s = allF cost n f o s
  | 0, _, _, _ => rfl
  | f + 1, o, s, hl => by
    have hfull : o.length = n → allF cost n (f + 1) o none = some (o, cost o) ∧ ∀ b m, cost o < m → allF cost n (f + 1) o (some (b, m)) = some (o, cost o) := by
      intro hn
      have hr : roundF (allF cost n f) o n 0 (some (o, cost o)) = some (o, cost o) := roundF_same (fun j => allF_done hc f _ o (cost o) (hc o j)) n 0
      refine ⟨?_, fun b m hm => ?_⟩
      · rw [allF, if_neg (by omega), updF]; exact hr
      · rw [allF, if_neg (by omega), updF, if_pos hm]; exact hr
    have hpart : o.length ≠ n → ∀ s, roundF (bestF cost n f) o n 0 s = allF cost n (f + 1) o s := by
      intro hn s
      rw [allF, if_pos (by omega)]
      exact roundF_congr (fun j s => bestF_all hc f _ s (by simp; omega)) n 0 s
    cases s with
    | none =>
      rw [bestF]
      by_cases hn : o.length = n
      · rw [if_pos hn]; exact (hfull hn).1.symm
      · rw [if_neg hn]; exact hpart hn none
    | some p =>
      obtain ⟨b, m⟩ := p
      rw [bestF]
      by_cases hm : m ≤ cost o
      · rw [if_pos hm]; exact (allF_done hc (f + 1) o b m hm).symm
      · rw [if_neg hm]
        by_cases hn : o.length = n
        · rw [if_pos hn]; exact ((hfull hn).2 b m (by omega)).symm
        · rw [if_neg hn]; exact hpart hn _
/-- the washing of a longer order is no less -/
theorem washing_mono {xs ts : List Int} {ms : List PJob} (hx : ∀ x ∈ xs, 0 ≤ x ∧ x ≤ 300) (i : Int) : ∀ (o : List Int) (ink t ws : Int), (endsL xs ms ts o ink t ws).2 ≤ (endsL xs ms ts (o ++ [i]) ink t ws).2
  | [], ink, t, ws => by
    have := washF_bd (f := ink) (t := (jobAt ms i).ink) hx
    simp only [List.nil_append, endsL]
    omega
  | j :: r, ink, t, ws => by
    rw [List.cons_append, endsL, endsL]
    exact washing_mono hx i r _ _ _
/-- the greatest delay of a longer order is no less -/
theorem delay_mono {xs ts : List Int} {ms : List PJob} (i : Int) : ∀ (o : List Int) (ink t ws m : Int), delL ms (endsL xs ms ts o ink t ws).1 o m ≤ delL ms (endsL xs ms ts (o ++ [i]) ink t ws).1 (o ++ [i]) m
  | [], ink, t, ws, m => by
    simp only [List.nil_append, endsL, delL]
    unfold mxI
    split <;> omega
  | j :: r, ink, t, ws, m => by
    rw [List.cons_append, endsL, endsL, delL, delL]
    exact delay_mono i r _ _ _ _
/-- what prBest and leastOrder weigh: the washing, or the greatest delay -/
def costF (a b c ink : Int) (xs : List Int) (ms : List PJob) (delay : Bool) (o : List Int) : Int :=
  if delay then delL ms (endsL xs ms (timesL a b c ms) o ink 0 0).1 o 0 else (endsL xs ms (timesL a b c ms) o ink 0 0).2
theorem costF_mono {a b c ink : Int} {xs : List Int} {ms : List PJob} (hx : ∀ x ∈ xs, 0 ≤ x ∧ x ≤ 300) (delay : Bool) (o : List Int) (i : Int) : costF a b c ink xs ms delay o ≤ costF a b c ink xs ms delay (o ++ [i]) := by
  cases delay
  · exact washing_mono hx i o ink 0 0
  · exact delay_mono i o ink 0 0 0
end Go.Proofs.Ytfjkmocjlmcjdaa
