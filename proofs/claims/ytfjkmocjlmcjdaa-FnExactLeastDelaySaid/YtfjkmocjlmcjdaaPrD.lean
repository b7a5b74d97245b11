/-
  THE PLAIN LAW OF THE SEARCH, go on: how many numbers an order lacks; a search through all orders finds one.
-/
import Derived.Test.YtfjkmocjlmcjdaaPrC
namespace Go.Proofs.Ytfjkmocjlmcjdaa
/-- how many of the numbers 0 .. k - 1 are not in a list -/
def missK (o : List Int) : Nat → Nat
  | 0 => 0
  | k + 1 => missK o k + if (k : Int) ∈ o then 0 else 1
theorem missK_nil : ∀ k, missK [] k = k
  | 0 => rfl
  | k + 1 => by rw [missK, missK_nil k]; simp
theorem missK_far {o : List Int} {j : Int} : ∀ {k : Nat}, (k : Int) ≤ j → missK (o ++ [j]) k = missK o k
  | 0, _ => rfl
  | k + 1, h => by
    rw [missK, missK, missK_far (by omega)]
    have : ¬ (k : Int) = j := by omega
    simp [this]
theorem missK_app {o : List Int} {j : Int} (h0 : 0 ≤ j) (hj : j ∉ o) : ∀ {k : Nat}, j < k → missK (o ++ [j]) k + 1 = missK o k
  | 0, h => by omega
  | k + 1, h => by
    rw [missK, missK]
    by_cases e : (k : Int) = j
    · rw [missK_far (by omega), e, if_pos (by simp), if_neg hj]
    · have := missK_app h0 hj (k := k) (by omega)
      have h1 : (k : Int) ∈ o ++ [j] ↔ (k : Int) ∈ o := by simp [e]
      by_cases hm : (k : Int) ∈ o
      · rw [if_pos (h1.2 hm), if_pos hm]; omega
      · rw [if_neg (fun q => hm (h1.1 q)), if_neg hm]; omega
theorem missK_ex {o : List Int} : ∀ {k : Nat}, 0 < missK o k → ∃ j : Int, 0 ≤ j ∧ j < k ∧ j ∉ o
  | 0, h => by simp [missK] at h
  | k + 1, h => by
    by_cases hm : (k : Int) ∈ o
    · rw [missK, if_pos hm] at h
      obtain ⟨j, a, b, c⟩ := missK_ex (k := k) (by omega)
      exact ⟨j, a, by omega, c⟩
    · exact ⟨k, by omega, by omega, hm⟩
theorem roundF_keep {next : List Int → Fnd → Fnd} {o : List Int} (hk : ∀ q s, s.isSome → (next q s).isSome) : ∀ (k : Nat) (j : Int) (s : Fnd), s.isSome → (roundF next o k j s).isSome
  | 0, _, _, h => h
  | k + 1, j, s, h => by
    rw [roundF]
    refine roundF_keep hk k _ _ ?_
    split
    · exact h
    · exact hk _ _ h
theorem roundF_finds {next : List Int → Fnd → Fnd} {o : List Int} (hk : ∀ q s, s.isSome → (next q s).isSome) {i : Int} (hi : i ∉ o) (hn : ∀ s, (next (o ++ [i]) s).isSome) : ∀ (k : Nat) (j : Int) (s : Fnd), j ≤ i → i < j + k → (roundF next o k j s).isSome
  | 0, _, _, _, _ => by omega
  | k + 1, j, s, h1, h2 => by
    rw [roundF]
    by_cases e : j = i
    · subst e
      rw [if_neg hi]
      exact roundF_keep hk _ _ _ (hn s)
    · exact roundF_finds hk hi hn k _ _ (by omega) (by omega)
theorem updF_some (cost : List Int → Int) (o : List Int) (s : Fnd) : (updF cost o s).isSome := by
  cases s with
  | none => rfl
  | some p => obtain ⟨b, m⟩ := p; simp only [updF]; split <;> rfl
theorem allF_keep {cost : List Int → Int} {n : Nat} : ∀ (f : Nat) (o : List Int) (s : Fnd), s.isSome → (allF cost n f o s).isSome
  | 0, _, _, h => h
  | f + 1, o, s, h => by
    rw [allF]
    refine roundF_keep (fun q s hs => allF_keep f q s hs) _ _ _ ?_
    split
    · exact h
    · exact updF_some _ _ _
theorem allF_finds {cost : List Int → Int} {n : Nat} : ∀ (f : Nat) (o : List Int) (s : Fnd), missK o n + o.length = n → o.length + f = n + 1 → (allF cost n f o s).isSome
  | 0, o, s, h1, h2 => by omega
  | f + 1, o, s, h1, h2 => by
    rw [allF]
    by_cases hl : o.length < n
    · obtain ⟨i, a, b, c⟩ := missK_ex (o := o) (k := n) (by omega)
      refine roundF_finds (fun q s hs => allF_keep f q s hs) c (fun s => ?_) n 0 _ a (by omega)
      have := missK_app a c (k := n) b
      exact allF_finds f _ s (by simp; omega) (by simp; omega)
    · rw [if_neg hl]
      exact roundF_keep (fun q s hs => allF_keep f q s hs) _ _ _ (updF_some _ _ _)
/-- what is found is an order, and its cost -/
theorem roundF_inv {P : Fnd → Prop} {next : List Int → Fnd → Fnd} {o : List Int} (hk : ∀ i s, i ∉ o → P s → P (next (o ++ [i]) s)) : ∀ (k : Nat) (j : Int) (s : Fnd), P s → P (roundF next o k j s)
  | 0, _, _, h => h
  | k + 1, j, s, h => by
    rw [roundF]
    refine roundF_inv hk k _ _ ?_
    split
    · exact h
    · exact hk _ _ (by assumption) h
/-- the search of the whole is the pruned one, from the empty beginning -/
theorem search_same {cost : List Int → Int} {n : Nat} (hc : ∀ o i, cost o ≤ cost (o ++ [i])) : ∃ b m, allF cost n (n + 1) [] none = some (b, m) ∧ bestF cost n (n + 1) [] none = some (b, m) := by
  have h1 := allF_finds (cost := cost) (n := n) (n + 1) [] none (by simp [missK_nil]) (by simp)
  obtain ⟨⟨b, m⟩, e⟩ := Option.isSome_iff_exists.1 h1
  exact ⟨b, m, e, by rw [bestF_all hc (n + 1) [] none (by simp), e]⟩
theorem costF_nonneg {a b c ink : Int} {xs : List Int} {ms : List PJob} (hx : ∀ x ∈ xs, 0 ≤ x ∧ x ≤ 300) (delay : Bool) (o : List Int) : 0 ≤ costF a b c ink xs ms delay o := by
  have up : ∀ (q p : List Int), costF a b c ink xs ms delay p ≤ costF a b c ink xs ms delay (p ++ q) := by
    intro q
    induction q with
    | nil => intro p; simp
    | cons i r ih =>
      intro p
      have h1 := costF_mono (a := a) (b := b) (c := c) (ink := ink) (ms := ms) hx delay p i
      have h2 := ih (p ++ [i])
      rw [List.append_assoc] at h2
      exact Int.le_trans h1 h2
  have h0 : costF a b c ink xs ms delay [] = 0 := by
    cases delay <;> simp [costF, endsL, delL]
  have := up o []
  rw [h0] at this
  simpa using this
end Go.Proofs.Ytfjkmocjlmcjdaa
