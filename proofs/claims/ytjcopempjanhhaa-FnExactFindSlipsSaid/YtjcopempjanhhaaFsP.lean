/-
  Plain law: how slips are found in a list of differences. No program in it.
-/
import Derived.Test.YtjcopempjanhhaaWords
namespace Go.Proofs.Ytjcopempjanhhaa
def skipP (p : Int → Bool) (l : List Int) (i : Nat) : Nat := i + ((l.drop i).takeWhile p).length
theorem skip_go {p : Int → Bool} {l : List Int} {i : Nat} {x : Int} (h : l[i]? = some x) (hp : p x = true) : skipP p l (i + 1) = skipP p l i := by
  obtain ⟨hl, rfl⟩ := List.getElem?_eq_some_iff.1 h
  rw [skipP, skipP, List.drop_eq_getElem_cons hl, List.takeWhile_cons, hp]
  simp only [if_true, List.length_cons]
  omega
theorem skip_stop {p : Int → Bool} {l : List Int} {i : Nat} {x : Int} (h : l[i]? = some x) (hp : p x = false) : skipP p l i = i := by
  obtain ⟨hl, rfl⟩ := List.getElem?_eq_some_iff.1 h
  rw [skipP, List.drop_eq_getElem_cons hl, List.takeWhile_cons, hp]
  rfl
theorem skip_end {p : Int → Bool} {l : List Int} {i : Nat} (h : l.length ≤ i) : skipP p l i = i := by
  rw [skipP, List.drop_of_length_le h]; rfl
theorem skip_le {p : Int → Bool} {l : List Int} {i : Nat} (h : i ≤ l.length) : i ≤ skipP p l i ∧ skipP p l i ≤ l.length := by
  have h1 : ((l.drop i).takeWhile p).length ≤ (l.drop i).length := (List.takeWhile_prefix p).length_le
  rw [List.length_drop] at h1
  rw [skipP]
  omega
def sumI : List Int → Int
  | [] => 0
  | x :: r => x + sumI r
def posI (x : Int) : Int := if 0 < x then x else 0
def posS : List Int → Int
  | [] => 0
  | x :: r => posI x + posS r
theorem posS_nn : ∀ l : List Int, 0 ≤ posS l
  | [] => by simp [posS]
  | x :: r => by have := posS_nn r; rw [posS, posI]; split <;> omega
theorem sumI_set : ∀ {l : List Int} {i : Nat} {x v : Int}, l[i]? = some x → sumI (l.set i v) = sumI l - x + v
  | [], i, x, v, h => by simp at h
  | y :: r, 0, x, v, h => by simp at h; subst h; simp only [List.set_cons_zero, sumI]; omega
  | y :: r, i + 1, x, v, h => by
    have := sumI_set (l := r) (i := i) (x := x) (v := v) (by simpa using h)
    simp only [List.set_cons_succ, sumI, this]; omega
theorem posS_set : ∀ {l : List Int} {i : Nat} {x v : Int}, l[i]? = some x → posS (l.set i v) = posS l - posI x + posI v
  | [], i, x, v, h => by simp at h
  | y :: r, 0, x, v, h => by simp at h; subst h; simp only [List.set_cons_zero, posS]; omega
  | y :: r, i + 1, x, v, h => by
    have := posS_set (l := r) (i := i) (x := x) (v := v) (by simpa using h)
    simp only [List.set_cons_succ, posS, this]; omega
theorem sumI_np : ∀ {l : List Int}, (∀ (j : Nat) (y : Int), l[j]? = some y → y ≤ 0) → sumI l ≤ 0 ∧ ∀ (j : Nat) (y : Int), l[j]? = some y → sumI l ≤ y
  | [], _ => by simp [sumI]
  | y :: r, h => by
    have h0 := h 0 y (by simp)
    have ih := sumI_np (l := r) fun j z hz => h (j + 1) z (by simpa using hz)
    refine ⟨by rw [sumI]; omega, fun j z hz => ?_⟩
    cases j with
    | zero => simp at hz; subst hz; rw [sumI]; omega
    | succ j => have := ih.2 j z (by simpa using hz); rw [sumI]; omega
theorem posS_le {M : Int} : ∀ {l : List Int}, (∀ (j : Nat) (y : Int), l[j]? = some y → y ≤ M) → 0 ≤ M → posS l ≤ M * l.length
  | [], _, _ => by simp [posS]
  | y :: r, h, hM => by
    have h0 := h 0 y (by simp)
    have ih := posS_le (l := r) (fun j z hz => h (j + 1) z (by simpa using hz)) hM
    rw [posS, List.length_cons, posI]
    have : M * ((r.length + 1 : Nat) : Int) = M * r.length + M := by rw [Int.natCast_add, Int.mul_add]; simp
    rw [this]
    split <;> omega
theorem skip_all {p : Int → Bool} {l : List Int} {i : Nat} : ∀ (j : Nat) (x : Int), i ≤ j → j < skipP p l i → l[j]? = some x → p x = true := by
  intro j x h1 h2 h3
  rw [skipP] at h2
  have h4 : ((l.drop i).takeWhile p)[j - i]? = some x := by
    have h5 := List.takeWhile_append_dropWhile (p := p) (l := l.drop i)
    have h6 : ((l.drop i).takeWhile p ++ (l.drop i).dropWhile p)[j - i]? = some x := by rw [h5, List.getElem?_drop, show i + (j - i) = j by omega, h3]
    rwa [List.getElem?_append_left (by omega)] at h6
  have h6 := List.mem_of_getElem? h4
  exact List.all_eq_true.1 List.all_takeWhile x h6
theorem skip_not {p : Int → Bool} {l : List Int} {i : Nat} {x : Int} (h : l[skipP p l i]? = some x) : p x = false := by
  cases hp : p x with
  | false => rfl
  | true =>
    exfalso
    have h1 := List.head?_dropWhile_not p (l.drop i)
    have h2 : (l.drop i).dropWhile p = (l.drop i).drop ((l.drop i).takeWhile p).length := by
      have h3 := List.takeWhile_append_dropWhile (p := p) (l := l.drop i)
      conv => rhs; arg 2; rw [← h3]
      rw [List.drop_left]
    have h4 : ((l.drop i).dropWhile p).head? = some x := by
      rw [h2, List.head?_drop, List.getElem?_drop]
      exact h
    rw [h4] at h1
    simp [hp] at h1
def lessP (x : Int) : Bool := decide (0 ≤ x)
def moreP (x : Int) : Bool := decide (x ≤ 0)
def stepN (x y : Int) : Int := min 99 (min (-x) y)
/-- The slips, with so much fuel: the place that lacks types, the place that has too many, how many. -/
def slipF : Nat → List Int → Nat → Nat → List (Nat × Nat × Int)
  | 0, _, _, _ => []
  | f + 1, l, i, k =>
    if skipP lessP l i = l.length then [] else
    let x := (l[skipP lessP l i]?).getD 0
    let y := (l[skipP moreP l k]?).getD 0
    (skipP lessP l i, skipP moreP l k, stepN x y) :: slipF f ((l.set (skipP lessP l i) (x + stepN x y)).set (skipP moreP l k) (y - stepN x y)) (skipP lessP l i) (skipP moreP l k)
theorem slipF_end {f i k : Nat} {l : List Int} (h : skipP lessP l i = l.length) : slipF f l i k = [] := by
  cases f with
  | zero => rfl
  | succ f => rw [slipF, if_pos h]
/-- What holds ahead of each slip. -/
structure SlipOk (n : Nat) (l : List Int) (i k : Nat) : Prop where
  len : l.length = n
  sum : sumI l = 0
  low : ∀ (j : Nat) (y : Int), j < k → l[j]? = some y → y ≤ 0
  bd : ∀ (j : Nat) (y : Int), l[j]? = some y → -9999 ≤ y ∧ y ≤ 9999
  hi : i ≤ n
  hk : k ≤ n
/-- There is one more slip. -/
theorem slip_next {n : Nat} {l : List Int} {i k : Nat} (h : SlipOk n l i k) (hl : skipP lessP l i ≠ n) :
    ∃ x y, skipP lessP l i < n ∧ skipP moreP l k < n ∧ l[skipP lessP l i]? = some x ∧ l[skipP moreP l k]? = some y ∧ x < 0 ∧ 0 < y ∧ -9999 ≤ x ∧ y ≤ 9999 ∧ skipP lessP l i ≠ skipP moreP l k := by
  obtain ⟨hlen, hsum, hlow, hbd, hi, hk⟩ := h
  have h1 := skip_le (p := lessP) (l := l) (i := i) (by omega)
  have h2 := skip_le (p := moreP) (l := l) (i := k) (by omega)
  have hi' : skipP lessP l i < l.length := by omega
  have hx := List.getElem?_eq_getElem hi'
  have hxn := skip_not hx
  have hx0 : l[skipP lessP l i] < 0 := by simpa [lessP] using hxn
  have hk' : skipP moreP l k < l.length := by
    rcases Nat.lt_or_ge (skipP moreP l k) l.length with h | h
    · exact h
    · exfalso
      have hall : ∀ (j : Nat) (y : Int), l[j]? = some y → y ≤ 0 := fun j y hy => by
        have hj : j < l.length := (List.getElem?_eq_some_iff.1 hy).1
        rcases Nat.lt_or_ge j k with hjk | hjk
        · exact hlow j y hjk hy
        · simpa [moreP] using skip_all (p := moreP) (i := k) j y hjk (by omega) hy
      have := (sumI_np hall).2 _ _ hx
      omega
  have hy := List.getElem?_eq_getElem hk'
  have hyn := skip_not hy
  have hy0 : 0 < l[skipP moreP l k] := by simpa [moreP] using hyn
  refine ⟨_, _, by omega, by omega, hx, hy, hx0, hy0, (hbd _ _ hx).1, (hbd _ _ hy).2, fun e => ?_⟩
  have hx2 : l[skipP moreP l k]? = some l[skipP lessP l i] := by rw [← hx, e]
  rw [hy] at hx2
  injection hx2 with hx2
  omega
theorem stepN_bd {x y : Int} (hx : x < 0) (hy : 0 < y) : 1 ≤ stepN x y ∧ stepN x y ≤ 99 ∧ stepN x y ≤ -x ∧ stepN x y ≤ y := by
  unfold stepN
  omega
/-- And behind it. -/
theorem slip_ok {n : Nat} {l : List Int} {i k : Nat} {x y : Int} (h : SlipOk n l i k) (hi : skipP lessP l i < n) (hk : skipP moreP l k < n) (hx : l[skipP lessP l i]? = some x) (hy : l[skipP moreP l k]? = some y) (x0 : x < 0) (y0 : 0 < y) (hne : skipP lessP l i ≠ skipP moreP l k) :
    SlipOk n ((l.set (skipP lessP l i) (x + stepN x y)).set (skipP moreP l k) (y - stepN x y)) (skipP lessP l i) (skipP moreP l k) ∧
    posS ((l.set (skipP lessP l i) (x + stepN x y)).set (skipP moreP l k) (y - stepN x y)) = posS l - stepN x y ∧
    (l.set (skipP lessP l i) (x + stepN x y))[skipP moreP l k]? = some y := by
  obtain ⟨n1, n2, n3, n4⟩ := stepN_bd x0 y0
  obtain ⟨hlen, hsum, hlow, hbd, hi0, hk0⟩ := h
  have hy2 : (l.set (skipP lessP l i) (x + stepN x y))[skipP moreP l k]? = some y := by rw [List.getElem?_set_ne hne]; exact hy
  refine ⟨⟨by simp [hlen], ?_, ?_, ?_, by omega, by omega⟩, ?_, hy2⟩
  · rw [sumI_set hy2, sumI_set hx]; omega
  · intro j z hj hz
    rw [List.getElem?_set_ne (by omega)] at hz
    by_cases e : skipP lessP l i = j
    · subst e
      rw [List.getElem?_set_self (by omega)] at hz
      injection hz with hz
      omega
    · rw [List.getElem?_set_ne e] at hz
      rcases Nat.lt_or_ge j k with hjk | hjk
      · exact hlow j z hjk hz
      · simpa [moreP] using skip_all (p := moreP) (i := k) j z hjk hj hz
  · intro j z hz
    by_cases e : skipP moreP l k = j
    · subst e
      rw [List.getElem?_set_self (by simp; omega)] at hz
      injection hz with hz
      have := hbd _ _ hy
      omega
    · rw [List.getElem?_set_ne e] at hz
      by_cases e2 : skipP lessP l i = j
      · subst e2
        rw [List.getElem?_set_self (by omega)] at hz
        injection hz with hz
        have := hbd _ _ hx
        omega
      · rw [List.getElem?_set_ne e2] at hz
        exact hbd j z hz
  · rw [posS_set hy2, posS_set hx]
    simp only [posI]
    repeat' split
    all_goals omega
theorem slipF_next {f i k : Nat} {l : List Int} {x y : Int} (hl : skipP lessP l i ≠ l.length) (hx : l[skipP lessP l i]? = some x) (hy : l[skipP moreP l k]? = some y) :
    slipF (f + 1) l i k = (skipP lessP l i, skipP moreP l k, stepN x y) :: slipF f ((l.set (skipP lessP l i) (x + stepN x y)).set (skipP moreP l k) (y - stepN x y)) (skipP lessP l i) (skipP moreP l k) := by
  rw [slipF, if_neg hl, hx, hy]; rfl
end Go.Proofs.Ytjcopempjanhhaa
