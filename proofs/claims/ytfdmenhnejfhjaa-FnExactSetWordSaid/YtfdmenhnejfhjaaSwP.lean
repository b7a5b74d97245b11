/-
  Plain law: the longest code of a font that begins a word. The step through the lengths and the step through the sorts find the same one.
-/
import Derived.Test.YtfdmenhnejfhjaaFo2
import Derived.Lib.Strings
namespace Go.Proofs.Ytfdmenhnejfhjaa
theorem less_irr : ∀ a : List UInt8, Go.Op.bytesLess a a = false
  | [] => rfl
  | x :: r => by simp [Go.Op.bytesLess, less_irr r]
theorem less_trans : ∀ {a b c : List UInt8}, Go.Op.bytesLess a b = true → Go.Op.bytesLess b c = true → Go.Op.bytesLess a c = true
  | [], [], _, h, _ => by simp [Go.Op.bytesLess] at h
  | _ :: _, [], _, h, _ => by simp [Go.Op.bytesLess] at h
  | _, _ :: _, [], _, h => by simp [Go.Op.bytesLess] at h
  | [], _ :: _, _ :: _, _, _ => rfl
  | x :: a, y :: b, z :: c, h, k => by
    simp only [Go.Op.bytesLess, Bool.or_eq_true, decide_eq_true_eq, Bool.and_eq_true, beq_iff_eq] at h k ⊢
    rcases h with h | ⟨rfl, h⟩
    · rcases k with k | ⟨rfl, k⟩
      · left; exact UInt8.lt_trans h k
      · left; exact h
    · rcases k with k | ⟨rfl, k⟩
      · left; exact k
      · right; exact ⟨rfl, less_trans h k⟩
/-- What a font gives: all codes have one to three letters, each is less than the next. -/
theorem fontF_ord {ms : List Srt} : ∀ (f k : Nat), fontF ms f k = true → ∀ (j : Nat) (a b : Srt), k ≤ j + 1 → j + 1 < k + f → ms[j]? = some a → ms[j + 1]? = some b → lessS2 a.code b.code = true
  | 0, _, _, j, a, b, h1, h2, _, _ => by omega
  | f + 1, k, h, j, a, b, h1, h2, h3, h4 => by
    rw [fontF, Bool.and_eq_true] at h
    by_cases e : j + 1 = k
    · subst e
      rw [h4] at h
      have h5 := h.1
      rw [fontK, Bool.and_eq_true] at h5
      have h6 : ordT ms (j + 1) b = true := h5.2
      rw [ordT, h3] at h6
      exact h6
    · exact fontF_ord f (k + 1) h.2 j a b (by omega) (by omega) h3 h4
theorem font_less {ms : List Srt} (h : fontB ms = true) : ∀ (d j : Nat) (a b : Srt), ms[j]? = some a → ms[j + d + 1]? = some b → lessS2 a.code b.code = true
  | 0, j, a, b, h1, h2 => by
    rw [fontB, Bool.and_eq_true] at h
    have hl := (List.getElem?_eq_some_iff.1 h2).1
    exact fontF_ord _ _ h.1 j a b (by omega) (by omega) h1 h2
  | d + 1, j, a, b, h1, h2 => by
    have hl := (List.getElem?_eq_some_iff.1 h2).1
    obtain ⟨c, hc⟩ : ∃ c, ms[j + d + 1]? = some c := ⟨_, List.getElem?_eq_getElem (by omega)⟩
    have ih := font_less h d j a c h1 hc
    rw [fontB, Bool.and_eq_true] at h
    have h3 := fontF_ord _ _ h.1 (j + d + 1) c b (by omega) (by omega) hc (by rw [← h2]; congr 1)
    exact less_trans ih h3
theorem font_inj {ms : List Srt} (h : fontB ms = true) {i j : Nat} {a b : Srt} (h1 : ms[i]? = some a) (h2 : ms[j]? = some b) (e : a.code.toList = b.code.toList) : i = j := by
  rcases Nat.lt_trichotomy i j with hlt | he | hlt
  · exfalso
    have := font_less h (j - i - 1) i a b h1 (by rw [← h2]; congr 1; omega)
    rw [lessS2, e, less_irr] at this
    cases this
  · exact he
  · exfalso
    have := font_less h (i - j - 1) j b a h2 (by rw [← h1]; congr 1; omega)
    rw [lessS2, e, less_irr] at this
    cases this
theorem findT_pos {c : ByteArray} : ∀ {ms : List Srt} {i : Nat} {j : Int}, findT c ms i = j → 0 ≤ j → ∃ k b, j = (i : Int) + (k : Nat) ∧ ms[k]? = some b ∧ b.code.toList = c.toList
  | [], i, j, h, h0 => by rw [findT] at h; omega
  | x :: r, i, j, h, h0 => by
    rw [findT] at h
    cases e : eqS2 x.code c with
    | true =>
      rw [e] at h
      refine ⟨0, x, by simp at h; omega, rfl, ?_⟩
      simpa [eqS2] using e
    | false =>
      rw [e] at h
      have h' : findT c r ((i + 1 : Nat) : Int) = j := by rw [← h]; simp
      obtain ⟨k, b, h1, h2, h3⟩ := findT_pos h' h0
      exact ⟨k + 1, b, by omega, by simpa using h2, h3⟩
theorem findT_neg {c : ByteArray} : ∀ {ms : List Srt} {i : Int}, 0 ≤ i → findT c ms i < 0 → ∀ (k : Nat) (b : Srt), ms[k]? = some b → b.code.toList ≠ c.toList
  | [], _, _, _, k, b, h => by simp at h
  | x :: r, i, h0, h, k, b, hb => by
    rw [findT] at h
    cases e : eqS2 x.code c with
    | true => rw [e] at h; simp at h; omega
    | false =>
      rw [e] at h
      simp at h
      cases k with
      | zero =>
        simp at hb
        subst hb
        intro e2
        rw [eqS2, e2] at e
        simp at e
      | succ k => exact findT_neg (by omega) h k b (by simpa using hb)
/-- the code lies at the beginning of the word -/
def preB (w : List UInt8) (b : Srt) : Bool := b.code.toList.isPrefixOf w
theorem toList_bytes (s : ByteArray) : s.toList = bytes s := by rw [ByteArray.toList_eq]; rfl
theorem preB_true {w : List UInt8} {b : Srt} (h : preB w b = true) : b.code.size ≤ w.length ∧ b.code.toList = w.take b.code.size := by
  rw [preB, List.isPrefixOf_iff_prefix] at h
  have hs : b.code.toList.length = b.code.size := by rw [toList_bytes, bytes_len]
  have h1 := h.length_le
  have h2 := List.prefix_iff_eq_take.1 h
  rw [hs] at h1 h2
  exact ⟨h1, h2⟩
theorem preB_of {w : List UInt8} {b : Srt} {n : Nat} (h : b.code.toList = w.take n) : preB w b = true := by
  rw [preB, List.isPrefixOf_iff_prefix, h]
  exact List.take_prefix n w
def bestN (ms : List Srt) : Nat → List UInt8 → Int
  | 0, _ => -1
  | n + 1, w => if 0 ≤ findT (str (w.take (n + 1))) ms 0 then findT (str (w.take (n + 1))) ms 0 else bestN ms n w
def bestW (ms : List Srt) (w : List UInt8) : Int := bestN ms (min 3 w.length) w
/-- b is the best among the first k. -/
def IsB (ms : List Srt) (w : List UInt8) (k : Nat) (b : Int) : Prop :=
  (b = -1 ∧ ∀ (j : Nat) (x : Srt), j < k → ms[j]? = some x → preB w x = false) ∨
  ∃ (i : Nat) (y : Srt), b = (i : Int) ∧ i < k ∧ ms[i]? = some y ∧ preB w y = true ∧ ∀ (j : Nat) (x : Srt), j < k → ms[j]? = some x → preB w x = true → x.code.size ≤ y.code.size
theorem isB_zero (ms : List Srt) (w : List UInt8) : IsB ms w 0 (-1) := .inl ⟨rfl, fun j _ h => by omega⟩
theorem isB_skip {ms : List Srt} {w : List UInt8} {k : Nat} {b : Int} {x : Srt} (h : IsB ms w k b) (hx : ms[k]? = some x) (hp : preB w x = false) : IsB ms w (k + 1) b := by
  have hj : ∀ (j : Nat), j < k + 1 → j < k ∨ j = k := fun j hj => by omega
  rcases h with ⟨rfl, h⟩ | ⟨i, y, rfl, hi, hy, hpy, h⟩
  · refine .inl ⟨rfl, fun j z h1 hz => ?_⟩
    rcases hj j h1 with h2 | rfl
    · exact h j z h2 hz
    · rw [hx] at hz; injection hz with hz; rw [← hz]; exact hp
  · refine .inr ⟨i, y, rfl, by omega, hy, hpy, fun j z h1 hz hpz => ?_⟩
    rcases hj j h1 with h2 | rfl
    · exact h j z h2 hz hpz
    · rw [hx] at hz; injection hz with hz; rw [← hz, hp] at hpz; cases hpz
theorem isB_keep {ms : List Srt} {w : List UInt8} {k i : Nat} {x y : Srt} (h : IsB ms w k (i : Int)) (hx : ms[k]? = some x) (hy : ms[i]? = some y) (hl : x.code.size ≤ y.code.size) : IsB ms w (k + 1) (i : Int) := by
  rcases h with ⟨h1, _⟩ | ⟨i', y', e, hi, hy', hpy, h⟩
  · omega
  · obtain rfl : i = i' := by omega
    rw [hy] at hy'
    injection hy' with hy'
    subst hy'
    refine .inr ⟨i, y, rfl, by omega, hy, hpy, fun j z h1 hz hpz => ?_⟩
    rcases (by omega : j < k ∨ j = k) with h2 | rfl
    · exact h j z h2 hz hpz
    · rw [hx] at hz; injection hz with hz; rw [← hz]; exact hl
theorem isB_take {ms : List Srt} {w : List UInt8} {k : Nat} {b : Int} {x : Srt} (h : IsB ms w k b) (hx : ms[k]? = some x) (hp : preB w x = true) (hl : b < 0 ∨ ∀ (y : Srt), ms[b.toNat]? = some y → y.code.size < x.code.size) : IsB ms w (k + 1) (k : Int) := by
  refine .inr ⟨k, x, rfl, by omega, hx, hp, fun j z h1 hz hpz => ?_⟩
  rcases (by omega : j < k ∨ j = k) with h2 | rfl
  · rcases h with ⟨rfl, h⟩ | ⟨i, y, rfl, hi, hy, hpy, h⟩
    · rw [h j z h2 hz] at hpz; cases hpz
    · have h3 := h j z h2 hz hpz
      rcases hl with hl | hl
      · omega
      · have := hl y (by simpa using hy); omega
  · rw [hx] at hz; injection hz with hz; rw [← hz]; exact Nat.le_refl _
theorem bestN_spec {ms : List Srt} {w : List UInt8} : ∀ n : Nat, n ≤ w.length →
    (bestN ms n w = -1 ∧ ∀ (m : Nat), 1 ≤ m → m ≤ n → ∀ (k : Nat) (b : Srt), ms[k]? = some b → b.code.toList ≠ w.take m) ∨
    ∃ (i m : Nat) (y : Srt), bestN ms n w = (i : Int) ∧ 1 ≤ m ∧ m ≤ n ∧ ms[i]? = some y ∧ y.code.toList = w.take m ∧ ∀ (m' : Nat), m < m' → m' ≤ n → ∀ (k : Nat) (b : Srt), ms[k]? = some b → b.code.toList ≠ w.take m'
  | 0, _ => .inl ⟨rfl, fun m h1 h2 => by omega⟩
  | n + 1, hn => by
    rw [bestN]
    by_cases h : 0 ≤ findT (str (w.take (n + 1))) ms 0
    · rw [if_pos h]
      obtain ⟨k, b, h1, h2, h3⟩ := findT_pos (i := 0) rfl h
      refine .inr ⟨k, n + 1, b, by simpa using h1, by omega, Nat.le_refl _, h2, by rw [h3, str_toList], fun m' h4 h5 => by omega⟩
    · rw [if_neg h]
      have hno := findT_neg (c := str (w.take (n + 1))) (ms := ms) (i := 0) (Int.le_refl 0) (Int.lt_of_not_ge h)
      rw [str_toList] at hno
      rcases bestN_spec (ms := ms) (w := w) n (by omega) with ⟨h1, h2⟩ | ⟨i, m, y, h1, h2, h3, h4, h5, h6⟩
      · refine .inl ⟨h1, fun m hm1 hm2 k b hb => ?_⟩
        rcases (by omega : m ≤ n ∨ m = n + 1) with hm | rfl
        · exact h2 m hm1 hm k b hb
        · exact hno k b hb
      · refine .inr ⟨i, m, y, h1, h2, by omega, h4, h5, fun m' hm1 hm2 k b hb => ?_⟩
        rcases (by omega : m' ≤ n ∨ m' = n + 1) with hm | rfl
        · exact h6 m' hm1 hm k b hb
        · exact hno k b hb
theorem code_len {ms : List Srt} (h : fontB ms = true) {k : Nat} {b : Srt} (hb : ms[k]? = some b) : 1 ≤ b.code.size ∧ b.code.size ≤ 3 := by
  have h1 := (sortB_true ((fontB_true h).2 b (List.mem_of_getElem? hb))).1
  rw [letB, Bool.and_eq_true] at h1
  have := inB_true.1 h1.2
  omega
/-- The step through the sorts ends where the step through the lengths does. -/
theorem isB_end {ms : List Srt} {w : List UInt8} {b : Int} (hf : fontB ms = true) (h : IsB ms w ms.length b) : b = bestW ms w := by
  have hlen : ∀ (x : Srt), x.code.toList.length = x.code.size := fun x => by rw [toList_bytes, bytes_len]
  rcases bestN_spec (ms := ms) (w := w) (min 3 w.length) (Nat.min_le_right _ _) with ⟨h1, h2⟩ | ⟨i, m, y, h1, h2, h3, h4, h5, h6⟩
  · rw [bestW, h1]
    rcases h with ⟨rfl, _⟩ | ⟨k, z, rfl, hk, hz, hpz, _⟩
    · rfl
    · exfalso
      obtain ⟨g1, g2⟩ := preB_true hpz
      have g3 := code_len hf hz
      exact h2 z.code.size (by omega) (by omega) k z hz g2
  · rw [bestW, h1]
    have hil := (List.getElem?_eq_some_iff.1 h4).1
    have hpy := preB_of h5
    have hym : y.code.size = m := by
      have := congrArg List.length h5
      rw [hlen, List.length_take] at this
      omega
    rcases h with ⟨rfl, h⟩ | ⟨k, z, rfl, hk, hz, hpz, h⟩
    · rw [h i y hil h4] at hpy; cases hpy
    · have g := h i y hil h4 hpy
      obtain ⟨g1, g2⟩ := preB_true hpz
      have g3 := code_len hf hz
      have hzm : z.code.size = m := by
        rcases (by omega : z.code.size = m ∨ m < z.code.size) with e | e
        · exact e
        · exact absurd g2 (h6 z.code.size e (by omega) k z hz)
      have : k = i := font_inj hf hz h4 (by rw [g2, h5, hzm])
      rw [this]
theorem bestW_bd {ms : List Srt} {w : List UInt8} : bestW ms w = -1 ∨ ∃ (i : Nat) (y : Srt), bestW ms w = (i : Int) ∧ ms[i]? = some y ∧ 1 ≤ y.code.size ∧ y.code.size ≤ w.length := by
  rcases bestN_spec (ms := ms) (w := w) (min 3 w.length) (Nat.min_le_right _ _) with ⟨h1, _⟩ | ⟨i, m, y, h1, h2, h3, h4, h5, _⟩
  · exact .inl h1
  · right
    have := congrArg List.length h5
    rw [toList_bytes, bytes_len, List.length_take] at this
    exact ⟨i, y, h1, h4, by omega, by omega⟩
def codeLen (ms : List Srt) (b : Int) : Nat := ((ms[b.toNat]?).getD ⟨⟨#[]⟩, 0⟩).code.size
/-- The sorts of a word, so far out. -/
def setA (ms : List Srt) : Nat → List UInt8 → List Int → Option (List Int)
  | _, [], out => some out
  | 0, _ :: _, _ => none
  | f + 1, c :: r, out => if bestW ms (c :: r) < 0 then none else setA ms f ((c :: r).drop (codeLen ms (bestW ms (c :: r)))) (out ++ [bestW ms (c :: r)])
def setR (ms : List Srt) (s : ByteArray) : Option (List Int) := setA ms s.size (bytes s) []
theorem setA_nil (ms : List Srt) (f : Nat) (out : List Int) : setA ms f [] out = some out := by cases f <;> rfl
theorem setA_step {ms : List Srt} {f : Nat} {w : List UInt8} {out : List Int} (hw : w ≠ []) : setA ms (f + 1) w out = if bestW ms w < 0 then none else setA ms f (w.drop (codeLen ms (bestW ms w))) (out ++ [bestW ms w]) := by
  cases w with
  | nil => exact absurd rfl hw
  | cons c r => rfl
theorem codeLen_at {ms : List Srt} {i : Nat} {y : Srt} (h : ms[i]? = some y) : codeLen ms (i : Int) = y.code.size := by rw [codeLen, Int.toNat_natCast, h]; rfl
end Go.Proofs.Ytfdmenhnejfhjaa
