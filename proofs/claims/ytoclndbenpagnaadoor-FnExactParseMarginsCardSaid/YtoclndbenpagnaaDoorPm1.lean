/-
  Margins in a text: the plain law: splitting, reading, the numerals' words.
-/
import Derived.Test.YtoclndbenpagnaaDoorMt5
import Derived.Lib.AtoiAll
import Derived.Lib.FieldsP
import Derived.Laws.RangeString
namespace Go.Proofs.YtoclndbenpagnaaDoor
open Go.RowKit
def isD (c : UInt8) : Bool := decide (48 ≤ c.toNat) && decide (c.toNat ≤ 57)
theorem isD_true {c : UInt8} : isD c = true ↔ 48 ≤ c.toNat ∧ c.toNat ≤ 57 := by simp [isD]
def digs : List UInt8 → Bool
  | [] => true
  | c :: r => isD c && digs r
def valL (acc : Nat) (l : List UInt8) : Nat := l.foldl (fun a c => a * 10 + (c.toNat - 48)) acc
def headZ (l : List UInt8) : Bool := decide (l.head? = some 48) && decide (1 < l.length)
def readB (l : List UInt8) : Bool := decide (1 ≤ l.length) && (decide (l.length ≤ 6) && (!headZ l && digs l))
def readV (l : List UInt8) : Int := if readB l then valL 0 l else -1
theorem digs_app : ∀ {l m : List UInt8}, digs (l ++ m) = (digs l && digs m)
  | [], _ => by simp [digs]
  | c :: l, m => by simp only [List.cons_append, digs, digs_app (l := l) (m := m), Bool.and_assoc]
theorem valL_nil (acc : Nat) : valL acc [] = acc := by unfold valL; exact List.foldl_nil
theorem valL_cons (acc : Nat) (c : UInt8) (r : List UInt8) : valL acc (c :: r) = valL (acc * 10 + (c.toNat - 48)) r := by unfold valL; rw [List.foldl_cons]
theorem valL_app (m l : List UInt8) (acc : Nat) : valL acc (l ++ m) = valL (valL acc l) m := by unfold valL; rw [List.foldl_append]
theorem valL_ge (l : List UInt8) : ∀ acc : Nat, acc ≤ valL acc l := by
  induction l with
  | nil => intro acc; rw [valL_nil]; exact Nat.le_refl _
  | cons c l ih =>
    intro acc
    have := ih (acc * 10 + (c.toNat - 48))
    rw [valL_cons]
    omega
theorem dec_small {n : Nat} (h : n < 10) : Lib.decDigits n = [UInt8.ofNat (48 + n)] := by rw [Lib.decDigits, dif_pos h]
theorem dec_big {n : Nat} (h : ¬ n < 10) : Lib.decDigits n = Lib.decDigits (n / 10) ++ [UInt8.ofNat (48 + n % 10)] := by rw [Lib.decDigits, dif_neg h]
theorem ofNat_nat {k : Nat} (h : k < 10) : (UInt8.ofNat (48 + k)).toNat = 48 + k := by rw [UInt8.toNat_ofNat']; omega
theorem dec_ne (n : Nat) : Lib.decDigits n ≠ [] := by
  by_cases h : n < 10
  · rw [dec_small h]; simp
  · rw [dec_big h]; simp
theorem dec_digs (n : Nat) : digs (Lib.decDigits n) = true := by
  induction n using Nat.strongRecOn with
  | _ n ih =>
    by_cases h : n < 10
    · rw [dec_small h, digs, digs, isD_true.2 (by rw [ofNat_nat h]; omega)]; rfl
    · rw [dec_big h, digs_app, ih (n / 10) (by omega), digs, digs, isD_true.2 (by rw [ofNat_nat (by omega)]; omega)]; rfl
theorem dec_val (n : Nat) : valL 0 (Lib.decDigits n) = n := by
  induction n using Nat.strongRecOn with
  | _ n ih =>
    by_cases h : n < 10
    · rw [dec_small h, valL_cons, valL_nil, ofNat_nat h]; omega
    · rw [dec_big h, valL_app, ih (n / 10) (by omega), valL_cons, valL_nil, ofNat_nat (by omega)]; omega
theorem dec_head (n : Nat) (h1 : 1 ≤ n) : (Lib.decDigits n).head? ≠ some 48 := by
  induction n using Nat.strongRecOn with
  | _ n ih =>
    by_cases h : n < 10
    · rw [dec_small h]
      intro e
      simp only [List.head?_cons, Option.some.injEq] at e
      have := congrArg UInt8.toNat e
      rw [ofNat_nat h] at this
      have h48 : (48 : UInt8).toNat = 48 := rfl
      omega
    · rw [dec_big h]
      have hne := dec_ne (n / 10)
      have ih' := ih (n / 10) (by omega) (by omega)
      cases hd : Lib.decDigits (n / 10) with
      | nil => exact absurd hd hne
      | cons c r =>
        rw [hd] at ih'
        simpa using ih'
theorem dec_headZ (n : Nat) : headZ (Lib.decDigits n) = false := by
  by_cases h : n < 10
  · rw [dec_small h]; simp [headZ]
  · rw [headZ, decide_eq_false (dec_head n (by omega))]; rfl
theorem dec_readB {n : Nat} (h : n < 1000) : readB (Lib.decDigits n) = true := by
  have h1 := dig_len h
  have h2 : 1 ≤ (Lib.decDigits n).length := by
    rcases Nat.eq_zero_or_pos (Lib.decDigits n).length with h | h
    · exact absurd (List.eq_nil_of_length_eq_zero h) (dec_ne n)
    · exact h
  rw [readB, dec_digs, dec_headZ, decide_eq_true h2, decide_eq_true (show (Lib.decDigits n).length ≤ 6 by omega)]; rfl
theorem dec_readV {n : Nat} (h : n < 1000) : readV (Lib.decDigits n) = (n : Int) := by rw [readV, if_pos (dec_readB h), dec_val]
theorem val_dec : ∀ (n : Nat) (l : List UInt8), l.length = n + 1 → digs l = true → headZ l = false → Lib.decDigits (valL 0 l) = l
  | n, l, hl, hd, hz => by
    have hne : l ≠ [] := fun e => by rw [e] at hl; simp at hl
    obtain ⟨m, c, rfl⟩ : ∃ m c, l = m ++ [c] := ⟨l.dropLast, l.getLast hne, (List.dropLast_concat_getLast hne).symm⟩
    rw [digs_app, Bool.and_eq_true] at hd
    have hc : isD c = true := by have := hd.2; rw [digs, digs, Bool.and_true] at this; exact this
    have hc2 := isD_true.1 hc
    rw [valL_app, valL_cons, valL_nil]
    have hm : m.length = n := by simpa using hl
    have hcc : UInt8.ofNat (48 + (c.toNat - 48)) = c := by
      apply UInt8.toNat_inj.1
      rw [ofNat_nat (by omega)]
      omega
    match n, hm with
    | 0, hm =>
      have hm0 := List.eq_nil_of_length_eq_zero hm
      subst hm0
      rw [valL_nil, dec_small (by omega), Nat.zero_mul, Nat.zero_add, hcc]
      rfl
    | k + 1, hm =>
      match m, hm, hd.1, hz with
      | h :: t, hm, hdm, hz =>
        have hh : h ≠ 48 := by
          intro e
          subst e
          simp [headZ] at hz
        have hdh : isD h = true := by rw [digs, Bool.and_eq_true] at hdm; exact hdm.1
        have hh2 := isD_true.1 hdh
        have hh3 : h.toNat ≠ 48 := fun e => hh (UInt8.toNat_inj.1 (by rw [e]; rfl))
        have hmz : headZ (h :: t) = false := by
          rw [headZ, decide_eq_false (by simpa using hh)]; rfl
        have ih := val_dec k (h :: t) (by simpa using hm) hdm hmz
        have hv : 1 ≤ valL 0 (h :: t) := by
          rw [valL_cons]
          have := valL_ge t (0 * 10 + (h.toNat - 48))
          omega
        rw [dec_big (by omega), show (valL 0 (h :: t) * 10 + (c.toNat - 48)) / 10 = valL 0 (h :: t) by omega, show (valL 0 (h :: t) * 10 + (c.toNat - 48)) % 10 = c.toNat - 48 by omega, ih, hcc]
theorem readV_dec {l : List UInt8} (h : 0 ≤ readV l) : Lib.decDigits (readV l).toNat = l := by
  by_cases hb : readB l = true
  · rw [readV, if_pos hb, Int.toNat_natCast]
    rw [readB] at hb
    simp only [Bool.and_eq_true, decide_eq_true_eq, Bool.not_eq_true'] at hb
    exact val_dec (l.length - 1) l (by omega) hb.2.2.2 hb.2.2.1
  · rw [readV, if_neg hb] at h
    omega
/-! splitting -/
def glue (cur : List UInt8) : List (List UInt8) → List (List UInt8)
  | [] => [cur]
  | w :: ws => (cur ++ w) :: ws
def splitB : List UInt8 → List (List UInt8)
  | [] => [[]]
  | c :: r => if c = 47 then [] :: splitB r else glue [c] (splitB r)
theorem glue_glue (a b : List UInt8) (X : List (List UInt8)) : glue a (glue b X) = glue (a ++ b) X := by
  cases X <;> simp [glue]
theorem splitB_ne : ∀ (l : List UInt8), splitB l ≠ []
  | [] => by simp [splitB]
  | c :: r => by
    rw [splitB]
    split
    · simp
    · cases splitB r <;> simp [glue]
theorem glue_nil {X : List (List UInt8)} (h : X ≠ []) : glue [] X = X := by
  cases X with
  | nil => exact absurd rfl h
  | cons w ws => simp [glue]
theorem splitB_len : ∀ (l : List UInt8), (splitB l).length ≤ l.length + 1
  | [] => by simp [splitB]
  | c :: r => by
    have ih := splitB_len r
    rw [splitB]
    split
    · simp only [List.length_cons]; omega
    · cases hs : splitB r with
      | nil => simp [glue]
      | cons w ws => rw [hs] at ih; simp only [glue, List.length_cons] at *; omega
theorem join_cc (x y : List UInt8) (r : List (List UInt8)) : Lib.join (x :: y :: r) [47] = x ++ 47 :: Lib.join (y :: r) [47] := by
  rw [Lib.join_cons, Lib.join_cons]
  simp [Lib.joinTail]
theorem join_split : ∀ (l : List UInt8), Lib.join (splitB l) [47] = l
  | [] => Lib.join_one _ _
  | c :: r => by
    have ih := join_split r
    have hne := splitB_ne r
    rw [splitB]
    split
    · rename_i hc
      subst hc
      cases hs : splitB r with
      | nil => exact absurd hs hne
      | cons w ws => rw [join_cc, ← hs, ih]; rfl
    · cases hs : splitB r with
      | nil => exact absurd hs hne
      | cons w ws =>
        rw [hs] at ih
        rw [glue, Lib.join_cons, List.append_assoc, ← Lib.join_cons, ih]; rfl
theorem split_word : ∀ {w : List UInt8}, digs w = true → splitB w = [w] ∧ ∀ r, splitB (w ++ 47 :: r) = w :: splitB r
  | [], _ => ⟨rfl, fun r => by simp [splitB]⟩
  | c :: w, h => by
    rw [digs, Bool.and_eq_true] at h
    have ih := split_word h.2
    have hc : ¬ c = 47 := fun e => by
      have := isD_true.1 h.1
      rw [e] at this
      have h47 : (47 : UInt8).toNat = 47 := rfl
      omega
    constructor
    · rw [splitB, if_neg hc, ih.1]; rfl
    · intro r
      rw [List.cons_append, splitB, if_neg hc, ih.2]; rfl
theorem split_join : ∀ {ws : List (List UInt8)}, ws ≠ [] → (∀ w ∈ ws, digs w = true) → splitB (Lib.join ws [47]) = ws
  | [], h, _ => absurd rfl h
  | [w], _, hd => by rw [Lib.join_one]; exact (split_word (hd w (by simp))).1
  | w :: y :: r, _, hd => by
    rw [join_cc, (split_word (hd w (by simp))).2, split_join (by simp) fun z hz => hd z (List.mem_cons_of_mem _ hz)]
theorem decs_digs (ns : List Nat) : ∀ w ∈ decs ns, digs w = true := by
  intro w hw
  obtain ⟨n, _, rfl⟩ := List.mem_map.1 hw
  exact dec_digs n
theorem split_joinN {ns : List Nat} (h : ns ≠ []) : splitB (joinN ns) = decs ns :=
  split_join (by rw [decs]; simpa using h) (decs_digs ns)
/-- The text of margins. -/
def IsT (s : ByteArray) (a b c d : Nat) : Prop := a ≤ 300 ∧ b ≤ 300 ∧ c ≤ 300 ∧ d ≤ 300 ∧ bytes s = joinN [a, b, c, d]
theorem isT_split {s : ByteArray} {a b c d : Nat} (h : IsT s a b c d) : splitB (bytes s) = [Lib.decDigits a, Lib.decDigits b, Lib.decDigits c, Lib.decDigits d] := by
  rw [h.2.2.2.2, split_joinN (by simp)]; rfl
theorem isT_one {s : ByteArray} {a b c d a' b' c' d' : Nat} (h : IsT s a b c d) (h' : IsT s a' b' c' d') : a = a' ∧ b = b' ∧ c = c' ∧ d = d' := by
  have e := (isT_split h).symm.trans (isT_split h')
  simp only [List.cons.injEq, and_true] at e
  have inj : ∀ {x y : Nat}, Lib.decDigits x = Lib.decDigits y → x = y := fun {x y} h => by rw [← dec_val x, ← dec_val y, h]
  exact ⟨inj e.1, inj e.2.1, inj e.2.2.1, inj e.2.2.2⟩
theorem mgB_nat {a b c d : Nat} (h1 : a ≤ 300) (h2 : b ≤ 300) (h3 : c ≤ 300) (h4 : d ≤ 300) : mgB (a : Int) b c d = true := by
  rw [mgB, allB, allB, allB, allB, allB, inB_true.2 (by omega), inB_true.2 (by omega), inB_true.2 (by omega), inB_true.2 (by omega)]; rfl
theorem spec_yes {s : ByteArray} {p q r t : List UInt8} (hs : splitB (bytes s) = [p, q, r, t]) (h : mgB (readV p) (readV q) (readV r) (readV t) = true) : IsT s (readV p).toNat (readV q).toNat (readV r).toNat (readV t).toNat := by
  obtain ⟨h1, h2, h3, h4⟩ := mgB_true h
  refine ⟨by omega, by omega, by omega, by omega, ?_⟩
  rw [← join_split (bytes s), hs, joinN, decs]
  simp only [List.map_cons, List.map_nil]
  rw [readV_dec h1.1, readV_dec h2.1, readV_dec h3.1, readV_dec h4.1]
theorem isT_read {s : ByteArray} {a b c d : Nat} {p q r t : List UInt8} (h : IsT s a b c d) (hs : splitB (bytes s) = [p, q, r, t]) : readV p = (a : Int) ∧ readV q = (b : Int) ∧ readV r = (c : Int) ∧ readV t = (d : Int) := by
  have e := hs.symm.trans (isT_split h)
  simp only [List.cons.injEq, and_true] at e
  obtain ⟨h1, h2, h3, h4, _⟩ := h
  rw [e.1, e.2.1, e.2.2.1, e.2.2.2]
  exact ⟨dec_readV (by omega), dec_readV (by omega), dec_readV (by omega), dec_readV (by omega)⟩
end Go.Proofs.YtoclndbenpagnaaDoor
