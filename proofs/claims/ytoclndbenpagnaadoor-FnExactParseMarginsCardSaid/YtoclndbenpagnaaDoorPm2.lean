/-
  Margins in a text: the words of digits, their numbers.
-/
import Derived.Test.YtoclndbenpagnaaDoorPm1
namespace Go.Proofs.YtoclndbenpagnaaDoor
open Go.RowKit
theorem extract_bytes (s : ByteArray) (a b : Nat) : bytes (s.extract a b) = ((bytes s).drop a).take (b - a) := by
  simp [bytes, ByteArray.data_extract, Array.toList_extract, List.extract_eq_take_drop]
theorem extract_size (s : ByteArray) (a b : Nat) : (s.extract a b).size ≤ s.size := by
  rw [← bytes_len, extract_bytes, List.length_take, List.length_drop, bytes_len]
  omega
/-- A rune that is no digit. -/
def pD (x : Nat) : Bool := decide (x < 48) || decide (57 < x)
def wordsD (s : ByteArray) : List ByteArray := Lib.goFieldsP pD s
def numG (acc : List Int) : List ByteArray → List Int
  | [] => acc
  | w :: r => match Lib.atoiAll w.data.toList with
    | .ok v => numG (acc ++ [v]) r
    | _ => []
def numF (s : ByteArray) : List Int := numG [] (wordsD s)
theorem drop_at {s : ByteArray} {pos : Nat} {c : UInt8} {r : List UInt8} (h : (bytes s).drop pos = c :: r) : ∃ hp : pos < s.size, s[pos] = c ∧ (bytes s).drop (pos + 1) = r := by
  have hp : pos < s.size := by
    rcases Nat.lt_or_ge pos s.size with h1 | h1
    · exact h1
    · rw [List.drop_of_length_le (by rw [bytes_len]; exact h1)] at h
      cases h
  have e := bytes_drop s pos hp
  rw [h] at e
  injection e with e1 e2
  exact ⟨hp, e1.symm, e2.symm⟩
theorem span_step (p : Nat → Bool) (s : ByteArray) (f pos : Nat) (st : Option Nat) (acc : List (Nat × Nat)) : Lib.spansFromP p s (f + 1) pos st acc = if pos < s.size then
      (if p (Utf8.decode s pos).1 then
        (match st with
         | some a => Lib.spansFromP p s f (pos + (Utf8.decode s pos).2) none (acc ++ [(a, pos)])
         | none => Lib.spansFromP p s f (pos + (Utf8.decode s pos).2) none acc)
       else
        (match st with
         | some a => Lib.spansFromP p s f (pos + (Utf8.decode s pos).2) (some a) acc
         | none => Lib.spansFromP p s f (pos + (Utf8.decode s pos).2) (some pos) acc))
    else (acc, st) := by
  rw [Lib.spansFromP.eq_def]
  rfl
theorem span_dig {s : ByteArray} {f pos : Nat} {st : Option Nat} {acc : List (Nat × Nat)} {c : UInt8} {r : List UInt8} (h : (bytes s).drop pos = c :: r) (hc : isD c = true) :
    Lib.spansFromP pD s (f + 1) pos st acc = Lib.spansFromP pD s f (pos + 1) (match st with | some a => some a | none => some pos) acc := by
  obtain ⟨hp, hs, _⟩ := drop_at h
  have hd := isD_true.1 hc
  have hdec := decode_ascii s pos hp (by rw [hs]; omega)
  rw [hs] at hdec
  have hpd : pD c.toNat = false := by rw [pD, decide_eq_false (by omega), decide_eq_false (by omega)]; rfl
  rw [span_step, if_pos hp, hdec]
  simp only [hpd]
  cases st <;> rfl
theorem span_sep {s : ByteArray} {f pos a : Nat} {acc : List (Nat × Nat)} {r : List UInt8} (h : (bytes s).drop pos = 47 :: r) :
    Lib.spansFromP pD s (f + 1) pos (some a) acc = Lib.spansFromP pD s f (pos + 1) none (acc ++ [(a, pos)]) := by
  obtain ⟨hp, hs, _⟩ := drop_at h
  have h47 : (47 : UInt8).toNat = 47 := rfl
  have hdec := decode_ascii s pos hp (by rw [hs]; omega)
  rw [hs] at hdec
  have hpd : pD (47 : UInt8).toNat = true := by decide
  rw [span_step, if_pos hp, hdec]
  simp only [hpd]
  rfl
theorem span_w {s : ByteArray} (w : List UInt8) : ∀ {rest : List UInt8} {f pos a : Nat} {acc : List (Nat × Nat)}, (bytes s).drop pos = w ++ rest → digs w = true → Lib.spansFromP pD s (f + w.length) pos (some a) acc = Lib.spansFromP pD s f (pos + w.length) (some a) acc := by
  induction w with
  | nil => intro rest f pos a acc _ _; rfl
  | cons c w ih =>
    intro rest f pos a acc h hd
    rw [digs, Bool.and_eq_true] at hd
    rw [List.cons_append] at h
    have e := span_dig (f := f + w.length) (st := some a) (acc := acc) h hd.1
    obtain ⟨_, _, h2⟩ := drop_at h
    rw [List.length_cons, show f + (w.length + 1) = f + w.length + 1 by omega, e]
    rw [show pos + (w.length + 1) = pos + 1 + w.length by omega]
    exact ih h2 hd.2
theorem span_word {s : ByteArray} {w rest : List UInt8} {f pos : Nat} {acc : List (Nat × Nat)} (h : (bytes s).drop pos = w ++ rest) (hd : digs w = true) (hne : w ≠ []) :
    Lib.spansFromP pD s (f + w.length) pos none acc = Lib.spansFromP pD s f (pos + w.length) (some pos) acc := by
  match w, hne, hd, h with
  | c :: w, _, hd, h =>
    rw [digs, Bool.and_eq_true] at hd
    rw [List.cons_append] at h
    have e := span_dig (f := f + w.length) (st := none) (acc := acc) h hd.1
    obtain ⟨_, _, h2⟩ := drop_at h
    rw [List.length_cons, show f + (w.length + 1) = f + w.length + 1 by omega, e, show pos + (w.length + 1) = pos + 1 + w.length by omega]
    exact span_w w h2 hd.2
def spansW (off : Nat) : List (List UInt8) → List (Nat × Nat)
  | [] => []
  | w :: r => (off, off + w.length) :: spansW (off + w.length + 1) r
theorem drop_len {s : ByteArray} {off : Nat} {l : List UInt8} (h : (bytes s).drop off = l) (hl : 0 < l.length) : s.size = off + l.length := by
  have := congrArg List.length h
  rw [List.length_drop, bytes_len] at this
  omega
theorem drop_more {s : ByteArray} {off : Nat} {w r : List UInt8} (h : (bytes s).drop off = w ++ r) : (bytes s).drop (off + w.length) = r := by
  rw [← List.drop_drop, h, List.drop_left]
theorem spans_join {s : ByteArray} : ∀ (ws : List (List UInt8)), ws ≠ [] → (∀ w ∈ ws, digs w = true ∧ w ≠ []) → ∀ (off f : Nat) (acc : List (Nat × Nat)), (bytes s).drop off = Lib.join ws [47] → (Lib.join ws [47]).length ≤ f → Lib.closeSpans s (Lib.spansFromP pD s f off none acc) = acc ++ spansW off ws
  | [], h, _ => absurd rfl h
  | [w], _, hd => by
    intro off f acc hdr hf
    obtain ⟨h1, h2⟩ := hd w (by simp)
    rw [Lib.join_one] at hdr hf
    have hl : 0 < w.length := by cases w with | nil => exact absurd rfl h2 | cons c r => simp
    have hsz := drop_len hdr hl
    have e := span_word (f := f - w.length) (acc := acc) (rest := []) (by rw [List.append_nil]; exact hdr) h1 h2
    rw [show f - w.length + w.length = f by omega] at e
    rw [e, Lib.spansFromP_end pD s _ _ _ _ (by omega)]
    simp only [Lib.closeSpans, spansW]
    rw [← hsz]
  | w :: y :: r, _, hd => by
    intro off f acc hdr hf
    obtain ⟨h1, h2⟩ := hd w (by simp)
    rw [join_cc] at hdr hf
    rw [List.length_append, List.length_cons] at hf
    have e := span_word (f := f - w.length) (acc := acc) hdr h1 h2
    rw [show f - w.length + w.length = f by omega] at e
    have hdr2 := drop_more hdr
    have e2 := span_sep (f := f - w.length - 1) (a := off) (acc := acc) hdr2
    rw [show f - w.length - 1 + 1 = f - w.length by omega] at e2
    obtain ⟨_, _, hdr3⟩ := drop_at hdr2
    rw [e, e2, spans_join (y :: r) (by simp) (fun z hz => hd z (List.mem_cons_of_mem _ hz)) (off + w.length + 1) _ _ hdr3 (by omega), List.append_assoc]
    rfl
theorem spans_map {s : ByteArray} : ∀ (ws : List (List UInt8)) (off : Nat), (bytes s).drop off = Lib.join ws [47] → (spansW off ws).map (fun x => bytes (s.extract x.1 x.2)) = ws
  | [], _, _ => rfl
  | [w], off, h => by
    rw [Lib.join_one] at h
    rw [spansW, spansW, List.map_cons, List.map_nil, extract_bytes, h, show off + w.length - off = w.length by omega, List.take_length]
  | w :: y :: r, off, h => by
    rw [join_cc] at h
    have h2 := drop_more h
    obtain ⟨_, _, h3⟩ := drop_at h2
    rw [spansW, List.map_cons, spans_map (y :: r) _ h3, extract_bytes, h]
    simp only []
    rw [show off + w.length - off = w.length by omega, List.take_left]
theorem words_join {s : ByteArray} {ws : List (List UInt8)} (h : bytes s = Lib.join ws [47]) (hne : ws ≠ []) (hd : ∀ w ∈ ws, digs w = true ∧ w ≠ []) : (wordsD s).map bytes = ws := by
  have hs := spans_join (s := s) ws hne hd 0 s.size [] (by rw [List.drop_zero]; exact h) (by rw [← h, bytes_len]; exact Nat.le_refl _)
  rw [wordsD, Lib.goFieldsP, Lib.spansOfP, hs, List.nil_append, List.map_map]
  exact spans_map ws 0 (by rw [List.drop_zero]; exact h)
theorem span_count (p : Nat → Bool) (s : ByteArray) : ∀ (f pos : Nat) (st : Option Nat) (acc : List (Nat × Nat)), (Lib.spansFromP p s f pos st acc).1.length ≤ acc.length + f := by
  intro f
  induction f with
  | zero => intro pos st acc; exact Nat.le_add_right _ _
  | succ f ih =>
    intro pos st acc
    rw [span_step]
    split
    · split
      · cases st with
        | none => have := ih (pos + (Utf8.decode s pos).2) none acc; simp only; omega
        | some a => have := ih (pos + (Utf8.decode s pos).2) none (acc ++ [(a, pos)]); rw [List.length_append] at this; simp only [List.length_cons, List.length_nil] at this ⊢; omega
      · cases st with
        | none => have := ih (pos + (Utf8.decode s pos).2) (some pos) acc; simp only; omega
        | some a => have := ih (pos + (Utf8.decode s pos).2) (some a) acc; simp only; omega
    · simp only; omega
theorem words_len (s : ByteArray) : (wordsD s).length ≤ s.size + 1 := by
  rw [wordsD, Lib.goFieldsP, List.length_map, Lib.spansOfP, Lib.closeSpans]
  have h := span_count pD s s.size 0 none []
  simp only [List.length_nil] at h
  split
  · rw [List.length_append]; simp only [List.length_cons, List.length_nil]; omega
  · omega
theorem words_size {s w : ByteArray} (h : w ∈ wordsD s) : w.size ≤ s.size := by
  rw [wordsD, Lib.goFieldsP] at h
  obtain ⟨x, _, rfl⟩ := List.mem_map.1 h
  exact extract_size _ _ _
theorem parse_digs (l : List UInt8) : ∀ acc : Nat, digs l = true → valL acc l < 1000000 → Lib.parseUint10 acc l = .ok (valL acc l) := by
  induction l with
  | nil => intro acc _ _; rw [Lib.parseUint10, valL_nil]
  | cons c r ih =>
    intro acc hd hv
    rw [digs, Bool.and_eq_true] at hd
    have hc := isD_true.1 hd.1
    rw [valL_cons] at hv ⊢
    have hge := valL_ge r (acc * 10 + (c.toNat - 48))
    rw [Lib.parseUint10, if_pos hc, if_neg (by omega), if_neg (by omega)]
    exact ih _ hd.2 hv
theorem atoi_dec {n : Nat} (h : n < 1000) : Lib.atoiAll (Lib.decDigits n) = .ok (n : Int) := by
  have hd := dec_digs n
  have hv := dec_val n
  have hp := parse_digs (Lib.decDigits n) 0 hd (by rw [hv]; omega)
  rw [hv] at hp
  have hne := dec_ne n
  cases hl : Lib.decDigits n with
  | nil => exact absurd hl hne
  | cons c r =>
    rw [hl] at hd hp
    rw [digs, Bool.and_eq_true] at hd
    have hc := isD_true.1 hd.1
    have hm : Lib.parseMag (c :: r) = .ok n := by rw [Lib.parseMag, if_neg (by simp)]; exact hp
    rw [Lib.atoiAll]
    simp only [show ¬ c.toNat = 43 by omega, show ¬ c.toNat = 45 by omega, or_self, if_false, hm, not_false_eq_true, true_and, false_and]
    rw [if_neg (by omega)]
theorem numG_decs : ∀ (ns : List Nat) (ws : List ByteArray) (acc : List Int), ws.map bytes = decs ns → (∀ n ∈ ns, n < 1000) → numG acc ws = acc ++ ns.map fun z : Nat => (z : Int)
  | [], [], acc, _, _ => by simp [numG]
  | n :: ns, w :: ws, acc, h, hb => by
    rw [List.map_cons, decs, List.map_cons] at h
    injection h with h1 h2
    have hw : Lib.atoiAll w.data.toList = .ok (n : Int) := by
      rw [show w.data.toList = Lib.decDigits n from h1]
      exact atoi_dec (hb n (by simp))
    rw [numG, hw]
    simp only []
    rw [numG_decs ns ws _ h2 fun z hz => hb z (List.mem_cons_of_mem _ hz), List.append_assoc]
    rfl
  | [], w :: ws, _, h, _ => by simp [decs] at h
  | n :: ns, [], _, h, _ => by simp [decs] at h
theorem numF_text {s : ByteArray} {a b c d : Nat} (h : IsT s a b c d) : numF s = [(a : Int), (b : Int), (c : Int), (d : Int)] := by
  obtain ⟨h1, h2, h3, h4, h5⟩ := h
  have hw := words_join (ws := decs [a, b, c, d]) (s := s) h5 (by simp [decs]) (fun w hw => ⟨decs_digs _ w hw, by obtain ⟨n, _, rfl⟩ := List.mem_map.1 hw; exact dec_ne n⟩)
  rw [numF, numG_decs [a, b, c, d] _ _ hw (fun n hn => by simp at hn; rcases hn with rfl | rfl | rfl | rfl <;> omega)]
  rfl
end Go.Proofs.YtoclndbenpagnaaDoor
