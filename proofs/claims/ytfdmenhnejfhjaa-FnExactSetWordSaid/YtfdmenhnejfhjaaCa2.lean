/-
  Contracts: a case of boxes is one; a code is found in it.
-/
import Derived.Test.YtfdmenhnejfhjaaCa1
import Derived.Deep.RegionHeld3
import Derived.BigQuiet
namespace Go.Proofs.Ytfdmenhnejfhjaa
open Go.RowKit
def eqS (a b : ByteArray) : Bool := a.toList == b.toList
def lessS (a b : ByteArray) : Bool := Go.Op.bytesLess a.toList b.toList
def findL (c : ByteArray) : List Bx → Int → Int
  | [], _ => -1
  | b :: r, i => if eqS b.code c then i else findL c r (i + 1)
theorem findL_bd {c : ByteArray} : ∀ {ms : List Bx} {i : Int}, 0 ≤ i → findL c ms i = -1 ∨ (i ≤ findL c ms i ∧ findL c ms i < i + ms.length)
  | [], _, _ => .inl rfl
  | b :: r, i, h => by
    rw [findL]
    split
    · right; simp only [List.length_cons]; omega
    · rcases findL_bd (c := c) (ms := r) (i := i + 1) (by omega) with h1 | h1
      · exact .inl h1
      · right; simp only [List.length_cons]; omega
theorem caFind_any {A : Option Addr} {n cp : Nat} {ms : List Bx} {c : ByteArray} {w : World} (hr : RBxs w w.heap.size A n ms) (hn : n ≤ 1048576) :
    Calls Try.prog 53 #[.slice A n cp, .string c] w fun e w' => e = .returned (.int .i64 (findL c ms 0)) ∧ Below w.heap.size w w' := by
  have HL := Lib.hid hr.len
  go_enter Try.func53, Try.ntmps53
  go_wp2_with fail
  go_loopw [9] (fun u wr => ∃ k : Nat, k ≤ n ∧ u = .int .i64 k ∧ findL c (ms.drop k) k = findL c ms 0 ∧ Below w.heap.size w wr) (fun u _ => n - (intOf u).toNat)
  case atStart => exact ⟨0, Nat.zero_le _, rfl, rfl, Below.refl _ _⟩
  case round =>
    obtain ⟨k, hk, rfl, hR, hb⟩ := hrel
    by_cases hlt : k < n
    · obtain ⟨bb, off, b, rfl, _, hd, _, c0, c1, c2, c3⟩ := RBxs.at_ (hr.below hb) hlt
      have HR := Lib.hid (show (if eqS b.code c then (k : Int) else findL c (ms.drop (k + 1)) ((k + 1 : Nat) : Int)) = findL c ms 0 by rw [← hR, hd, findL]; rfl)
      clear hd hR
      replace hb := hb.alloc hb.size (.cells #[.string b.code, .int .i64 b.line, .int .i64 b.column, .int .i64 b.count] 71)
      cases h1 : eqS b.code c
      · have e1 : (b.code.toList == c.toList) = false := h1
        have H1 := Lib.hid h1; clear h1
        go_wp2_with fail
        go_roundw
        case rel => exact ⟨k + 1, by omega, by go_num, by rw [← HR.out, H1.out]; simp, hb⟩
        case measure => simp [intOf]; omega
      · have e1 : (b.code.toList == c.toList) = true := h1
        have H1 := Lib.hid h1; clear h1
        go_wp2_with fail
        go_ret
        exact ⟨ret_int (by rw [← HR.out, H1.out]; rfl), hb⟩
    · have HR := Lib.hid (show findL c ms 0 = -1 by rw [← hR, drop_end HL.out hlt]; rfl)
      clear hR
      go_wp2_with fail
      go_ret
      exact ⟨ret_int (by rw [HR.out]), hb⟩
theorem boxAt_any {A : Option Addr} {n cp : Nat} {ms : List Bx} {c : ByteArray} {w : World} (hr : RBxs w w.heap.size A n ms) (hn : n ≤ 1048576) :
    Calls Try.prog 58 #[.slice A n cp, .string c] w fun e w' => e = .returned (.int .i64 (findL c ms 0)) ∧ Below w.heap.size w w' := by
  have HL := Lib.hid hr.len
  go_enter Try.func58, Try.ntmps58
  go_wp2_with fail
  go_loopw [9] (fun u wr => ∃ k : Nat, k ≤ n ∧ u = .int .i64 k ∧ findL c (ms.drop k) k = findL c ms 0 ∧ Below w.heap.size w wr) (fun u _ => n - (intOf u).toNat)
  case atStart => exact ⟨0, Nat.zero_le _, rfl, rfl, Below.refl _ _⟩
  case round =>
    obtain ⟨k, hk, rfl, hR, hb⟩ := hrel
    by_cases hlt : k < n
    · obtain ⟨bb, off, b, rfl, _, hd, _, c0, c1, c2, c3⟩ := RBxs.at_ (hr.below hb) hlt
      have HR := Lib.hid (show (if eqS b.code c then (k : Int) else findL c (ms.drop (k + 1)) ((k + 1 : Nat) : Int)) = findL c ms 0 by rw [← hR, hd, findL]; rfl)
      clear hd hR
      replace hb := hb.alloc hb.size (.cells #[.string b.code, .int .i64 b.line, .int .i64 b.column, .int .i64 b.count] 71)
      cases h1 : eqS b.code c
      · have e1 : (b.code.toList == c.toList) = false := h1
        have H1 := Lib.hid h1; clear h1
        go_wp2_with fail
        go_roundw
        case rel => exact ⟨k + 1, by omega, by go_num, by rw [← HR.out, H1.out]; simp, hb⟩
        case measure => simp [intOf]; omega
      · have e1 : (b.code.toList == c.toList) = true := h1
        have H1 := Lib.hid h1; clear h1
        go_wp2_with fail
        go_ret
        exact ⟨ret_int (by rw [← HR.out, H1.out]; rfl), hb⟩
    · have HR := Lib.hid (show findL c ms 0 = -1 by rw [← hR, drop_end HL.out hlt]; rfl)
      clear hR
      go_wp2_with fail
      go_ret
      exact ⟨ret_int (by rw [HR.out]), hb⟩
/-- The box in place k is good behind the boxes before it. -/
def ordK (ms : List Bx) (k : Nat) (b : Bx) : Bool := match k with | 0 => true | j + 1 => lessS ((ms[j]?).getD ⟨⟨#[]⟩, 0, 0, 0⟩).code b.code
def goodK (ms : List Bx) (k : Nat) (b : Bx) : Bool := boxB b && (ordK ms k b && !takB b.line b.column (ms.take k))
def goodF (ms : List Bx) : Nat → Nat → Bool
  | 0, _ => true
  | f + 1, k => goodK ms k ((ms[k]?).getD ⟨⟨#[]⟩, 0, 0, 0⟩) && goodF ms f (k + 1)
def caseB (ms : List Bx) : Bool := goodF ms ms.length 0 && inB ms.length 1 32
theorem goodF_step {ms : List Bx} {n k : Nat} {b : Bx} (h : k < n) (hb : ms[k]? = some b) : goodF ms (n - k) k = (goodK ms k b && goodF ms (n - (k + 1)) (k + 1)) := by
  rw [show n - k = (n - (k + 1)) + 1 by omega, goodF, hb]; rfl
theorem RBxs_take {w : World} {B n k : Nat} {A : Option Addr} {ms : List Bx} (h : RBxs w B A n ms) (hk : k ≤ n) : RBxs w B A k (ms.take k) := by
  obtain ⟨h1, h2, h3, h4⟩ := h
  refine ⟨by simp at h1 ⊢; omega, fun r hr => h2 r ?_, ?_, fun hp => ?_⟩
  · obtain ⟨x, hx, e⟩ := List.mem_map.1 hr
    exact List.mem_map.2 ⟨x, List.mem_of_mem_take hx, e⟩
  · rw [flatten_len (size := 4) (fun r hr => by obtain ⟨x, _, rfl⟩ := List.mem_map.1 hr; rfl), List.length_map, List.length_take]
    simp at h1; omega
  · obtain ⟨ad, e, hb, hc⟩ := h4 (by omega)
    refine ⟨ad, e, hb, fun j u hu => hc j u ?_⟩
    have hl : ((ms.take k).map Bx.row).flatten.length = (ms.take k).length * 4 := by rw [flatten_len (size := 4) (fun r hr => by obtain ⟨x, _, rfl⟩ := List.mem_map.1 hr; rfl), List.length_map]
    have hj : j < ((ms.take k).map Bx.row).flatten.length := (List.getElem?_eq_some_iff.1 hu).1
    have e2 : (ms.map Bx.row).flatten = ((ms.take k).map Bx.row).flatten ++ ((ms.drop k).map Bx.row).flatten := by rw [← List.flatten_append, ← List.map_append, List.take_append_drop]
    rw [e2, List.getElem?_append_left hj]
    exact hu
theorem isBox_is (b : Bx) (w : World) (hs : b.code.size ≤ 1048576) {v : Bool} (hv : boxB b = v) : Calls Try.prog 63 #[.agg #[.string b.code, .int .i64 b.line, .int .i64 b.column, .int .i64 b.count]] w fun e w' => e = .returned (.bool v) ∧ Below w.heap.size w w' := by
  subst hv; exact isBox_any b w hs
theorem caBox_is (b : Bx) (w : World) (hs : b.code.size ≤ 1048576) {v : Bool} (hv : boxB b = v) : Calls Try.prog 62 #[.agg #[.string b.code, .int .i64 b.line, .int .i64 b.column, .int .i64 b.count]] w fun e w' => e = .returned (.bool v) ∧ Below w.heap.size w w' := by
  subst hv; exact caBox_any b w hs
theorem isTaken_is {A : Option Addr} {n c : Nat} {ms : List Bx} {p q : Int} {w : World} (hr : RBxs w w.heap.size A n ms) (hn : n ≤ 1048576) {v : Bool} (hv : takB p q ms = v) :
    Calls Try.prog 64 #[.slice A n c, .int .i64 p, .int .i64 q] w fun e w' => e = .returned (.bool v) ∧ Below w.heap.size w w' := by
  subst hv; exact isTaken_any hr hn
end Go.Proofs.Ytfdmenhnejfhjaa
