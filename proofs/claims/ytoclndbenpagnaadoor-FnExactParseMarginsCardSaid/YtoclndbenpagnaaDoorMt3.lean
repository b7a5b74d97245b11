/-
  Contracts: the texts of margins on both sides.
-/
import Derived.Test.YtoclndbenpagnaaDoorMt2
import Derived.Test.YtoclndbenpagnaaDoorMtS
import Derived.Lib.AppendIntMem
namespace Go.Proofs.YtoclndbenpagnaaDoor
open Go.RowKit
/-- The table that strconv.Itoa reads. -/
def Tab (w : World) : Prop := Lib.TabIs Tryd.prog w "internal/strconv.uint64pow10" .u64 Lib.pow10Tab
theorem gPow : Tryd.prog.globalNamed "internal/strconv.uint64pow10" = some 2 := by kernel_rfl
theorem Tab.below {w w' : World} (h : Tab w) (hb : Below w.heap.size w w') : Tab w' := by
  unfold Tab Lib.TabIs World.var? at *
  rw [gPow] at *
  simp only [Option.bind_some] at *
  have hlt : 2 < w.heap.size := by
    cases hg : w.heap[2]? with
    | none => rw [hg] at h; simp at h
    | some o => exact (Array.getElem?_eq_some_iff.1 hg).1
  rw [hb.block 2 hlt]
  exact h
theorem Tab.alloc {w : World} (h : Tab w) (o : Obj) : Tab (w.alloc o) := h.below ((Below.refl _ _).alloc (Nat.le_refl _) o)
def decs (ns : List Nat) : List (List UInt8) := ns.map Lib.decDigits
def joinN (ns : List Nat) : List UInt8 := Lib.join (decs ns) [47]
theorem join_snoc {xs : List (List UInt8)} {y sep : List UInt8} (h : xs ≠ []) : Lib.join (xs ++ [y]) sep = Lib.join xs sep ++ sep ++ y := by
  match xs, h with
  | x :: r, _ =>
    rw [List.cons_append, Lib.join_cons, Lib.join_cons, Lib.joinTail, Lib.joinTail, List.map_append, List.flatten_append]
    simp
theorem joinN_0 (ns : List Nat) : joinN (ns.take 0) = [] := rfl
theorem joinN_1 {ns : List Nat} {x : Nat} (h : ns[0]? = some x) : joinN (ns.take 1) = Lib.decDigits x := by
  match ns, h with
  | y :: r, h =>
    simp at h
    subst h
    exact Lib.join_one _ _
theorem joinN_s {ns : List Nat} {k x : Nat} (hk : 0 < k) (h : ns[k]? = some x) : joinN (ns.take (k + 1)) = joinN (ns.take k) ++ [47] ++ Lib.decDigits x := by
  have hl := (List.getElem?_eq_some_iff.1 h).1
  rw [joinN, decs, List.take_add_one, h, List.map_append]
  refine join_snoc fun e => ?_
  have h9 := congrArg List.length e
  rw [List.length_map, List.length_take] at h9
  have h8 : min k ns.length = 0 := h9
  omega
theorem joinN_len {ns : List Nat} (h : ∀ x ∈ ns, x < 1000) : ∀ k, k ≤ ns.length → (joinN (ns.take k)).length ≤ 4 * k
  | 0, _ => by simp [joinN, decs, Lib.join_nil]
  | k + 1, hk => by
    have hx : ns[k]? = some (ns[k]'(by omega)) := List.getElem?_eq_getElem _
    have h3 := dig_len (h _ (List.mem_of_getElem? hx))
    have ih := joinN_len h k (by omega)
    by_cases h0 : 0 < k
    · rw [joinN_s h0 hx]
      simp
      omega
    · have : k = 0 := by omega
      subst this
      rw [joinN_1 hx]
      omega
set_option maxRecDepth 100000 in
set_option maxHeartbeats 4000000 in
theorem mgText_any {a b c d : Nat} (h1 : a < 1000) (h2 : b < 1000) (h3 : c < 1000) (h4 : d < 1000) {w : World} : Calls Tryd.prog 17 #[.agg #[.int .i64 (a : Int), .int .i64 (b : Int), .int .i64 (c : Int), .int .i64 (d : Int)]] w fun e w' => e = .returned (.string (str (joinN [a, b, c, d]))) ∧ Below w.heap.size w w' := by
  have hb0 : Below w.heap.size w (w.alloc (.cells #[.int .i64 (a : Int), .int .i64 (b : Int), .int .i64 (c : Int), .int .i64 (d : Int)] 23)) := (by (repeat (first | exact Below.refl _ _ | exact hb | apply Below.drew | (refine Below.alloc ?_ (by first | (simp; done) | (simp; omega) | (have := hb.size; simp at this ⊢; omega)) _) | (refine Below.setCell ?_ (by simp) _))))
  have HB := Lib.hid (show ∀ x ∈ [a, b, c, d], x < 1000 from fun x hx => by simp at hx; rcases hx with rfl | rfl | rfl | rfl <;> assumption)
  clear h1 h2 h3 h4
  go_enter Tryd.func17, Tryd.ntmps17
  go_wp2_with fail
  refine (mgParts_any).mono ?_
  rintro e1 w1 ⟨V, rfl, hV, hn⟩
  have hb1 := hb0.trans (hn.mono hb0.size)
  have HV := Lib.hid hV
  clear hn hV hb0
  go_wp2_with fail
  go_loopw [3, 9] (fun s u wr => ∃ k : Nat, k ≤ 4 ∧ u = .int .i64 k ∧ s = .string (str (joinN (([a, b, c, d] : List Nat).take k))) ∧ Below w1.heap.size w1 wr) (fun _ u _ => 4 - (intOf u).toNat)
  case atStart => exact ⟨0, by omega, rfl, rfl, Below.refl _ _⟩
  case round =>
    obtain ⟨k, hk, rfl, rfl, hb⟩ := hrel
    have HL := Lib.hid (joinN_len HB.out k (by simpa using hk))
    by_cases hlt : k < 4
    · obtain ⟨ad, x, rfl, _, _, hx, hc⟩ := RInts.at_ (HV.out.below hb) hlt
      obtain ⟨m, hm⟩ : ∃ m, ([a, b, c, d] : List Nat)[k]? = some m := ⟨_, List.getElem?_eq_getElem (by simpa using hlt)⟩
      have hxm : x = (m : Int) := by
        have h9 : ([a, b, c, d].map fun z : Nat => (z : Int))[k]? = some (m : Int) := by rw [List.getElem?_map, hm]; rfl
        simp only [List.map_cons, List.map_nil] at h9
        rw [hx] at h9
        injection h9
      subst hxm
      have hm9 := HB.out m (List.mem_of_getElem? hm)
      have hsz : (str (joinN (([a, b, c, d] : List Nat).take k))).size ≤ 1000 := by rw [str_size]; have := HL.out; omega
      have hsn : (numS m).size ≤ 3 := by rw [numS, str_size]; exact dig_len hm9
      by_cases h0 : k = 0
      · have HJ := Lib.hid (show str (joinN (([a, b, c, d] : List Nat).take k)) ++ numS m = str (joinN (([a, b, c, d] : List Nat).take (k + 1))) by
          subst h0
          rw [joinN_0, joinN_1 hm, numS, str_append]; rfl)
        have l0 : (k : Int) ≤ 0 := by omega
        clear hx hm HV h0
        go_wp2_with fail
        refine (l1Num_any m hm9 _).mono ?_
        rintro e2 w2 ⟨rfl, hn⟩
        replace hb := hb.trans (hn.mono hb.size)
        clear hn hc
        go_wp2_with fail
        go_roundw
        case rel => exact ⟨k + 1, by omega, by go_num, by rw [← HJ.out], hb⟩
        case measure => simp [intOf]; omega
      · have l0 : (0 : Int) < (k : Int) := by omega
        have hsq : (str (joinN (([a, b, c, d] : List Nat).take k)) ++ (⟨#[47]⟩ : ByteArray)).size ≤ 1001 := by
          rw [show (⟨#[47]⟩ : ByteArray) = str [47] from rfl, str_append, str_size, List.length_append]
          have := HL.out
          simp
          omega
        have HJ := Lib.hid (show str (joinN (([a, b, c, d] : List Nat).take k)) ++ (⟨#[47]⟩ : ByteArray) ++ numS m = str (joinN (([a, b, c, d] : List Nat).take (k + 1))) by
          rw [joinN_s (by omega) hm, show (⟨#[47]⟩ : ByteArray) = str [47] from rfl, numS, str_append, str_append])
        clear hx hm h0 HV
        go_wp2_with fail
        refine (l1Num_any m hm9 _).mono ?_
        rintro e2 w2 ⟨rfl, hn⟩
        replace hb := hb.trans (hn.mono hb.size)
        clear hn hc
        go_wp2_with fail
        go_roundw
        case rel => exact ⟨k + 1, by omega, by go_num, by rw [← HJ.out], hb⟩
        case measure => simp [intOf]; omega
    · have hk4 : k = 4 := by omega
      subst hk4
      have hb9 := hb1.trans (hb.mono hb1.size)
      clear HV hb hb1
      go_wp2_with fail
      go_ret
      exact ⟨rfl, hb9⟩
end Go.Proofs.YtoclndbenpagnaaDoor
