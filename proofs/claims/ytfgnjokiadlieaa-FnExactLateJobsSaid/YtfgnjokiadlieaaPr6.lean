/-
  Contracts: an order of jobs is one (all different, none beyond).
-/
import Derived.Test.YtfgnjokiadlieaaPr5
import Derived.Maps.OwnOps
import Derived.Maps.Views
namespace Go.Proofs.Ytfgnjokiadlieaa
open Go.RowKit Go.Maps
theorem plainElem_bool_inv {H : Type} {P : Program} {e : TypeId} (he : P.underlying e = some .bool) {v : Value} {z : DataW H × List MemPlace} (h : plainElem P e v = some z) : ∃ a, v = .bool a ∧ z = (.lit (.bool a), []) := by
  unfold plainElem at h
  rw [he] at h
  cases v <;> simp at h
  subst h
  exact ⟨_, rfl, rfl⟩
theorem lookup_bool {H : Type} {P : Program} {w : World} {k e t : TypeId} {b n : Nat} {D : DataW H} (h : w.ownsMap P k (plainElem P e) b n D) (K : Keyed P k) (ht : P.underlying t = some (.map k e)) (he : P.underlying e = some .bool) (hz : (zeroValue e).run P w = .ok (.bool false) w)
    {key : Value} {kl : Lit} (hkey : keyOf P k key = some kl) : ∃ c, (Instr.lookup t (.map (some b)) key false).run P w = .ok (.bool c) w ∧ D.atKey kl (.lit (.bool false)) = .lit (.bool c) := by
  obtain ⟨v, ps, hrun, hv⟩ := h.lookup K ht hz (plainElem_bool he false) hkey
  obtain ⟨c, rfl, hc⟩ := plainElem_bool_inv he hv
  simp only [Prod.mk.injEq] at hc
  exact ⟨c, hrun, hc.1⟩
/-- The set of the numbers met so far. -/
def seenD (zs : List Int) : DataW Unit := zs.foldl (fun D z => D.put (.int .i64 z) (.lit (.bool true))) (.map [])
theorem seenD_snoc (zs : List Int) (z : Int) : seenD (zs ++ [z]) = (seenD zs).put (.int .i64 z) (.lit (.bool true)) := by simp [seenD]
theorem seenD_map (zs : List Int) : IsMap (seenD zs) := by
  have : ∀ (l : List Int) (D : DataW Unit), IsMap D → IsMap (l.foldl (fun D z => D.put (.int .i64 z) (.lit (.bool true))) D) := by
    intro l
    induction l with
    | nil => intro D h; exact h
    | cons x r ih => intro D h; exact ih _ (h.put _ _)
  exact this zs _ isMap_empty
theorem seenD_at (zs : List Int) (y : Int) : (seenD zs).atKey (.int .i64 y) (.lit (.bool false)) = .lit (.bool (decide (y ∈ zs))) := by
  have key : ∀ (n : Nat) (l : List Int), l.length = n → (seenD l).atKey (.int .i64 y) (.lit (.bool false)) = .lit (.bool (decide (y ∈ l))) := by
    intro n
    induction n with
    | zero =>
      intro l hl
      have : l = [] := List.eq_nil_of_length_eq_zero hl
      subst this
      rfl
    | succ n ih =>
      intro l hl
      obtain ⟨r, z, rfl⟩ : ∃ r z, l = r ++ [z] := ⟨l.dropLast, l.getLast (by intro h; subst h; simp at hl), (List.dropLast_concat_getLast _).symm⟩
      have hr : r.length = n := by simpa using hl
      rw [seenD_snoc]
      by_cases hz : y = z
      · subst hz
        rw [atKey_put_same (seenD_map r) (by simp [WideAt.IsKeyLit])]
        simp
      · rw [atKey_put_other (by intro h; injection h with _ h; exact hz h), ih r hr]
        simp [hz]
  exact key _ zs rfl
def dupL (seen : List Int) : List Int → Bool
  | [] => true
  | y :: r => !decide (y ∈ seen) && dupL (seen ++ [y]) r
def diffL (hi : Int) (seen : List Int) : List Int → Bool
  | [] => true
  | y :: r => inB y 0 hi && (!decide (y ∈ seen) && diffL hi (seen ++ [y]) r)
theorem diffL_eq {hi : Int} : ∀ {xs seen : List Int}, diffL hi seen xs = (allB 0 hi xs && dupL seen xs)
  | [], _ => rfl
  | y :: r, seen => by
    rw [diffL, allB, dupL, diffL_eq]
    cases inB y 0 hi <;> cases decide (y ∈ seen) <;> cases allB 0 hi r <;> simp
theorem i64_wf {y : Int} (h : -9223372036854775808 ≤ y ∧ y ≤ 9223372036854775807) : (Lit.int .i64 y).wf = true := by
  simp [Lit.wf, IntKind.min, IntKind.max, IntKind.signed, IntKind.bits]; omega
theorem keyed3 : Keyed Try.prog 3 := int_keyed Try.underlying3
theorem zeroB (w : World) : (zeroValue 4).run Try.prog w = .ok (.bool false) w := by kernel_rfl
theorem isDifferent_any {A : Option Addr} {n c B : Nat} {xs : List Int} {q : Int} {w : World} (hr : RInts w B A n xs) (hB : B ≤ w.heap.size) (hn : n ≤ 1048576) (hq : 0 ≤ q ∧ q ≤ 1048576) :
    Calls Try.prog 85 #[.slice A n c, .int .i64 q] w fun e w' => e = .returned (.bool (diffL (q - 1) [] xs)) ∧ Below w.heap.size w w' := by
  have hmm := @run_makeMap Try.prog
  have HL := Lib.hid hr.len
  go_enter Try.func85, Try.ntmps85
  go_wp2_with fail
  go_loopw [11] (fun i wr => ∃ k : Nat, k ≤ n ∧ i = .int .i64 k ∧ wr.ownsMap Try.prog 3 (plainElem Try.prog 4) w.heap.size k (seenD (xs.take k)) ∧ diffL (q - 1) (xs.take k) (xs.drop k) = diffL (q - 1) [] xs ∧ Below w.heap.size w wr ∧ w.heap.size ≤ wr.heap.size) (fun i _ => n - (intOf i).toNat)
  case atStart => exact ⟨0, Nat.zero_le _, rfl, World.ownsMap_made _ _ _ _, rfl, (Below.refl _ _).alloc (Nat.le_refl _) _, by simp⟩
  case round =>
    obtain ⟨k, hk, rfl, hown, hR, hb, hsz⟩ := hrel
    by_cases hlt : k < n
    · obtain ⟨ad, y, rfl, _, hd, hy, hc⟩ := RInts.at_ ((hr.more hB).below hb) hlt
      have HT := Lib.hid (show xs.take (k + 1) = xs.take k ++ [y] by rw [List.take_add_one, hy]; rfl)
      have HR := Lib.hid (show (inB y 0 (q - 1) && (!decide (y ∈ xs.take k) && diffL (q - 1) (xs.take (k + 1)) (xs.drop (k + 1)))) = diffL (q - 1) [] xs by rw [HT.out, ← hR, hd, diffL])
      clear hd hR hy
      cases h1 : inB y 0 (q - 1)
      · go_wp2_with (go_at_call 57; refine (within_any _ _ _ _).mono ?_; rintro e1 w1 ⟨rfl, rfl⟩)
        go_ret
        exact ⟨ret_bool (by rw [← HR.out, h1]; rfl), hb⟩
      have b1 := inB_true.1 h1
      have hkey : keyOf Try.prog 3 (.int .i64 y) = some (.int .i64 y) := keyOf_int_mk Try.underlying3 (i64_wf (by omega))
      obtain ⟨cc, hrun, hat⟩ := lookup_bool hown keyed3 Try.underlying86 Try.underlying4 (zeroB _) hkey
      rw [seenD_at] at hat
      injection hat with hat
      injection hat with hat
      subst hat
      cases h2 : decide (y ∈ xs.take k)
      · rw [h2] at hrun
        have hin : plainElem (H := Unit) Try.prog 4 (.bool true) = some (.lit (.bool true), []) := plainElem_bool Try.underlying4 true
        have HI := Lib.hid hin
        have HK := Lib.hid hkey
        clear hin hkey
        go_wp2_with (first | (go_at_call 57; refine (within_any _ _ _ _).mono ?_; rintro e1 w1 ⟨rfl, rfl⟩) | (at_mapUpdate; refine wpList_mapUpdate_own _ rfl _ _ _ 86 rfl 3 4 keyed3 Try.underlying86 _ w.heap.size k _ rfl hown (by unfold maxLen; omega) _ _ _ rfl rfl HK.out _ [] HI.out ?_; intro w1 hown1 hgrow1))
        go_roundw
        case rel => exact ⟨k + 1, by omega, by go_num, by rw [HT.out, seenD_snoc]; exact hown1, by rw [← HR.out, h1, h2]; rfl, hb.grown hgrow1 hsz (fun j hj => by cases hj; exact Nat.le_refl _), by have := hgrow1.size; omega⟩
        case measure => simp [intOf]; omega
      · rw [h2] at hrun
        go_wp2_with (go_at_call 57; refine (within_any _ _ _ _).mono ?_; rintro e1 w1 ⟨rfl, rfl⟩)
        go_ret
        exact ⟨ret_bool (by rw [← HR.out, h1, h2]; rfl), hb⟩
    · have HR := Lib.hid (show diffL (q - 1) [] xs = true by rw [← hR, drop_end HL.out hlt]; rfl)
      clear hR
      go_wp2_with fail
      go_ret
      exact ⟨ret_bool HR.out.symm, hb⟩
end Go.Proofs.Ytfgnjokiadlieaa
