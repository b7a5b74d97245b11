/-
  Contracts: an order of jobs is one (all different, none beyond).
-/
import Derived.Test.YtfjkmocjlmcjdaaPr5
import Derived.Maps.OwnOps
import Derived.Maps.Views
namespace Go.Proofs.Ytfjkmocjlmcjdaa
open Go.RowKit Go.Maps
theorem plainElem_bool_inv {H : Type} {P : Program} {e : TypeId} (he : P.underlying e = some .bool) {v : Value} {z : DataW H × List MemPlace} (h : plainElem P e v = some z) : ∃ a, v = .bool a ∧ z = (.lit (.bool a), []) := by
  unfold plainElem at h
  rw [he] at h
  cases v <;> simp at h
  subst h
  exact ⟨_, rfl, rfl⟩
theorem lookup_bool {H : Type} {P : Program} {w : World} {k e t : TypeId} {b n : Nat} {D : DataW H} (h : w.ownsMap P k (plainElem P e) b n D) (K : Keyed P k) (ht : P.underlying t = some (.map k e)) (he : P.underlying e = some .bool) (hz : (zeroValue e).run P w = .ok (.bool false) w)
    {key : Value} {kl : Lit} (hkey : keyOf P k key = some kl) : ∃ c, (Instr.lookup t (.map (some b)) key false).run P w = .ok (.bool c) w ∧ D.atKey kl (.lit (.bool false)) = .lit (.bool c) := by
  obtain ⟨v, ps, hrun, hv⟩ := h.lookup K ht hz (plainElem_bool he false) hkey
  obtain ⟨c, rfl, hc⟩ := plainElem_bool_inv he hv
  simp only [Prod.mk.injEq] at hc
  exact ⟨c, hrun, hc.1⟩
/-- The set of the numbers met so far. -/
def seenD (zs : List Int) : DataW Unit := zs.foldl (fun D z => D.put (.int .i64 z) (.lit (.bool true))) (.map [])
theorem seenD_snoc (zs : List Int) (z : Int) : seenD (zs ++ [z]) = (seenD zs).put (.int .i64 z) (.lit (.bool true)) := by simp [seenD]
theorem seenD_map (zs : List Int) : IsMap (seenD zs) := by
  have : ∀ (l : List Int) (D : DataW Unit), IsMap D → IsMap (l.foldl (fun D z => D.put (.int .i64 z) (.lit (.bool true))) D) := by
    intro l
    induction l with
    | nil => intro D h; exact h
    | cons x r ih => intro D h; exact ih _ (h.put _ _)
  exact this zs _ isMap_empty
theorem seenD_at (zs : List Int) (y : Int) : (seenD zs).atKey (.int .i64 y) (.lit (.bool false)) = .lit (.bool (decide (y ∈ zs))) := by
  have key : ∀ (n : Nat) (l : List Int), l.length = n → (seenD l).atKey (.int .i64 y) (.lit (.bool false)) = .lit (.bool (decide (y ∈ l))) := by
    intro n
    induction n with
    | zero =>
      intro l hl
      have : l = [] := List.eq_nil_of_length_eq_zero hl
      subst this
      rfl
    | succ n ih =>
      intro l hl
      obtain ⟨r, z, rfl⟩ : ∃ r z, l = r ++ [z] := ⟨l.dropLast, l.getLast (by intro h; subst h; simp at hl), (List.dropLast_concat_getLast _).symm⟩
      have hr : r.length = n := by simpa using hl
      rw [seenD_snoc]
      by_cases hz : y = z
      · subst hz
        rw [atKey_put_same (seenD_map r) (by simp [WideAt.IsKeyLit])]
        simp
      · rw [atKey_put_other (by intro h; injection h with _ h; exact hz h), ih r hr]
        simp [hz]
  exact key _ zs rfl
def dupL (seen : List Int) : List Int → Bool
  | [] => true
  | y :: r => !decide (y ∈ seen) && dupL (seen ++ [y]) r
def diffL (hi : Int) (seen : List Int) : List Int → Bool
  | [] => true
  | y :: r => inB y 0 hi && (!decide (y ∈ seen) && diffL hi (seen ++ [y]) r)
theorem diffL_eq {hi : Int} : ∀ {xs seen : List Int}, diffL hi seen xs = (allB 0 hi xs && dupL seen xs)
  | [], _ => rfl
  | y :: r, seen => by
    rw [diffL, allB, dupL, diffL_eq]
    cases inB y 0 hi <;> cases decide (y ∈ seen) <;> cases allB 0 hi r <;> simp
theorem i64_wf {y : Int} (h : -9223372036854775808 ≤ y ∧ y ≤ 9223372036854775807) : (Lit.int .i64 y).wf = true := by
  simp [Lit.wf, IntKind.min, IntKind.max, IntKind.signed, IntKind.bits]; omega
theorem keyed3 : Keyed Try.prog 3 := int_keyed Try.underlying3
theorem zeroB (w : World) : (zeroValue 4).run Try.prog w = .ok (.bool false) w := by kernel_rfl
end Go.Proofs.Ytfjkmocjlmcjdaa
