/-
  The rows' steps of laws whose rows list plain package-level variables: what the condition gives the walk, and a law's row out of its contract.
-/
import Derived.Test.YtoclndbenpagnaaDoorMt3
import Derived.Test.YtoclndbenpagnaaDoorFrame
import Derived.Test.YtoclndbenpagnaaDoorRows
import Derived.LaidMore
import Derived.MakeChecks
import Derived.Stop.LaidErr
import Derived.Stop.Joined
import Derived.Lib.LaidTab
namespace Go.Proofs.YtoclndbenpagnaaDoor
open Go.ChangeShapes Go.WideShapes Go.ChangeAt Go.RowKit
theorem tPow : (Tryd.prog.globals[2]?).map (·.type) = some 92 := by kernel_rfl
theorem dPow : Rows.laid_internal_strconv_uint64pow10 (H := Unit) = Lib.tabData .u64 Lib.pow10Tab := by
  unfold Rows.laid_internal_strconv_uint64pow10 Lib.tabData Lib.pow10Tab
  rfl
theorem tab_of_laid {rest : List (String × DataW Unit)} {W : World} (h : laidMet Tryd.prog (("internal/strconv.uint64pow10", Rows.laid_internal_strconv_uint64pow10) :: rest) W) : Tab W := by
  rw [dPow] at h
  exact Lib.tabIs_of_head gPow tPow Tryd.underlying92 Tryd.underlying68 (by kernel_rfl) (by kernel_rfl) h

set_option maxRecDepth 100000 in
/-- A law's row whose condition lists variables, out of its contract. -/
theorem law_lift_laid {H : Type} {enc : TypeId × Value → H} {os : Os} (started : os.Started) (laid : List (String × DataW Unit)) {f : FuncId} {fn : Func} {s : ChangeSpec} (ts : List TypeId)
    (hvars : s.vars = []) (noInit : Tryd.checked.prog.inits.idxOf? f = none) (hfn : Tryd.checked.prog.funcs[f]? = some fn) (hrt : fn.resultTypes = #[4]) (hpar : fn.params.toList = ts)
    (hspec : ∀ ds : List (DataW H), ds.length = ts.length → s.fn H ds = { results := [.lit (.bool true)], args := ds })
    (hp0 : (ts.all fun t => Tryd.prog.readableRec t && decide (t < Tryd.prog.types.size)) = true)
    (witness : ∃ (w : World) (tape : Tape) (i : Input), w.os = os ∧ (w.forCall tape i).Shaped Tryd.checked.prog ∧ i.vars = [] ∧ Input.okWide Tryd.checked.prog (w.forCall tape i) .any w.heap.size f i ∧
      ((s.pre enc Tryd.checked.prog fn [] false (w.forCall tape i).memory i.args ∧ laidMetH Tryd.prog laid (w.forCall tape i).memory) ∧ sizedMet enc Tryd.checked.prog fn (OpenSpec.ofChange s) false (w.forCall tape i).memory i.args) ∧ ({} : Assume).holds Tryd.checked.prog (lone (Frame.enter Tryd.checked.prog f i.args .normal) [] (w.forCall tape i)))
    (contract : ∀ (W : World) (base : Nat) (vs : List Value) (ds : List (DataW H)) (p : List MemPlace), laidMetH Tryd.prog laid W →
      (∀ (j : Nat) t v, ts[j]? = some t → vs[j]? = some v → Value.okWide Tryd.prog W .any base t v) →
      DataW.TrodAll enc Tryd.prog W 0 (fun _ => true) true ts vs ds p →
      Calls Tryd.prog f vs.toArray W fun e W' => e = .returned (.bool true) ∧ Below W.heap.size W W') :
    ReturnsInHanded {} Tryd.checked os f .any (fun w args => (s.pre enc Tryd.checked.prog fn [] false w args ∧ laidMetH Tryd.prog laid w) ∧ sizedMet enc Tryd.checked.prog fn (OpenSpec.ofChange s) false w args) (s.post enc Tryd.checked.prog fn false true false false) := by
  have hp : ∀ t ∈ ts, Tryd.prog.readableRec t = true ∧ t < Tryd.prog.types.size := fun t ht => by simpa using List.all_eq_true.1 hp0 t ht
  refine returnsInHanded_of_change_and (C := Tryd.checked) (X := fun w _ => laidMetH Tryd.prog laid w) (fun _ _ _ hh h => h.of_heap hh) own started noInit hfn witness ?_
  intro W base args ds gs before hval hW _ _ hL _
  have hW' := hW
  obtain ⟨p, q, hA, hV, rfl, hfz, hnd⟩ := hW
  rw [hvars] at hV
  obtain ⟨rfl, rfl⟩ := trodVars_none hV
  have hlt : ∀ x ∈ p, x.block < W.heap.size := fun x hx => by simpa using hW'.lt x (by simpa using hx)
  rw [hpar] at hA
  have hlen : ds.length = ts.length := (trodAll_length hA).1
  have C := contract W base args.toList ds p hL (fun j t v ht hv => hval j t v (by rw [← Array.getElem?_toList, hpar]; exact ht) (by rw [← Array.getElem?_toList]; exact hv)) hA
  rw [Array.toArray_toList] at C
  refine C.mono fun e W' ⟨he, hb⟩ => ?_
  subst he
  refine ⟨_, rfl, post_of_below (pa := p) (pv := []) hW' ?_ ?_ ?_ rfl hb ?_⟩
  · intro b sp hd
    rw [List.append_nil, hspec ds hlen, hrt]
    exact trodAll_mk1 (shut_bool Tryd.underlying4 _)
  · intro sp hsp
    rw [List.append_nil, hspec ds hlen, hpar]
    exact trodAll_below laidOut hb hp hlt (fun x hx => hsp x (by simpa using hx)) hA
  · intro sp _
    rw [hvars, List.append_nil, hspec ds hlen]
    rfl
  · exact ok_one hrt rfl (okWide_bool_mk Tryd.underlying4 _)
end Go.Proofs.YtoclndbenpagnaaDoor
