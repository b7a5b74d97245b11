/-
  Contracts: the program's numbers in a text.
-/
import Derived.Test.YtoclndbenpagnaaDoorPm4
import Derived.Test.YtoclndbenpagnaaDoorMtF
import Derived.Lib.SmallJoins
namespace Go.Proofs.YtoclndbenpagnaaDoor
open Go.RowKit
theorem var_below {P : Program} {w w' : World} {n : String} {cs : Array Value} (h : w.var? P n = some cs) (hb : Below w.heap.size w w') : w'.var? P n = some cs := by
  unfold World.var? at *
  cases hg : P.globalNamed n with
  | none => rw [hg] at h; simp at h
  | some g =>
    rw [hg] at h
    simp only [Option.bind_some] at *
    have hlt : g < w.heap.size := by
      cases h9 : w.heap[g]? with
      | none => rw [h9] at h; simp at h
      | some o => exact (Array.getElem?_eq_some_iff.1 h9).1
    rw [hb.block g hlt]
    exact h
theorem owns_ap {w : World} {B B' e e' size size' n n' : Nat} {v v' : Value} {cs cs' : List Value} (h : w.ownsRow B e size v n cs) (h' : w.ownsRow B' e' size' v' n' cs') (he : e ≠ e') : ∀ k, v.ownBlock = some k → v'.ownBlock ≠ some k := by
  intro k hk hk'
  rcases h.2 with ⟨rfl, _⟩ | ⟨g, cap, cur, rfl, _, hg, _⟩
  · simp [Value.ownBlock] at hk
  rcases h'.2 with ⟨rfl, _⟩ | ⟨g', cap', cur', rfl, _, hg', _⟩
  · simp [Value.ownBlock] at hk'
  have e1 : g = k := by injection hk
  have e2 : g' = k := by injection hk'
  subst e1 e2
  rw [hg] at hg'
  injection hg' with hg'
  injection hg' with _ h2
  exact he h2
theorem kept_of_apart {w w' : World} {B e size n : Nat} {v v' : Value} {cs : List Value} (h : w.ownsRow B e size v n cs) (hg : w.grownBy w' v'.ownBlock) (hne : ∀ k, v.ownBlock = some k → v'.ownBlock ≠ some k) : w'.ownsRow B e size v n cs := by
  refine h.kept hg ?_
  cases hv : v.ownBlock with
  | none => exact .inl rfl
  | some k => right; intro e; exact hne k hv e.symm
theorem row_lw {w : World} {B B' n size : Nat} {e : TypeId} {v : Value} {xs : List Value} (h : w.ownsRow B e size v n xs) (hB : B' ≤ B) : w.ownsRow B' e size v n xs := by
  refine ⟨h.1, ?_⟩
  rcases h.2 with hn | ⟨g, cap, cur, rfl, hb, rest⟩
  · exact .inl hn
  · exact .inr ⟨g, cap, cur, rfl, by omega, rest⟩
/-- The library's two sentinels lie. -/
def ErrV (w : World) : Prop := (∃ t p, w.var? Tryd.prog "strconv.ErrSyntax" = some #[.iface t p]) ∧ ∃ t p, w.var? Tryd.prog "strconv.ErrRange" = some #[.iface t p]
theorem ErrV.below {w w' : World} (h : ErrV w) (hb : Below w.heap.size w w') : ErrV w' := by
  obtain ⟨⟨t, p, h1⟩, u, q, h2⟩ := h
  exact ⟨⟨t, p, var_below h1 hb⟩, u, q, var_below h2 hb⟩
theorem atoi_ok {s : ByteArray} {v : Int} {w : World} (hs : s.size ≤ 2000000) (h : Lib.atoiAll s.data.toList = .ok v) :
    Calls Tryd.prog 23 #[.string s] w fun e w' => e = .returned (.tuple #[.int .i64 v, .nilIface]) ∧ Below w.heap.size w w' := by
  refine (Tryd.strconv_Atoi_ok s (by omega) v h w).mono ?_
  rintro e w' ⟨he, hw⟩
  refine ⟨he, ?_⟩
  rcases hw with rfl | ⟨t, rfl⟩
  · exact Below.refl _ _
  · exact Go.Joins.below_bytesWorld _ _ _ _ (Nat.le_refl _)
theorem atoi_bad {s : ByteArray} {w : World} (hs : s.size ≤ 2000000) (hE : ErrV w) (h : ∀ v, Lib.atoiAll s.data.toList ≠ .ok v) :
    Calls Tryd.prog 23 #[.string s] w fun e w' => ∃ x N, e = .returned (.tuple #[.int .i64 x, .iface 60 (.pointer (some ⟨N, 0, none⟩))]) ∧ Below w.heap.size w w' := by
  obtain ⟨⟨t, p, h1⟩, u, q, h2⟩ := hE
  rcases hc : Lib.atoiAll s.data.toList with v | _ | _
  · exact absurd hc (h v)
  · refine (Any.strconv_Atoi_syntax_var Tryd.laysC172 s (by omega) hc t p w h1).mono ?_
    rintro e w' ⟨N, he, _, _, hb⟩
    exact ⟨0, N, he, hb⟩
  · refine (Tryd.strconv_Atoi_range_var s (by omega) hc u q w h2).mono ?_
    rintro e w' ⟨N, he, _, _, hb⟩
    exact ⟨_, N, he, hb⟩
theorem pred_pays (w : World) : PredGrows Tryd.prog 22 #[] pD w := by
  intro W x hx _
  show Calls Tryd.prog 22 #[.int .i32 (x : Int)] W _
  unfold pD
  by_cases h1 : x < 48
  · have l1 : (x : Int) < 48 := by omega
    rw [decide_eq_true h1, Bool.true_or]
    clear h1
    go_enter Tryd.func22, Tryd.ntmps22
    go_wp2
    go_ret
    exact ⟨rfl, Below.refl _ _⟩
  · have l1 : 48 ≤ (x : Int) := by omega
    rw [decide_eq_false h1, Bool.false_or]
    clear h1
    by_cases h2 : 57 < x
    · have l2 : 57 < (x : Int) := by omega
      rw [decide_eq_true h2]
      clear h2
      go_enter Tryd.func22, Tryd.ntmps22
      go_wp2
      go_ret
      exact ⟨rfl, Below.refl _ _⟩
    · have l2 : (x : Int) ≤ 57 := by omega
      rw [decide_eq_false h2]
      clear h2
      go_enter Tryd.func22, Tryd.ntmps22
      go_wp2
      go_ret
      exact ⟨ret_bool (by rw [decide_eq_false (show ¬ (x : Int) < 48 by omega), decide_eq_false (show ¬ 57 < (x : Int) by omega)]; rfl), Below.refl _ _⟩
open Go.Shelf in
theorem fields_any (s : ByteArray) (hs : s.size ≤ 1048576) (w : World) :
    Calls Tryd.prog 21 #[.string s, .func (.func 22) #[] #[]] w fun e w' => ∃ A, e = .returned (.slice (some ⟨A, 0, none⟩) (wordsD s).length (wordsD s).length) ∧ OwnW w' w.heap.size (.slice (some ⟨A, 0, none⟩) (wordsD s).length (wordsD s).length) (wordsD s).length (wordsD s) ∧ Below w.heap.size w w' := by
  refine (Tryd.strings_FieldsFunc_grows 22 #[] (enters_of Tryd.func22 (by kernel_rfl) rfl) pD s w (by omega) (pred_pays w)).mono ?_
  rintro e w' ⟨A, he, _, ho, hb⟩
  exact ⟨A, he, ho, hb⟩
theorem numG_ok {acc : List Int} {w : ByteArray} {r : List ByteArray} {v : Int} (h : Lib.atoiAll w.data.toList = .ok v) : numG acc (w :: r) = numG (acc ++ [v]) r := by rw [numG, h]
theorem numG_bad {acc : List Int} {w : ByteArray} {r : List ByteArray} (h : ∀ v, Lib.atoiAll w.data.toList ≠ .ok v) : numG acc (w :: r) = [] := by
  rw [numG]
  rcases hc : Lib.atoiAll w.data.toList with v | _ | _
  · exact absurd hc (h v)
  · rfl
  · rfl
set_option maxRecDepth 100000 in
set_option maxHeartbeats 4000000 in
theorem numbersIn_any (s : ByteArray) (hs : s.size ≤ 1048576) (w : World) (hE : ErrV w) :
    Calls Tryd.prog 14 #[.string s] w fun e w' => ∃ V N C, e = .returned (.slice V N C) ∧ Own w' w.heap.size (.slice V N C) N (numF s) ∧ Below w.heap.size w w' := by
  obtain ⟨i0, hi, hz0, hz1, hz2⟩ := info_parts info3
  have h0 := own_empty w w.heap.size (Nat.le_refl _)
  have hb0 : Below w.heap.size w (w.alloc (.cells #[] 3)) := (by (repeat (first | exact Below.refl _ _ | exact hb | apply Below.drew | (refine Below.alloc ?_ (by first | (simp; done) | (simp; omega) | (have := hb.size; simp at this ⊢; omega)) _) | (refine Below.setCell ?_ (by simp) _))))
  have HE := Lib.hid hE
  clear hE
  go_enter Tryd.func14, Tryd.ntmps14
  go_wp2_with fail
  refine (fields_any s hs _).mono ?_
  rintro e w2 ⟨A, rfl, hO, hn⟩
  have hb2 := hb0.trans (hn.mono hb0.size)
  have HW := Lib.hid (show Own w2 w.heap.size (.slice (some ⟨w.heap.size, 0, none⟩) 0 0) 0 [] from row_step h0 hn)
  obtain ⟨M, hM⟩ : ∃ M, M = (wordsD s).length := ⟨_, rfl⟩
  rw [← hM] at hO ⊢
  have HO := Lib.hid (show OwnW w2 w.heap.size (.slice (some ⟨A, 0, none⟩) M M) M (wordsD s) from row_lw hO (by simp))
  have HM := Lib.hid hM
  have hM2 : M ≤ 1048577 := by rw [hM]; have := words_len s; omega
  clear h0 hb0 hn hO hM
  go_wp2_with fail
  go_loopw [3, 12] (fun v u wr => ∃ (k : Nat) (zs : List Int), k ≤ M ∧ u = .int .i64 k ∧ Own wr w.heap.size v k zs ∧ numG zs ((wordsD s).drop k) = numF s ∧ OwnW wr w.heap.size (.slice (some ⟨A, 0, none⟩) M M) M (wordsD s) ∧ Below w.heap.size w wr) (fun _ u _ => M - (intOf u).toNat)
  case atStart => exact ⟨0, [], Nat.zero_le _, rfl, HW.out, by rw [List.drop_zero]; rfl, HO.out, hb2⟩
  case round =>
    clear hb2 HW HO
    obtain ⟨k, zs, hk, rfl, hown, hR, hwo, hbw⟩ := hrel
    have HZ := Lib.hid hown
    have HO := Lib.hid hwo
    have hlo := hbw.size
    clear hown hwo
    by_cases hlt : k < M
    · obtain ⟨x, hx⟩ : ∃ x, (wordsD s)[k]? = some x := ⟨_, List.getElem?_eq_getElem (by have := HM.out; omega)⟩
      have hxs : x.size ≤ 2000000 := by have := words_size (List.mem_of_getElem? hx); omega
      have hd : (wordsD s).drop k = x :: (wordsD s).drop (k + 1) := by
        obtain ⟨h8, h9⟩ := List.getElem?_eq_some_iff.1 hx
        rw [List.drop_eq_getElem_cons h8, h9]
      have hc : wr.cell? ⟨A, k, none⟩ = some (.string x) := by rw [World.ownsRow.cellAt HO.out k (by omega), List.getElem?_map, hx]; rfl
      have l0 : (0 : Int) ≤ (k : Int) := by omega
      have l1 : (k : Int) < (M : Int) := by omega
      by_cases hok : ∃ v, Lib.atoiAll x.data.toList = .ok v
      · obtain ⟨v, hv⟩ := hok
        have HR := Lib.hid (show numG (zs ++ [v]) ((wordsD s).drop (k + 1)) = numF s by rw [← hR, hd, numG_ok hv])
        clear hx hd hR
        go_wp2_with fail
        refine (atoi_ok hxs hv).mono ?_
        rintro e w3 ⟨rfl, hn⟩
        have HZ3 := Lib.hid (row_step HZ.out hn)
        have HO3 := Lib.hid (row_step HO.out hn)
        have hbw3 := hbw.trans (hn.mono hlo)
        have hlo3 := hbw3.size
        clear hn hc hbw hv
        go_wp2_with (at_builtin; refine wpList_append_own _ rfl _ _ 37 rfl (w.heap.size) 3 i0 (.int .i64 0) 1 8 Tryd.underlying37 hi hz0 hz1 hz2 rfl (by decide) _ _ _ rfl ((show Own w3 w.heap.size _ k zs from HZ3.out).alloc _) ⟨w3.heap.size, 0, none⟩ 1 1 [.int .i64 (v)] rfl rfl (new_one _ _ (by simp) _ _) (by intro u hu; simp at hu; subst hu; rfl) (by unfold maxLen; omega) (by omega) (by simp <;> omega) ?_)
        intro v' w4 hown' hgrow _
        have HZ4 := Lib.hid (own_app hown')
        have HO4 := Lib.hid (show OwnW w4 w.heap.size (.slice (some ⟨A, 0, none⟩) M M) M (wordsD s) from kept_of_apart (row_alloc HO3.out _) hgrow (owns_ap HO3.out HZ3.out (by decide)))
        have hb4 := (hbw3.alloc hbw3.size (.cells #[.int .i64 v] 3)).trans (grown_below hgrow (by simp; omega) (fun z hz => (HZ3.out.lt z hz).1))
        clear hown' hgrow hbw3
        go_wp2_with fail
        go_roundw
        case rel => exact ⟨k + 1, _, by omega, by go_num, HZ4.out, HR.out, HO4.out, hb4⟩
        case measure => simp [intOf]; omega
      · have hbad : ∀ v, Lib.atoiAll x.data.toList ≠ .ok v := fun v h => hok ⟨v, h⟩
        have HN := Lib.hid (show numF s = [] by rw [← hR, hd, numG_bad hbad])
        clear hx hd hR hok
        go_wp2_with fail
        refine (atoi_bad hxs (HE.out.below hbw) hbad).mono ?_
        rintro e w3 ⟨x9, N, rfl, hn⟩
        have hbw3 := hbw.trans (hn.mono hlo)
        clear hn hc hbw hbad
        go_wp2_with fail
        go_ret
        exact ⟨some ⟨w3.heap.size, 0, none⟩, 0, 0, rfl, by rw [HN.out]; exact own_empty w3 w.heap.size hbw3.size, hbw3.alloc hbw3.size _⟩
    · have hkM : k = M := by omega
      have HN := Lib.hid (show zs = numF s by rw [← hR, List.drop_of_length_le (by have := HM.out; omega), numG])
      obtain ⟨V, C, rfl⟩ := own_slice HZ.out
      clear hR
      go_wp2_with fail
      go_ret
      exact ⟨V, k, C, rfl, by rw [← HN.out]; exact HZ.out, hbw⟩
end Go.Proofs.YtoclndbenpagnaaDoor
