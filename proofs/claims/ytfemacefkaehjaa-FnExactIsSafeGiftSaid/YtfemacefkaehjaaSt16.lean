/-
  Contracts: GiveSorts' wrapper; IsSafeGift.
-/
import Derived.Test.YtfemacefkaehjaaSt15
import Derived.Test.YtfemacefkaehjaaSt8
namespace Go.Proofs.Ytfemacefkaehjaa
open Go.RowKit
set_option maxRecDepth 100000 in
theorem giveSorts_spec {A B D : Option Addr} {n c m d n2 c2 : Nat} {fr : List Int} {fs : List Frm} {i : Int} {ct : List Int} {w : World} (hr : RInts w w.heap.size A n fr) (hn0 : n ≤ 1048576) (hs : AForms w B m fs) (hm0 : m ≤ 1048576) (hI : -9223372036854775808 ≤ i ∧ i ≤ 9223372036854775807) (hct : RInts w w.heap.size D n2 ct) (hn20 : n2 ≤ 1048576) :
    Calls Try.prog 6 #[.slice A n c, .slice B m d, .int .i64 i, .slice D n2 c2] w fun e w' => GvPost fr fs i ct w e w' := by
  go_enter Try.func6, Try.ntmps6
  go_wp2_with fail
  refine (stGive_any hr hn0 hs hm0 hI hct hn20).mono ?_
  rintro e w1 ⟨V, N, C, U, M, E, ys, rfl, h1, h2, h3, h4, h5⟩
  have P := Lib.hid (show GvPost fr fs i ct w (.returned (.tuple #[.slice V N C, .slice U M E, .bool (gvG fr fs i ct)])) w1 from ⟨V, N, C, U, M, E, ys, rfl, h1, h2, h3, h4, h5⟩)
  clear h1 h2 h3 h4 h5
  go_wp2_with fail
  go_ret3
  exact P.out
def sgQ (fr : List Int) (fs : List Frm) (i : Int) (ct : List Int) : Bool := decide ((resF (gvL0 fs i ct) (gvF0 fr ct) []).length = (gvL0 fs i ct).length)
def sgV (fr : List Int) (fs : List Frm) (i : Int) (ct : List Int) : Bool := gvG fr fs i ct && sgQ fr fs i ct
theorem sg_no {fr : List Int} {fs : List Frm} {i : Int} {ct : List Int} (h : gvG fr fs i ct = false) : sgV fr fs i ct = false := by rw [sgV, h]; rfl
theorem sg_yes {fr : List Int} {fs : List Frm} {i : Int} {ct : List Int} (h : gvG fr fs i ct = true) : sgV fr fs i ct = sgQ fr fs i ct := by rw [sgV, h]; rfl
theorem gv_st {fr : List Int} {fs : List Frm} {i : Int} {ct : List Int} (h : gvG fr fs i ct = true) : stG (gvF0 fr ct) (gvL0 fs i ct) = true := by
  rw [gvG, Bool.and_eq_true, Bool.and_eq_true] at h
  exact h.2.2
theorem ret2_bool {a b a' b' : Bool} (h : a = a') (h' : b = b') : Ending.returned (.tuple #[.bool a, .bool b]) = .returned (.tuple #[.bool a', .bool b']) := by rw [h, h']
set_option maxRecDepth 100000 in
theorem isSafeGift_impl {A B D : Option Addr} {n c m d n2 c2 : Nat} {fr : List Int} {fs : List Frm} {i : Int} {ct : List Int} {w : World} (hr : RInts w w.heap.size A n fr) (hn0 : n ≤ 1048576) (hs : AForms w B m fs) (hm0 : m ≤ 1048576) (hI : -9223372036854775808 ≤ i ∧ i ≤ 9223372036854775807) (hct : RInts w w.heap.size D n2 ct) (hn20 : n2 ≤ 1048576) :
    Calls Try.prog 17 #[.slice A n c, .slice B m d, .int .i64 i, .slice D n2 c2] w fun e w' => e = .returned (.tuple #[.bool (sgV fr fs i ct), .bool (gvG fr fs i ct)]) ∧ Below w.heap.size w w' := by
  go_enter Try.func17, Try.ntmps17
  go_wp2_with fail
  refine (giveSorts_impl hr hn0 hs hm0 hI hct hn20).mono ?_
  rintro e w1 ⟨V, N, C, U, M, E, ys, rfl, ho, hf, _, _, hb⟩
  cases hG : gvG fr fs i ct
  · have HG := Lib.hid (sg_no hG)
    have HGG := Lib.hid hG
    clear hG
    go_wp2_with fail
    go_ret2
    exact ⟨ret2_bool HG.out.symm HGG.out.symm, hb⟩
  · have hst := gv_st hG; obtain ⟨t1, t2, t3, t4⟩ := stG_true hst; rw [(gv_yes hG).1] at ho; rw [(gv_yes hG).2] at hf; have hln := own_len ho; have hlm := hf.row.len; have hle : (gvL0 fs i ct).length = M := by rw [← hf.eq, List.length_map]; exact hlm
    have n1 : N ≤ 6 := by omega
    have n2' : 1 ≤ N := by omega
    have m8 : M ≤ 8 := by omega
    have HSG := Lib.hid (sg_yes hG)
    have HGG := Lib.hid hG
    have HO := Lib.hid ho
    have HF := Lib.hid hf
    have HOK := Lib.hid (show ∀ f ∈ gvL0 fs i ct, (f.held.length = N ∧ ∀ x ∈ f.held, 0 ≤ x ∧ x ≤ 1000) ∧ (f.wanted.length = N ∧ ∀ x ∈ f.wanted, 0 ≤ x ∧ x ≤ 1000) from fun f h => by have := t4 f h; rw [hln] at this; exact this)
    have HFB := Lib.hid (show ∀ x ∈ gvF0 fr ct, 0 ≤ x ∧ x ≤ 100000 from fun x hx => by have := t2 x hx; omega)
    clear hG ho hf hln hlm hle t1 t2 t3 t4 hst
    go_wp2_with fail
    refine (isSafe_any (own_rints HO.out) n1 n2' (OwnF.aforms HF.out.row HF.out.inn HF.out.eq (fun f h => by have := HOK.out f h; omega)) m8 HOK.out HFB.out).mono ?_
    rintro e w2 ⟨rfl, hn⟩
    have hb2 := hb.trans (hn.mono hb.size)
    obtain ⟨v, hv⟩ : ∃ v, v = decide ((resF (gvL0 fs i ct) (gvF0 fr ct) []).length = (gvL0 fs i ct).length) := ⟨_, rfl⟩
    rw [← hv]
    have HV := Lib.hid (show v = sgV fr fs i ct by rw [HSG.out, hv]; rfl)
    clear hv hn hb
    cases v
    · go_wp2_with fail
      go_ret2
      exact ⟨ret2_bool HV.out HGG.out.symm, hb2⟩
    · go_wp2_with fail
      go_ret2
      exact ⟨ret2_bool HV.out HGG.out.symm, hb2⟩
set_option maxRecDepth 100000 in
theorem isSafeGift_spec {A B D : Option Addr} {n c m d n2 c2 : Nat} {fr : List Int} {fs : List Frm} {i : Int} {ct : List Int} {w : World} (hr : RInts w w.heap.size A n fr) (hn0 : n ≤ 1048576) (hs : AForms w B m fs) (hm0 : m ≤ 1048576) (hI : -9223372036854775808 ≤ i ∧ i ≤ 9223372036854775807) (hct : RInts w w.heap.size D n2 ct) (hn20 : n2 ≤ 1048576) :
    Calls Try.prog 16 #[.slice A n c, .slice B m d, .int .i64 i, .slice D n2 c2] w fun e w' => e = .returned (.tuple #[.bool (sgV fr fs i ct), .bool (gvG fr fs i ct)]) ∧ Below w.heap.size w w' := by
  have HM := Lib.hid hs.len
  go_enter Try.func16, Try.ntmps16
  go_wp2_with fail
  refine (stGive_any hr hn0 hs hm0 hI hct hn20).mono ?_
  rintro e w1 ⟨V, N, C, U, M, E, ys, rfl, ho, hf, _, _, hb⟩
  cases hG : gvG fr fs i ct
  · have HG := Lib.hid (sg_no hG)
    have HGG := Lib.hid hG
    clear hG
    go_wp2_with fail
    go_ret2
    exact ⟨ret2_bool HG.out.symm HGG.out.symm, hb⟩
  · have hst := gv_st hG; obtain ⟨t1, t2, t3, t4⟩ := stG_true hst; rw [(gv_yes hG).1] at ho; rw [(gv_yes hG).2] at hf; have hln := own_len ho; have hlm := hf.row.len; have hle : (gvL0 fs i ct).length = M := by rw [← hf.eq, List.length_map]; exact hlm
    have n1 : N ≤ 6 := by omega
    have n2' : 1 ≤ N := by omega
    have m8 : M ≤ 8 := by omega
    have HSG := Lib.hid (sg_yes hG)
    have HGG := Lib.hid hG
    have HO := Lib.hid ho
    have HF := Lib.hid hf
    have HOK := Lib.hid (show ∀ f ∈ gvL0 fs i ct, (f.held.length = N ∧ ∀ x ∈ f.held, 0 ≤ x ∧ x ≤ 1000) ∧ (f.wanted.length = N ∧ ∀ x ∈ f.wanted, 0 ≤ x ∧ x ≤ 1000) from fun f h => by have := t4 f h; rw [hln] at this; exact this)
    have HFB := Lib.hid (show ∀ x ∈ gvF0 fr ct, 0 ≤ x ∧ x ≤ 100000 from fun x hx => by have := t2 x hx; omega)
    have HLL := Lib.hid (show (gvL0 fs i ct).length = m by rw [gvL0, List.length_set]; exact HM.out)
    clear hG ho hf hln hlm hle t1 t2 t3 t4 hst
    go_wp2_with fail
    refine (stOrder_any (own_rints HO.out) n1 n2' (OwnF.aforms HF.out.row HF.out.inn HF.out.eq (fun f h => by have := HOK.out f h; omega)) m8 HOK.out HFB.out).mono ?_
    rintro e w2 ⟨V3, N3, C3, rfl, ho3, hN3, hn⟩
    have hb2 := hb.trans (hn.mono hb.size)
    have HN3 := Lib.hid (own_len ho3)
    clear hn hb ho3
    by_cases h5 : N3 = m
    · have e1 : ((N3 : Int) == (m : Int)) = true := by simp [h5]
      have HV := Lib.hid (show true = sgV fr fs i ct by rw [HSG.out, sgQ, decide_eq_true (by have := HN3.out; have := HLL.out; omega)])
      clear h5
      go_wp2_with fail
      go_ret2
      exact ⟨ret2_bool HV.out HGG.out.symm, hb2⟩
    · have e1 : ((N3 : Int) == (m : Int)) = false := by rw [beq_eq_false_iff_ne]; omega
      have HV := Lib.hid (show false = sgV fr fs i ct by rw [HSG.out, sgQ, decide_eq_false (by have := HN3.out; have := HLL.out; omega)])
      clear h5
      go_wp2_with fail
      go_ret2
      exact ⟨ret2_bool HV.out HGG.out.symm, hb2⟩
end Go.Proofs.Ytfemacefkaehjaa
