/-
  Contracts: the reference's ParseMargins.
-/
import Derived.Test.YtoclndbenpagnaaDoorPm3
import Derived.Deep.RegionHeld3
namespace Go.Proofs.YtoclndbenpagnaaDoor
open Go.RowKit
/-- What both sides hand back. -/
def PmPost (s : ByteArray) (w : World) (e : Ending) (w' : World) : Prop :=
  ((∃ a b c d : Nat, IsT s a b c d ∧ e = .returned (.tuple #[.agg #[.int .i64 a, .int .i64 b, .int .i64 c, .int .i64 d], .bool true])) ∨ ((∀ a b c d : Nat, ¬ IsT s a b c d) ∧ e = .returned (.tuple #[.agg #[.int .i64 0, .int .i64 0, .int .i64 0, .int .i64 0], .bool false]))) ∧ Below w.heap.size w w'
theorem glue_mem {a : List UInt8} {X : List (List UInt8)} {n : Nat} (h : ∀ w ∈ X, w.length ≤ n) : ∀ w ∈ glue a X, w.length ≤ a.length + n := by
  intro w hw
  cases X with
  | nil => simp [glue] at hw; rw [hw]; omega
  | cons y r =>
    simp only [glue, List.mem_cons] at hw
    rcases hw with rfl | hw
    · rw [List.length_append]; have := h y (by simp); omega
    · have := h w (by simp [hw]); omega
theorem splitB_mem : ∀ (l : List UInt8), ∀ w ∈ splitB l, w.length ≤ l.length
  | [], w, hw => by simp [splitB] at hw; rw [hw]; simp
  | c :: r, w, hw => by
    have ih := splitB_mem r
    rw [splitB] at hw
    split at hw
    · rcases List.mem_cons.1 hw with rfl | hw
      · simp
      · have := ih w hw; rw [List.length_cons]; omega
    · have := glue_mem ih w hw
      rw [List.length_cons] at *
      simp only [List.length_nil] at this
      omega
theorem four {α : Type _} {l : List α} (h : l.length = 4) : ∃ p q r t, l = [p, q, r, t] := by
  match l, h with
  | [p, q, r, t], _ => exact ⟨p, q, r, t, rfl⟩
set_option maxRecDepth 100000 in
set_option maxHeartbeats 4000000 in
theorem parseMargins_spec (s : ByteArray) (hs : s.size ≤ 1048576) (w : World) :
    Calls Tryd.prog 5 #[.string s] w fun e w' => PmPost s w e w' := by
  have hz : Blk (w.alloc (.cells #[.int .i64 0, .int .i64 0, .int .i64 0, .int .i64 0] 23)) w.heap.size 23 [.int .i64 0, .int .i64 0, .int .i64 0, .int .i64 0] := Blk.new' w 23 #[.int .i64 0, .int .i64 0, .int .i64 0, .int .i64 0]
  have hb : Below w.heap.size w (w.alloc (.cells #[.int .i64 0, .int .i64 0, .int .i64 0, .int .i64 0] 23)) := (by (repeat (first | exact Below.refl _ _ | exact hb | apply Below.drew | (refine Below.alloc ?_ (by first | (simp; done) | (simp; omega) | (have := hb.size; simp at this ⊢; omega)) _) | (refine Below.setCell ?_ (by simp) _))))
  go_enter Tryd.func5, Tryd.ntmps5
  go_wp2_with fail
  refine (l1Split_any s hs _).mono ?_
  rintro e w2 ⟨V, N, C, rfl, ho, hn⟩
  replace hb := hb.trans (hn.mono hb.size)
  replace hz := hz.below hn hz.lt
  have HO := Lib.hid ho
  have HL := Lib.hid (show (splitB (bytes s)).length = N by have := ho.len; simpa using this)
  clear hn ho
  by_cases h4 : N = 4
  case neg =>
    have HNO := Lib.hid (show ∀ a b c d : Nat, ¬ IsT s a b c d from fun a b c d h => by
      have := HL.out
      rw [isT_split h] at this
      simp at this
      omega)
    have e1 := ne_t (show (N : Int) ≠ 4 by omega)
    have e2 := e1.1
    have e3 := e1.2
    clear e1 h4
    (have z0 : _ = some (Value.int .i64 0) := hz.cell 0); (have z1 : _ = some (Value.int .i64 0) := hz.cell 1); (have z2 : _ = some (Value.int .i64 0) := hz.cell 2); (have z3 : _ = some (Value.int .i64 0) := hz.cell 3); have y0 := hz.frozen 0; have y1 := hz.frozen 1; have y2 := hz.frozen 2; have y3 := hz.frozen 3
    go_wp2_with fail
    clear z0 z1 z2 z3 y0 y1 y2 y3; have hz4 := (((hz.set_ 0 ((.int .i64 0))).set_ 1 ((.int .i64 0))).set_ 2 ((.int .i64 0))).set_ 3 ((.int .i64 0)); (have q0 : _ = some ((.int .i64 0) : Value) := hz4.cell 0); (have q1 : _ = some ((.int .i64 0) : Value) := hz4.cell 1); (have q2 : _ = some ((.int .i64 0) : Value) := hz4.cell 2); (have q3 : _ = some ((.int .i64 0) : Value) := hz4.cell 3); exact bodyPost_ret (v := .tuple #[.agg #[(.int .i64 0), (.int .i64 0), (.int .i64 0), (.int .i64 0)], .bool false]) (by simp [results, Tryd.results5, go_sem, q0, q1, q2, q3]) rfl (⟨.inr ⟨HNO.out, rfl⟩, ((((hb.setCell (by simp) _).setCell (by simp) _).setCell (by simp) _).setCell (by simp) _)⟩)
  subst h4
  obtain ⟨p, q, r, t, hsp⟩ := four HL.out
  have HSP := Lib.hid hsp
  have hlen : ∀ x ∈ splitB (bytes s), (str x).size ≤ 1048576 := fun x hx => by rw [str_size]; have := splitB_mem _ x hx; rw [bytes_len] at this; omega
  have hp1 := hlen p (by rw [hsp]; simp)
  have hp2 := hlen q (by rw [hsp]; simp)
  have hp3 := hlen r (by rw [hsp]; simp)
  have hp4 := hlen t (by rw [hsp]; simp)
  obtain ⟨g, rfl, hC, hg⟩ : ∃ g, V = some ⟨g, 0, none⟩ ∧ 4 ≤ C ∧ g < w2.heap.size := by
    rcases HO.out.form with ⟨_, h8⟩ | h8
    · omega
    · exact h8
  have hcell : ∀ j x, ([p, q, r, t] : List (List UInt8))[j]? = some x → w2.cell? ⟨g, j, none⟩ = some (.string (str x)) := fun j x hx => by
    rw [World.ownsRow.cellAt HO.out j (by have h9 := (List.getElem?_eq_some_iff.1 hx).1; simp at h9; omega), hsp, List.getElem?_map, List.getElem?_map, hx]; rfl
  have hS0 : w2.cell? ⟨g, 0, none⟩ = some (.string (str p)) ∧ w2.cell? ⟨g, 1, none⟩ = some (.string (str q)) ∧ w2.cell? ⟨g, 2, none⟩ = some (.string (str r)) ∧ w2.cell? ⟨g, 3, none⟩ = some (.string (str t)) := ⟨hcell 0 p rfl, hcell 1 q rfl, hcell 2 r rfl, hcell 3 t rfl⟩
  have HS := Lib.hid (show ∀ o, (w2.alloc o).drew.cell? ⟨g, 0, none⟩ = some (.string (str p)) ∧ (w2.alloc o).drew.cell? ⟨g, 1, none⟩ = some (.string (str q)) ∧ (w2.alloc o).drew.cell? ⟨g, 2, none⟩ = some (.string (str r)) ∧ (w2.alloc o).drew.cell? ⟨g, 3, none⟩ = some (.string (str t)) from fun o => ⟨(World.cell?_alloc_lt w2 o _ hg).trans hS0.1, (World.cell?_alloc_lt w2 o _ hg).trans hS0.2.1, (World.cell?_alloc_lt w2 o _ hg).trans hS0.2.2.1, (World.cell?_alloc_lt w2 o _ hg).trans hS0.2.2.2⟩)
  clear hcell hsp hlen
  go_wp2_with fail
  go_region_held3 (fun wx => wx.cell? ⟨g, 0, none⟩ = some (.string (str p)) ∧ wx.cell? ⟨g, 1, none⟩ = some (.string (str q)) ∧ wx.cell? ⟨g, 2, none⟩ = some (.string (str r)) ∧ wx.cell? ⟨g, 3, none⟩ = some (.string (str t))) ((first | exact hS0 | exact HS.out _ | assumption | go_keep)) (first
    | (go_at_call 12; refine (l1Read_str _ (by assumption) _).mono ?_; rintro e1 w5 ⟨rfl, rfl⟩))
  all_goals
    have hm : Blk (w2.alloc (.cells #[.int .i64 (readV p), .int .i64 (readV q), .int .i64 (readV r), .int .i64 (readV t)] 23)).drew w2.heap.size 23 [.int .i64 (readV p), .int .i64 (readV q), .int .i64 (readV r), .int .i64 (readV t)] := Blk.new' w2 23 #[.int .i64 (readV p), .int .i64 (readV q), .int .i64 (readV r), .int .i64 (readV t)]
    have hb3 : Below w.heap.size w (w2.alloc (.cells #[.int .i64 (readV p), .int .i64 (readV q), .int .i64 (readV r), .int .i64 (readV t)] 23)).drew := (hb.alloc hb.size _).drew
    have hz3 : Blk (w2.alloc (.cells #[.int .i64 (readV p), .int .i64 (readV q), .int .i64 (readV r), .int .i64 (readV t)] 23)).drew w.heap.size 23 [.int .i64 0, .int .i64 0, .int .i64 0, .int .i64 0] := (hz.alloc _).drew
    obtain ⟨w3, hw3⟩ : ∃ x, x = (w2.alloc (.cells #[.int .i64 (readV p), .int .i64 (readV q), .int .i64 (readV r), .int .i64 (readV t)] 23)).drew := ⟨_, rfl⟩
    rw [← hw3] at hm hb3 hz3 ⊢
    clear hw3 hS0 HS hz hb hp1 hp2 hp3 hp4
    have m0 : _ = some (Value.int .i64 (readV p)) := hm.cell 0
    have m1 : _ = some (Value.int .i64 (readV q)) := hm.cell 1
    have m2 : _ = some (Value.int .i64 (readV r)) := hm.cell 2
    have m3 : _ = some (Value.int .i64 (readV t)) := hm.cell 3
    go_wp2_with fail
    refine (mgGood_any).mono ?_
    rintro e1 w4 ⟨rfl, hn⟩
    have hb := hb3.trans (hn.mono hb3.size)
    have hz := hz3.below hn hz3.lt
    replace hm := hm.below hn hm.lt
    clear m0 m1 m2 m3 hn hb3 hz3
    cases h : mgB (readV p) (readV q) (readV r) (readV t)
    · have HNO := Lib.hid (show ∀ a b c d : Nat, ¬ IsT s a b c d from fun a b c d hT => by
        obtain ⟨f1, f2, f3, f4⟩ := isT_read hT HSP.out
        rw [f1, f2, f3, f4, mgB_nat hT.1 hT.2.1 hT.2.2.1 hT.2.2.2.1] at h
        cases h)
      clear h
      (have z0 : _ = some (Value.int .i64 0) := hz.cell 0); (have z1 : _ = some (Value.int .i64 0) := hz.cell 1); (have z2 : _ = some (Value.int .i64 0) := hz.cell 2); (have z3 : _ = some (Value.int .i64 0) := hz.cell 3); have y0 := hz.frozen 0; have y1 := hz.frozen 1; have y2 := hz.frozen 2; have y3 := hz.frozen 3
      go_wp2_with fail
      clear z0 z1 z2 z3 y0 y1 y2 y3; have hz4 := (((hz.set_ 0 ((.int .i64 0))).set_ 1 ((.int .i64 0))).set_ 2 ((.int .i64 0))).set_ 3 ((.int .i64 0)); (have q0 : _ = some ((.int .i64 0) : Value) := hz4.cell 0); (have q1 : _ = some ((.int .i64 0) : Value) := hz4.cell 1); (have q2 : _ = some ((.int .i64 0) : Value) := hz4.cell 2); (have q3 : _ = some ((.int .i64 0) : Value) := hz4.cell 3); exact bodyPost_ret (v := .tuple #[.agg #[(.int .i64 0), (.int .i64 0), (.int .i64 0), (.int .i64 0)], .bool false]) (by simp [results, Tryd.results5, go_sem, q0, q1, q2, q3]) rfl (⟨.inr ⟨HNO.out, rfl⟩, ((((hb.setCell (by simp) _).setCell (by simp) _).setCell (by simp) _).setCell (by simp) _)⟩)
    · have HT := Lib.hid (spec_yes HSP.out h)
      obtain ⟨f1, f2, f3, f4⟩ := mgB_true h
      have HE := Lib.hid (show ((readV p).toNat : Int) = readV p ∧ ((readV q).toNat : Int) = readV q ∧ ((readV r).toNat : Int) = readV r ∧ ((readV t).toNat : Int) = readV t by omega)
      clear h f1 f2 f3 f4
      have m0 : _ = some (Value.int .i64 (readV p)) := hm.cell 0
      have m1 : _ = some (Value.int .i64 (readV q)) := hm.cell 1
      have m2 : _ = some (Value.int .i64 (readV r)) := hm.cell 2
      have m3 : _ = some (Value.int .i64 (readV t)) := hm.cell 3
      (have z0 : _ = some (Value.int .i64 0) := hz.cell 0); (have z1 : _ = some (Value.int .i64 0) := hz.cell 1); (have z2 : _ = some (Value.int .i64 0) := hz.cell 2); (have z3 : _ = some (Value.int .i64 0) := hz.cell 3); have y0 := hz.frozen 0; have y1 := hz.frozen 1; have y2 := hz.frozen 2; have y3 := hz.frozen 3
      go_wp2_with fail
      clear m0 m1 m2 m3
      clear z0 z1 z2 z3 y0 y1 y2 y3; have hz4 := (((hz.set_ 0 ((.int .i64 (readV p)))).set_ 1 ((.int .i64 (readV q)))).set_ 2 ((.int .i64 (readV r)))).set_ 3 ((.int .i64 (readV t))); (have q0 : _ = some ((.int .i64 (readV p)) : Value) := hz4.cell 0); (have q1 : _ = some ((.int .i64 (readV q)) : Value) := hz4.cell 1); (have q2 : _ = some ((.int .i64 (readV r)) : Value) := hz4.cell 2); (have q3 : _ = some ((.int .i64 (readV t)) : Value) := hz4.cell 3); exact bodyPost_ret (v := .tuple #[.agg #[(.int .i64 (readV p)), (.int .i64 (readV q)), (.int .i64 (readV r)), (.int .i64 (readV t))], .bool true]) (by simp [results, Tryd.results5, go_sem, q0, q1, q2, q3]) rfl (⟨.inl ⟨_, _, _, _, HT.out, by rw [HE.out.1, HE.out.2.1, HE.out.2.2.1, HE.out.2.2.2]⟩, ((((hb.setCell (by simp) _).setCell (by simp) _).setCell (by simp) _).setCell (by simp) _)⟩)
end Go.Proofs.YtoclndbenpagnaaDoor
