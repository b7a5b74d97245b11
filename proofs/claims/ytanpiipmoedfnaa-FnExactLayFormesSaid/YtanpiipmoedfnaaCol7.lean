/-
  Contracts of LayFormes and its law.
-/
import Derived.Test.YtanpiipmoedfnaaCol6
namespace Go.Proofs.Ytanpiipmoedfnaa
open Go.RowKit
def lfT (a d : UInt8) : UInt8 := if (d.toNat : Int) = 32 then a else d
def lfI (d : UInt8) : UInt8 := if (d.toNat : Int) = 32 then 98 else 114
def lfC (a d : UInt8) : Bool := decide ((a.toNat : Int) = 32) || decide ((d.toNat : Int) = 32)
def lfTL : List UInt8 → List UInt8 → List UInt8
  | a :: r, d :: s => lfT a d :: lfTL r s
  | _, _ => []
def lfB : List UInt8 → List UInt8 → Bool
  | a :: r, d :: s => lfC a d && lfB r s
  | _, _ => true
def lyB (b r : ByteArray) : Bool := txB b && (txB r && (decide (b.size = r.size) && lfB (bytes b) (bytes r)))
def lyT (b r : ByteArray) : ByteArray := if lyB b r then str (lfTL (bytes b) (bytes r)) else ⟨#[]⟩
def lyI (b r : ByteArray) : ByteArray := if lyB b r then str ((bytes r).map lfI) else ⟨#[]⟩
theorem ly_spec (b r : ByteArray) (w : World) (hbs : b.size ≤ 1048576) (hrs : r.size ≤ 1048576) : Calls Try.prog 17 #[.string b, .string r] w fun e w' => e = .returned (.tuple #[.agg #[.string (lyT b r), .string (lyI b r)], .bool (lyB b r)]) ∧ Below w.heap.size w w' := by
  have hz := Blk.new' w 26 (#[.string ⟨#[]⟩, .string ⟨#[]⟩] : Array Value)
  have hb : Below w.heap.size w (w.alloc (.cells (#[.string ⟨#[]⟩, .string ⟨#[]⟩] : Array Value) 26)) := (by (repeat (first | exact Below.refl _ _ | exact hb | apply Below.drew | (refine Below.alloc ?_ (by first | (simp; done) | (simp; omega) | (have := hb.size; simp at this ⊢; omega)) _) | (refine Below.setCell ?_ (by simp) _))))
  cases c1 : txB b
  · have h2 : lyB b r = false := by simp [lyB, c1]
    go_enter Try.func17, Try.ntmps17
    (go_wp2_with fail; refine (coText_any b _ hbs).mono ?_; rintro e1 w1 ⟨rfl, rfl⟩)
    (go_wp2_with fail; have q0 : _ = some (Value.string ⟨#[]⟩) := hz.cell 0; have q1 : _ = some (Value.string ⟨#[]⟩) := hz.cell 1; exact bodyPost_ret (v := .tuple #[.agg #[.string (lyT b r), .string (lyI b r)], .bool (lyB b r)]) (by simp [results, Try.results17, go_sem, lyT, lyI, h2, q0, q1]) rfl ⟨rfl, hb⟩)
  cases c2 : txB r
  · have h2 : lyB b r = false := by simp [lyB, c2]
    go_enter Try.func17, Try.ntmps17
    (go_wp2_with fail; refine (coText_any b _ hbs).mono ?_; rintro e1 w1 ⟨rfl, rfl⟩)
    (go_wp2_with fail; refine (coText_any r _ hrs).mono ?_; rintro e1 w1 ⟨rfl, rfl⟩)
    (go_wp2_with fail; have q0 : _ = some (Value.string ⟨#[]⟩) := hz.cell 0; have q1 : _ = some (Value.string ⟨#[]⟩) := hz.cell 1; exact bodyPost_ret (v := .tuple #[.agg #[.string (lyT b r), .string (lyI b r)], .bool (lyB b r)]) (by simp [results, Try.results17, go_sem, lyT, lyI, h2, q0, q1]) rfl ⟨rfl, hb⟩)
  by_cases c3 : b.size = r.size
  case neg =>
    have h2 : lyB b r = false := by simp [lyB, c3]
    have c4 : ((b.size : Int) != (r.size : Int)) = true := by simp; omega
    go_enter Try.func17, Try.ntmps17
    (go_wp2_with fail; refine (coText_any b _ hbs).mono ?_; rintro e1 w1 ⟨rfl, rfl⟩)
    (go_wp2_with fail; refine (coText_any r _ hrs).mono ?_; rintro e1 w1 ⟨rfl, rfl⟩)
    (go_wp2_with fail; have q0 : _ = some (Value.string ⟨#[]⟩) := hz.cell 0; have q1 : _ = some (Value.string ⟨#[]⟩) := hz.cell 1; exact bodyPost_ret (v := .tuple #[.agg #[.string (lyT b r), .string (lyI b r)], .bool (lyB b r)]) (by simp [results, Try.results17, go_sem, lyT, lyI, h2, q0, q1]) rfl ⟨rfl, hb⟩)
  have c4 : ((b.size : Int) != (r.size : Int)) = false := by simp [c3]
  have C3 := Lib.hid c3
  clear c3
  go_enter Try.func17, Try.ntmps17
  (go_wp2_with fail; refine (coText_any b _ hbs).mono ?_; rintro e1 w1 ⟨rfl, rfl⟩)
  (go_wp2_with fail; refine (coText_any r _ hrs).mono ?_; rintro e1 w1 ⟨rfl, rfl⟩)
  go_wp2_with fail
  go_loopw [7] (fun _ wr => ∃ (k : Nat) (l m : List UInt8), k ≤ b.size ∧ l.length = k ∧ m.length = k ∧ l ++ lfTL ((bytes b).drop k) ((bytes r).drop k) = lfTL (bytes b) (bytes r) ∧ m = ((bytes r).take k).map lfI ∧ lfB ((bytes b).drop k) ((bytes r).drop k) = lfB (bytes b) (bytes r) ∧ wr.heap[w.heap.size + 2]? = some (.stringIter b k) ∧ Blk wr w.heap.size 26 [.string ⟨#[]⟩, .string ⟨#[]⟩] ∧ Blk wr (w.heap.size + 1) 26 [.string (str l), .string (str m)] ∧ Below w.heap.size w wr) (fun _ wr => b.size - wr.iterPos (w.heap.size + 2))
  case atStart =>
    refine ⟨0, [], [], Nat.zero_le _, rfl, rfl, rfl, rfl, rfl, ?_, (hz.alloc _).alloc _, ?_, (hb.alloc hb.size _).alloc (by have := hb.size; simp at this ⊢ <;> omega) _⟩
    · have := World.iter_heap ((w.alloc (.cells (#[.string ⟨#[]⟩, .string ⟨#[]⟩] : Array Value) 26)).alloc (.cells (#[.string ⟨#[]⟩, .string ⟨#[]⟩] : Array Value) 26)) b 0
      rw [World.size_alloc, World.size_alloc] at this
      exact this
    · have h := (Blk.new' (w.alloc (.cells (#[.string ⟨#[]⟩, .string ⟨#[]⟩] : Array Value) 26)) 26 (#[.string ⟨#[]⟩, .string ⟨#[]⟩] : Array Value)).alloc (.stringIter b 0)
      rw [World.size_alloc] at h
      exact h
  case round =>
    clear hz hb
    obtain ⟨k, l, m, hk, hl, hm, hL, hM, hB, hit, hz, hx, hb⟩ := hrel
    have HL := Lib.hid hL; clear hL
    have HM := Lib.hid hM; clear hM
    have HB := Lib.hid hB; clear hB
    by_cases hlt : k < b.size
    · have hasc : b[k].toNat < 128 := plB_ascii (by simp only [txB, Bool.and_eq_true] at c1; exact c1.1) (bytes_get b k hlt)
      have hlt2 : k < r.size := by have := C3.out; omega
      have hnx := Lib.run_next_ascii_at (P := Try.prog) wr (w.heap.size + 2) b k 0 hit hlt hasc
      have hz2 : Blk (wr.iterAt (w.heap.size + 2) b (k + 1)) w.heap.size 26 [.string ⟨#[]⟩, .string ⟨#[]⟩] := (Lib.iterAt_other wr (w.heap.size + 2) w.heap.size b (k + 1) (by omega)).trans hz
      have hx2 : Blk (wr.iterAt (w.heap.size + 2) b (k + 1)) (w.heap.size + 1) 26 [.string (str l), .string (str m)] := (Lib.iterAt_other wr (w.heap.size + 2) (w.heap.size + 1) b (k + 1) (by omega)).trans hx
      have hb2 := Lib.below_iterAt hb (by omega) b (k + 1) (k := w.heap.size + 2)
      have hit2 := Lib.iterAt_heap wr _ b k (k + 1) hit
      have hls : (str l).size ≤ 1048576 := by rw [str_size]; omega
      have hms : (str m).size ≤ 1048576 := by rw [str_size]; omega
      have HD := Lib.hid (bytes_drop b k hlt)
      have HE := Lib.hid (bytes_drop r k hlt2)
      have HIT := Lib.hid (iterPos_of hit)
      have x0 : _ = some (Value.string (str l)) := hx2.cell 0
      have x1 : _ = some (Value.string (str m)) := hx2.cell 1
      have y0 := hx2.frozen 0
      have y1 := hx2.frozen 1
      have HI2 := Lib.hid hit2; clear hit2
      have hmsr : ∀ W : World, W.heap[w.heap.size + 2]? = some (.stringIter b (k + 1)) → b.size - W.iterPos (w.heap.size + 2) < b.size - wr.iterPos (w.heap.size + 2) := by
        intro W hW
        rw [HIT.out, iterPos_of hW]
        omega
      have HMS := Lib.hid hmsr; clear hmsr
      by_cases q1 : (r[k].toNat : Int) = 32
      · obtain ⟨f1, f2⟩ := ne_f q1
        have hT : lfT b[k] r[k] = b[k] := by rw [lfT, if_pos q1]
        have hI : lfI r[k] = 98 := by rw [lfI, if_pos q1]
        have hC : lfC b[k] r[k] = true := by simp [lfC, q1]
        have HT := Lib.hid hT; have HI := Lib.hid hI; have HC := Lib.hid hC
        clear q1 hT hI hC
        have hbb : ((b[k].toNat : Int) != 32) = true ∨ ((b[k].toNat : Int) != 32) = false := by cases ((b[k].toNat : Int) != 32) <;> simp
        rcases hbb with g1 | g1
        all_goals
          go_wp2_with fail
          go_region
          have z1 : _ = some (Value.string (str m)) := (hx2.set_ 0 (.string (str l ++ b.extract k (k + 1)))).cell 1; have z2 := (hx2.set_ 0 (.string (str l ++ b.extract k (k + 1)))).frozen 1
          go_wp2_with fail
          go_roundw
          case rel =>
            refine ⟨k + 1, l ++ [b[k]], m ++ [98], by omega, by simp [hl], by simp [hm], ?_, ?_, ?_, (Below.heap_setCell _ _ _ _ (by simp)).trans ((Below.heap_setCell _ _ _ _ (by simp)).trans HI2.out), ((hz2.far (by simp) _).far (by simp) _), ?_, ((hb2.setCell (by simp) _).setCell (by simp) _).drew⟩
            · rw [← HL.out, HD.out, HE.out, lfTL, HT.out, List.append_assoc]; rfl
            · rw [HM.out, (drop_facts HE.out).2.2, List.map_append, List.map_cons, HI.out]; rfl
            · rw [← HB.out, HD.out, HE.out, lfB, HC.out, Bool.true_and]
            · have := ((hx2.set_ 0 (.string (str l ++ b.extract k (k + 1)))).set_ 1 (.string (str m ++ str [98])))
              rw [str_extract b k hlt, str_append, str_append] at this
              rw [str_extract b k hlt, str_append]
              exact this
          case measure => exact HMS.out _ ((Below.heap_setCell _ _ _ _ (by simp)).trans ((Below.heap_setCell _ _ _ _ (by simp)).trans HI2.out))
      · obtain ⟨f1, f2⟩ := ne_t q1
        by_cases q2 : (b[k].toNat : Int) = 32
        · obtain ⟨f3, f4⟩ := ne_f q2
          have hT : lfT b[k] r[k] = r[k] := by rw [lfT, if_neg q1]
          have hI : lfI r[k] = 114 := by rw [lfI, if_neg q1]
          have hC : lfC b[k] r[k] = true := by simp [lfC, q2]
          have HT := Lib.hid hT; have HI := Lib.hid hI; have HC := Lib.hid hC
          clear q1 q2 hT hI hC
          have l0 : (0 : Int) ≤ (k : Int) := by omega
          have l1 : (k : Int) < (r.size : Int) := by omega
          go_wp2_with fail
          go_region
          have z1 : _ = some (Value.string (str m)) := (hx2.set_ 0 (.string (str l ++ r.extract k (k + 1)))).cell 1; have z2 := (hx2.set_ 0 (.string (str l ++ r.extract k (k + 1)))).frozen 1
          go_wp2_with fail
          go_roundw
          case rel =>
            refine ⟨k + 1, l ++ [r[k]], m ++ [114], by omega, by simp [hl], by simp [hm], ?_, ?_, ?_, (Below.heap_setCell _ _ _ _ (by simp)).trans ((Below.heap_setCell _ _ _ _ (by simp)).trans HI2.out), ((hz2.far (by simp) _).far (by simp) _), ?_, ((hb2.setCell (by simp) _).setCell (by simp) _).drew⟩
            · rw [← HL.out, HD.out, HE.out, lfTL, HT.out, List.append_assoc]; rfl
            · rw [HM.out, (drop_facts HE.out).2.2, List.map_append, List.map_cons, HI.out]; rfl
            · rw [← HB.out, HD.out, HE.out, lfB, HC.out, Bool.true_and]
            · have := ((hx2.set_ 0 (.string (str l ++ r.extract k (k + 1)))).set_ 1 (.string (str m ++ str [114])))
              rw [str_extract r k hlt2, str_append, str_append] at this
              rw [str_extract r k hlt2, str_append]
              exact this
          case measure => exact HMS.out _ ((Below.heap_setCell _ _ _ _ (by simp)).trans ((Below.heap_setCell _ _ _ _ (by simp)).trans HI2.out))
        · obtain ⟨f3, f4⟩ := ne_t q2
          have h2 : lyB b r = false := by
            have e : lfB (bytes b) (bytes r) = false := by rw [← HB.out, HD.out, HE.out, lfB]; simp [lfC, q1, q2]
            simp [lyB, e]
          clear q1 q2 x0 x1 y0 y1
          have z0 : _ = some (Value.string ⟨#[]⟩) := hz2.cell 0
          have z1 : _ = some (Value.string ⟨#[]⟩) := hz2.cell 1
          have y0 := hz2.frozen 0
          have y1 := hz2.frozen 1
          go_wp2_with fail
          clear z0 z1 y0 y1
          have hz := hz2
          have hz := (hz.set_ 0 (.string ⟨#[]⟩)).set_ 1 (.string ⟨#[]⟩); have q0 : _ = some (Value.string ⟨#[]⟩) := hz.cell 0; have q1 : _ = some (Value.string ⟨#[]⟩) := hz.cell 1
          exact bodyPost_ret (v := .tuple #[.agg #[.string (lyT b r), .string (lyI b r)], .bool (lyB b r)]) (by simp [results, Try.results17, go_sem, lyT, lyI, h2, q0, q1]) rfl ⟨rfl, (hb2.setCell (by simp) _).setCell (by simp) _⟩
    · have hnx := Lib.run_next_end_at (P := Try.prog) wr (w.heap.size + 2) b k 0 hit hlt
      have hbr := C3.out
      have e : lfB (bytes b) (bytes r) = true := by rw [← HB.out, List.drop_of_length_le (l := bytes b) (by rw [bytes_len]; omega)]; rfl
      have h2 : lyB b r = true := by simp [lyB, c1, c2, hbr, e]
      have hT : str l = lyT b r := by rw [lyT, if_pos h2, ← HL.out, List.drop_of_length_le (l := bytes b) (by rw [bytes_len]; omega)]; simp [lfTL]
      have hI : str m = lyI b r := by rw [lyI, if_pos h2, HM.out, List.take_of_length_le (by rw [bytes_len]; omega)]
      rw [hT, hI] at hx
      have H2 := Lib.hid h2
      clear hT hI e hbr h2 hl hm
      have x0 : _ = some (Value.string (lyT b r)) := hx.cell 0
      have x1 : _ = some (Value.string (lyI b r)) := hx.cell 1
      have z0 : _ = some (Value.string ⟨#[]⟩) := hz.cell 0; have z1 : _ = some (Value.string ⟨#[]⟩) := hz.cell 1; have y0 := hz.frozen 0; have y1 := hz.frozen 1
      go_wp2_with fail
      clear z0 z1 y0 y1 x0 x1
      have hz := (hz.set_ 0 (.string (lyT b r))).set_ 1 (.string (lyI b r)); have q0 : _ = some (Value.string (lyT b r)) := hz.cell 0; have q1 : _ = some (Value.string (lyI b r)) := hz.cell 1
      exact bodyPost_ret (v := .tuple #[.agg #[.string (lyT b r), .string (lyI b r)], .bool (lyB b r)]) (by simp [results, Try.results17, go_sem, H2.out, q0, q1]) rfl ⟨rfl, (hb.setCell (by simp) _).setCell (by simp) _⟩
theorem ly_impl (b r : ByteArray) (w : World) (hbs : b.size ≤ 1048576) (hrs : r.size ≤ 1048576) : Calls Try.prog 18 #[.string b, .string r] w fun e w' => e = .returned (.tuple #[.agg #[.string (lyT b r), .string (lyI b r)], .bool (lyB b r)]) ∧ Below w.heap.size w w' := by
  have hz := Blk.new' w 26 (#[.string ⟨#[]⟩, .string ⟨#[]⟩] : Array Value)
  have hb : Below w.heap.size w (w.alloc (.cells (#[.string ⟨#[]⟩, .string ⟨#[]⟩] : Array Value) 26)) := (by (repeat (first | exact Below.refl _ _ | exact hb | apply Below.drew | (refine Below.alloc ?_ (by first | (simp; done) | (simp; omega) | (have := hb.size; simp at this ⊢; omega)) _) | (refine Below.setCell ?_ (by simp) _))))
  cases c1 : txB b
  · have h2 : lyB b r = false := by simp [lyB, c1]
    go_enter Try.func18, Try.ntmps18
    (go_wp2_with fail; refine (plain_any b _ hbs).mono ?_; rintro e1 w1 ⟨rfl, rfl⟩)
    (go_wp2_with fail; have q0 : _ = some (Value.string ⟨#[]⟩) := hz.cell 0; have q1 : _ = some (Value.string ⟨#[]⟩) := hz.cell 1; exact bodyPost_ret (v := .tuple #[.agg #[.string (lyT b r), .string (lyI b r)], .bool (lyB b r)]) (by simp [results, Try.results18, go_sem, lyT, lyI, h2, q0, q1]) rfl ⟨rfl, hb⟩)
  cases c2 : txB r
  · have h2 : lyB b r = false := by simp [lyB, c2]
    go_enter Try.func18, Try.ntmps18
    (go_wp2_with fail; refine (plain_any b _ hbs).mono ?_; rintro e1 w1 ⟨rfl, rfl⟩)
    (go_wp2_with fail; refine (plain_any r _ hrs).mono ?_; rintro e1 w1 ⟨rfl, rfl⟩)
    (go_wp2_with fail; have q0 : _ = some (Value.string ⟨#[]⟩) := hz.cell 0; have q1 : _ = some (Value.string ⟨#[]⟩) := hz.cell 1; exact bodyPost_ret (v := .tuple #[.agg #[.string (lyT b r), .string (lyI b r)], .bool (lyB b r)]) (by simp [results, Try.results18, go_sem, lyT, lyI, h2, q0, q1]) rfl ⟨rfl, hb⟩)
  by_cases c3 : b.size = r.size
  case neg =>
    have h2 : lyB b r = false := by simp [lyB, c3]
    have c4 : ((b.size : Int) != (r.size : Int)) = true := by simp; omega
    go_enter Try.func18, Try.ntmps18
    (go_wp2_with fail; refine (plain_any b _ hbs).mono ?_; rintro e1 w1 ⟨rfl, rfl⟩)
    (go_wp2_with fail; refine (plain_any r _ hrs).mono ?_; rintro e1 w1 ⟨rfl, rfl⟩)
    (go_wp2_with fail; have q0 : _ = some (Value.string ⟨#[]⟩) := hz.cell 0; have q1 : _ = some (Value.string ⟨#[]⟩) := hz.cell 1; exact bodyPost_ret (v := .tuple #[.agg #[.string (lyT b r), .string (lyI b r)], .bool (lyB b r)]) (by simp [results, Try.results18, go_sem, lyT, lyI, h2, q0, q1]) rfl ⟨rfl, hb⟩)
  have c4 : ((b.size : Int) != (r.size : Int)) = false := by simp [c3]
  have C3 := Lib.hid c3
  clear c3
  obtain ⟨i0, hi, hz0, hz1, hz2⟩ := info_parts info8
  have hcv := fun w => run_bytes_of_string (P := Try.prog) w 9 58 5 b Try.underlying9 Try.underlying58 Try.underlying5
  go_enter Try.func18, Try.ntmps18
  (go_wp2_with fail; refine (plain_any b _ hbs).mono ?_; rintro e1 w1 ⟨rfl, rfl⟩)
  (go_wp2_with fail; refine (plain_any r _ hrs).mono ?_; rintro e1 w1 ⟨rfl, rfl⟩)
  go_wp2_with fail
  clear hz hb
  go_loopw [7, 30] (fun v u wr => ∃ (k : Nat) (l : List UInt8), k ≤ b.size ∧ u = .int .i64 k ∧ l.length = b.size ∧ l.drop k = (bytes b).drop k ∧ l.take k ++ lfTL ((bytes b).drop k) ((bytes r).drop k) = lfTL (bytes b) (bytes r) ∧ lfB ((bytes b).drop k) ((bytes r).drop k) = lfB (bytes b) (bytes r) ∧ wr.ownsRow (w.heap.size + 2) 5 1 v k (((bytes r).take k).map (fun c => Value.int .u8 ((lfI c).toNat : Int))) ∧ v ≠ .slice none 0 0 ∧ BBlk wr (w.heap.size + 1) l ∧ Blk wr w.heap.size 26 [.string ⟨#[]⟩, .string ⟨#[]⟩] ∧ w.heap.size + 2 ≤ wr.heap.size ∧ Below w.heap.size w wr) (fun _ u _ => b.size - (intOf u).toNat)
  case atStart =>
    refine ⟨0, bytes b, Nat.zero_le _, rfl, bytes_len b, rfl, rfl, rfl, ?_, by simp, ?_, ?_, by simp, (by (repeat (first | exact Below.refl _ _ | exact hb | apply Below.drew | (refine Below.alloc ?_ (by first | (simp; done) | (simp; omega) | (have := hb.size; simp at this ⊢; omega)) _) | (refine Below.setCell ?_ (by simp) _))))⟩
    · have h := World.ownsRow_made (base := w.heap.size + 2) (e := 5) (size := 1) ((w.alloc (.cells (#[.string ⟨#[]⟩, .string ⟨#[]⟩] : Array Value) 26)).alloc (.cells (bytesRow b (grownCap (w.alloc (.cells (#[.string ⟨#[]⟩, .string ⟨#[]⟩] : Array Value) 26)) b.size 0 5)) 5 ((bytesRow b (grownCap (w.alloc (.cells (#[.string ⟨#[]⟩, .string ⟨#[]⟩] : Array Value) 26)) b.size 0 5)).size, (bytesRow b (grownCap (w.alloc (.cells (#[.string ⟨#[]⟩, .string ⟨#[]⟩] : Array Value) 26)) b.size 0 5)).size + 1))) #[] 0 (by simp) (by simp [maxLen]) rfl
      simp only [World.size_alloc] at h
      exact h
    · have h := BBlk.new (w.alloc (.cells (#[.string ⟨#[]⟩, .string ⟨#[]⟩] : Array Value) 26)) b (grownCap (w.alloc (.cells (#[.string ⟨#[]⟩, .string ⟨#[]⟩] : Array Value) 26)) b.size 0 5)
      rw [World.size_alloc] at h
      exact h.alloc _
    · exact ((Blk.new' w 26 (#[.string ⟨#[]⟩, .string ⟨#[]⟩] : Array Value)).alloc _).alloc _
  case round =>
    clear hcv
    obtain ⟨k, l, hk, rfl, hl, hd, hL, hB, hown, hv, hblk, hz, hsz, hb⟩ := hrel
    have HN := Lib.hid hl; clear hl
    have HD := Lib.hid hd; clear hd
    have HL := Lib.hid hL; clear hL
    have HB := Lib.hid hB; clear hB
    have HV := Lib.hid hv; clear hv
    by_cases hlt : k < b.size
    · have hlt2 : k < r.size := by have := C3.out; omega
      have l0 : (0 : Int) ≤ (k : Int) := by omega
      have l1 : (k : Int) < (b.size : Int) := by omega
      have l2 : (k : Int) < (r.size : Int) := by omega
      have HE := Lib.hid (bytes_drop b k hlt)
      have HF := Lib.hid (bytes_drop r k hlt2)
      have hlk : k < l.length := by rw [HN.out]; exact hlt
      have hlast : ∀ z : Int, z = ((lfI r[k]).toNat : Int) → ((bytes r).take (k + 1)).map (fun c => Value.int .u8 ((lfI c).toNat : Int)) = ((bytes r).take k).map (fun c => Value.int .u8 ((lfI c).toNat : Int)) ++ [Value.int .u8 z] := by
        intro z hz
        rw [(drop_facts HF.out).2.2, List.map_append, hz]
        rfl
      have HLA := Lib.hid hlast; clear hlast
      by_cases q1 : (r[k].toNat : Int) = 32
      · obtain ⟨f1, f2⟩ := ne_f q1
        have hT : lfT b[k] r[k] = b[k] := by rw [lfT, if_pos q1]
        have hI : lfI r[k] = 98 := by rw [lfI, if_pos q1]
        have hC : lfC b[k] r[k] = true := by simp [lfC, q1]
        have HT := Lib.hid hT; have HI := Lib.hid hI; have HC := Lib.hid hC
        clear q1 hT hI hC
        go_wp2_with (at_builtin; refine wpList_append_own _ rfl _ _ 58 rfl (w.heap.size + 2) 5 i0 (.int .u8 0) 1 1 Try.underlying58 hi hz0 hz1 hz2 rfl (by decide) _ _ _ rfl (hown.alloc _) ⟨wr.heap.size, 0, none⟩ 1 1 [.int .u8 98] rfl rfl (new_one _ _ (by simp) _ _) (by intro u hu; simp at hu; subst hu; rfl) (by unfold maxLen; omega) (by omega) (by simp; omega) ?_)
        intro v' w1 hown' hgrow hnil
        have hkb := below_grown (hown.alloc (.cells #[.int .u8 98] 5)) (by simp; omega) hgrow
        have hv' : v' ≠ .slice none 0 0 := by first | exact hnil | exact fun e => HV.out (hnil.1 e).1
        clear hgrow hnil
        have hrel2 : ∃ (k' : Nat) (l : List UInt8), k' ≤ b.size ∧ Value.int .i64 (k + 1) = .int .i64 k' ∧ l.length = b.size ∧ l.drop k' = (bytes b).drop k' ∧ l.take k' ++ lfTL ((bytes b).drop k') ((bytes r).drop k') = lfTL (bytes b) (bytes r) ∧ lfB ((bytes b).drop k') ((bytes r).drop k') = lfB (bytes b) (bytes r) ∧ w1.ownsRow (w.heap.size + 2) 5 1 v' k' (((bytes r).take k').map (fun c => Value.int .u8 ((lfI c).toNat : Int))) ∧ v' ≠ .slice none 0 0 ∧ BBlk w1 (w.heap.size + 1) l ∧ Blk w1 w.heap.size 26 [.string ⟨#[]⟩, .string ⟨#[]⟩] ∧ w.heap.size + 2 ≤ w1.heap.size ∧ Below w.heap.size w w1 := by
          obtain ⟨_, e2, e3⟩ := drop_facts (HD.out.trans HE.out)
          refine ⟨k + 1, l, by omega, by simp, HN.out, e2, ?_, ?_, ?_, hv', (hblk.alloc _).below hkb (by omega), (hz.alloc _).below hkb (by omega), by have := hkb.size; simp at this; omega, (hb.alloc hb.size _).trans (hkb.mono (by have := hb.size; omega))⟩
          · rw [← HL.out, HE.out, HF.out, lfTL, HT.out, e3, List.append_assoc]; rfl
          · rw [← HB.out, HE.out, HF.out, lfB, HC.out, Bool.true_and]
          · rw [HLA.out 98 (by rw [HI.out]; rfl)]; rw [← List.map_take] at hown'; exact hown'
        have HREL := Lib.hid hrel2
        clear hrel2 hkb hown' hown hblk hz hb hv'
        go_wp2_with fail
        go_roundw
        case rel => exact HREL.out
        case measure => simp [intOf]; omega
      · obtain ⟨f1, f2⟩ := ne_t q1
        by_cases q2 : (b[k].toNat : Int) = 32
        · obtain ⟨f3, f4⟩ := ne_f q2
          have hT : lfT b[k] r[k] = r[k] := by rw [lfT, if_neg q1]
          have hI : lfI r[k] = 114 := by rw [lfI, if_neg q1]
          have hC : lfC b[k] r[k] = true := by simp [lfC, q2]
          have HT := Lib.hid hT; have HI := Lib.hid hI; have HC := Lib.hid hC
          clear q1 q2 hT hI hC
          have hlc : l[k]? = some b[k] := (drop_facts (HD.out.trans HE.out)).1
          obtain ⟨z, hzc⟩ : ∃ z, wr.cell? ⟨w.heap.size + 1, k, none⟩ = some z := ⟨_, hblk.cell hlc⟩
          have hfz := hblk.frozen hlk
          clear hlc
          have hown2 := hown.kept (grownBy_set wr ⟨w.heap.size + 1, k, none⟩ (.int .u8 (r[k].toNat : Int))) (by
            by_cases h : u7.ownBlock = none
            · exact Or.inl h
            · right
              intro e
              have := (hown.lt _ e).1
              simp at this)
          go_wp2_with (at_builtin; refine wpList_append_own _ rfl _ _ 58 rfl (w.heap.size + 2) 5 i0 (.int .u8 0) 1 1 Try.underlying58 hi hz0 hz1 hz2 rfl (by decide) _ _ _ rfl (hown2.alloc _) ⟨wr.heap.size, 0, none⟩ 1 1 [.int .u8 114] rfl rfl (new_one _ _ (by simp) _ _) (by intro u hu; simp at hu; subst hu; rfl) (by unfold maxLen; omega) (by omega) (by simp; omega) ?_)
          intro v' w1 hown' hgrow hnil
          have hkb := below_grown (hown2.alloc (.cells #[.int .u8 114] 5)) (by simp; omega) hgrow
          have hv' : v' ≠ .slice none 0 0 := by first | exact hnil | exact fun e => HV.out (hnil.1 e).1
          clear hgrow hnil
          have hrel2 : ∃ (k' : Nat) (l : List UInt8), k' ≤ b.size ∧ Value.int .i64 (k + 1) = .int .i64 k' ∧ l.length = b.size ∧ l.drop k' = (bytes b).drop k' ∧ l.take k' ++ lfTL ((bytes b).drop k') ((bytes r).drop k') = lfTL (bytes b) (bytes r) ∧ lfB ((bytes b).drop k') ((bytes r).drop k') = lfB (bytes b) (bytes r) ∧ w1.ownsRow (w.heap.size + 2) 5 1 v' k' (((bytes r).take k').map (fun c => Value.int .u8 ((lfI c).toNat : Int))) ∧ v' ≠ .slice none 0 0 ∧ BBlk w1 (w.heap.size + 1) l ∧ Blk w1 w.heap.size 26 [.string ⟨#[]⟩, .string ⟨#[]⟩] ∧ w.heap.size + 2 ≤ w1.heap.size ∧ Below w.heap.size w w1 := by
            obtain ⟨e2, e3⟩ := set_facts r[k] (HD.out.trans HE.out)
            have hbs := hblk.set_ k r[k] hlk
            refine ⟨k + 1, l.set k r[k], by omega, by simp, by rw [List.length_set]; exact HN.out, e2, ?_, ?_, ?_, hv', (hbs.alloc _).below hkb (by omega), ((hz.far (by simp) _).alloc _).below hkb (by omega), by have := hkb.size; simp at this; omega, ((hb.setCell (by simp) _).alloc (by have := hb.size; simp <;> omega) _).trans (hkb.mono (by simp <;> omega))⟩
            · rw [← HL.out, HE.out, HF.out, lfTL, HT.out, e3, List.append_assoc]; rfl
            · rw [← HB.out, HE.out, HF.out, lfB, HC.out, Bool.true_and]
            · rw [HLA.out 114 (by rw [HI.out]; rfl)]; rw [← List.map_take] at hown'; exact hown'
          have HREL := Lib.hid hrel2
          clear hrel2 hkb hown' hown hown2 hblk hz hb hzc hfz hv'
          go_wp2_with fail
          go_roundw
          case rel => exact HREL.out
          case measure => simp [intOf]; omega
        · obtain ⟨f3, f4⟩ := ne_t q2
          have h2 : lyB b r = false := by
            have e : lfB (bytes b) (bytes r) = false := by rw [← HB.out, HE.out, HF.out, lfB]; simp [lfC, q1, q2]
            simp [lyB, e]
          clear q1 q2 hown
          have z0 : _ = some (Value.string ⟨#[]⟩) := hz.cell 0; have z1 : _ = some (Value.string ⟨#[]⟩) := hz.cell 1; have y0 := hz.frozen 0; have y1 := hz.frozen 1
          go_wp2_with fail
          clear z0 z1 y0 y1
          have hz := (hz.set_ 0 (.string ⟨#[]⟩)).set_ 1 (.string ⟨#[]⟩); have q0 : _ = some (Value.string ⟨#[]⟩) := hz.cell 0; have q1 : _ = some (Value.string ⟨#[]⟩) := hz.cell 1
          exact bodyPost_ret (v := .tuple #[.agg #[.string (lyT b r), .string (lyI b r)], .bool (lyB b r)]) (by simp [results, Try.results18, go_sem, lyT, lyI, h2, q0, q1]) rfl ⟨rfl, (hb.setCell (by simp) _).setCell (by simp) _⟩
    · have hk2 : k = b.size := by omega
      have hbr := C3.out
      have e : lfB (bytes b) (bytes r) = true := by rw [← HB.out, List.drop_of_length_le (l := bytes b) (by rw [bytes_len]; omega)]; rfl
      have h2 : lyB b r = true := by simp [lyB, c1, c2, hbr, e]
      have hlf : str l = lyT b r := by
        have e := HL.out
        rw [List.take_of_length_le (by rw [HN.out]; omega), List.drop_of_length_le (l := bytes b) (by rw [bytes_len]; omega)] at e
        rw [lyT, if_pos h2, ← e]
        simp [lfTL]
      have hmf : str ((bytes r).map lfI) = lyI b r := by rw [lyI, if_pos h2]
      have hown3 : wr.ownsRow (w.heap.size + 2) 5 1 u7 k (((bytes r).map lfI).map fun c => Value.int .u8 (c.toNat : Int)) := by
        rw [List.take_of_length_le (l := bytes r) (by rw [bytes_len]; omega)] at hown
        rw [List.map_map]
        exact hown
      have hcv1 := fun cap => bytes_back (cap := cap) hblk HN.out
      have hcv2 := own_back hown3 HV.out
      rw [hlf] at hcv1
      rw [hmf] at hcv2
      have H2 := Lib.hid h2
      clear hown hown3 hlf hmf e hbr h2 hk2
      have z0 : _ = some (Value.string ⟨#[]⟩) := hz.cell 0; have z1 : _ = some (Value.string ⟨#[]⟩) := hz.cell 1; have y0 := hz.frozen 0; have y1 := hz.frozen 1
      go_wp2_with fail
      clear z0 z1 y0 y1 hcv1 hcv2
      have hz := (hz.set_ 0 (.string (lyT b r))).set_ 1 (.string (lyI b r)); have q0 : _ = some (Value.string (lyT b r)) := hz.cell 0; have q1 : _ = some (Value.string (lyI b r)) := hz.cell 1
      exact bodyPost_ret (v := .tuple #[.agg #[.string (lyT b r), .string (lyI b r)], .bool (lyB b r)]) (by simp [results, Try.results18, go_sem, H2.out, q0, q1]) rfl ⟨rfl, (hb.setCell (by simp) _).setCell (by simp) _⟩
theorem layLaw (W : World) (b : ByteArray) (hb' : b.size ≤ maxLen) (r : ByteArray) (hr' : r.size ≤ maxLen) : Calls Try.prog 4 #[.string b, .string r] W fun e W' => e = .returned (.bool true) ∧ Below W.heap.size W W' := by
  have hb2 := hb'
  have hr2 := hr'
  unfold maxLen at hb2 hr2
  by_cases hbig : 1048576 < b.size
  · go_enter Try.func4, Try.ntmps4
    go_wp2_with fail
    go_ret
    exact ⟨rfl, (by (repeat (first | exact Below.refl _ _ | exact hb | apply Below.drew | (refine Below.alloc ?_ (by first | (simp; done) | (simp; omega) | (have := hb.size; simp at this ⊢; omega)) _) | (refine Below.setCell ?_ (by simp) _))))⟩
  by_cases hbig2 : 1048576 < r.size
  · go_enter Try.func4, Try.ntmps4
    go_wp2_with fail
    go_ret
    exact ⟨rfl, (by (repeat (first | exact Below.refl _ _ | exact hb | apply Below.drew | (refine Below.alloc ?_ (by first | (simp; done) | (simp; omega) | (have := hb.size; simp at this ⊢; omega)) _) | (refine Below.setCell ?_ (by simp) _))))⟩
  · go_enter Try.func4, Try.ntmps4
    go_wp2_with fail
    refine (ly_spec b r _ (by omega) (by omega)).mono ?_
    rintro e1 w1 ⟨rfl, hn⟩
    obtain ⟨x, hx⟩ : ∃ x, x = lyT b r := ⟨_, rfl⟩; obtain ⟨y, hy⟩ : ∃ y, y = lyI b r := ⟨_, rfl⟩; obtain ⟨z, hz⟩ : ∃ z, z = lyB b r := ⟨_, rfl⟩
    have HI : ∀ w, Calls Try.prog 18 #[.string b, .string r] w fun e w' => e = .returned (.tuple #[.agg #[.string x, .string y], .bool z]) ∧ Below w.heap.size w w' := by rw [hx, hy, hz]; exact fun w => ly_impl b r w (by omega) (by omega)
    rw [← hx, ← hy, ← hz]; clear hx hy hz; have hw := Blk.new' w1 26 #[.string x, .string y]; have hb := hn.alloc hn.size (.cells #[.string x, .string y] 26); clear hn
    go_wp2_with fail
    refine (HI _).mono ?_
    rintro e1 w3 ⟨rfl, hn⟩
    replace hw := hw.below hn hw.lt
    replace hb := hb.trans (hn.mono hb.size)
    replace hw := hw.alloc (.cells #[.string x, .string y] 26); replace hb := hb.alloc hb.size (.cells #[.string x, .string y] 26); have c0 : _ = some (Value.string x) := hw.cell 0; have c1 : _ = some (Value.string y) := hw.cell 1; have hzz : (z != z) = false := by simp
    go_wp2_with fail
    refine (eqInked_any _ _ _).mono ?_
    rintro e1 w4 ⟨rfl, hn⟩
    replace hb := hb.trans (hn.mono hb.size)
    clear c0 c1
    go_wp2_with fail
    go_ret
    exact ⟨rfl, hb⟩
end Go.Proofs.Ytanpiipmoedfnaa
