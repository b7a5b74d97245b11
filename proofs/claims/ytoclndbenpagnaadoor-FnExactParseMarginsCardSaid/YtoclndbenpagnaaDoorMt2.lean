/-
  Contracts: the reference's numerals, the text of margins.
-/
import Derived.Test.YtoclndbenpagnaaDoorMt1
import Derived.Test.YtoclndbenpagnaaDoorStr
import Derived.Lib.ItoaNum
import Derived.Lib.Join
import Derived.WalkKit
import Derived.Deep.RegionHeld3
namespace Go.Proofs.YtoclndbenpagnaaDoor
open Go.RowKit
def numS (n : Nat) : ByteArray := str (Lib.decDigits n)
theorem numS_1 {n : Nat} (h : n < 10) : numS n = str [UInt8.ofNat (48 + n)] := by rw [numS, Lib.decDigits, dif_pos h]
theorem numS_2 {n : Nat} (h : ¬ n < 10) : numS n = str (Lib.decDigits (n / 10) ++ [UInt8.ofNat (48 + n % 10)]) := by rw [numS, Lib.decDigits, dif_neg h]
theorem dig_len : ∀ {n : Nat}, n < 1000 → (Lib.decDigits n).length ≤ 3 := by
  intro n h
  rw [Lib.decDigits]
  split
  · simp
  · rw [Lib.decDigits]
    split
    · simp
    · rw [Lib.decDigits, dif_pos (by omega)]; simp
theorem one_byteC (c : UInt8) (z : Int) (hc : (c.toNat : Int) = z) : ∀ (g : Nat) (W : World), W.cell? ⟨g, 0, none⟩ = some (.int .u8 z) → (convert 56 9 (.slice (some ⟨g, 0, none⟩) 1 1)).run Tryd.prog W = .ok (.string (str [c])) W := by
  intro g W hW
  refine run_convert_bytes_back W _ _ 5 ⟨g, 0, none⟩ 1 [c] Tryd.underlying56 Tryd.underlying5 Tryd.underlying9 (fun j hj => ?_)
  have : j = 0 := by simpa using hj
  subst this
  rw [Addr.add_lit, hW, ← hc]
  rfl
theorem dig_c (n : Nat) (h : n < 10) : ((UInt8.ofNat (48 + n)).toNat : Int) = 48 + (n : Int) := by
  rw [UInt8.toNat_ofNat']
  omega
theorem l1Num_1 (n : Nat) (h : n < 10) (w : World) : Calls Tryd.prog 26 #[.int .i64 (n : Int)] w fun e w' => e = .returned (.string (numS n)) ∧ Below w.heap.size w w' := by
  obtain ⟨c, hc⟩ : ∃ c, c = UInt8.ofNat (48 + n) := ⟨_, rfl⟩
  have hcv := one_byteC c (48 + (n : Int)) (by rw [hc]; exact dig_c n h)
  have HN := Lib.hid (show numS n = str [c] by rw [numS_1 h, hc])
  have h9 : (n : Int) < 10 := by omega
  clear h hc
  go_enter Tryd.func26, Tryd.ntmps26
  go_wp2_with fail
  go_ret
  exact ⟨by rw [HN.out]; rfl, (by (repeat (first | exact Below.refl _ _ | exact hb | apply Below.drew | (refine Below.alloc ?_ (by first | (simp; done) | (simp; omega) | (have := hb.size; simp at this ⊢; omega)) _) | (refine Below.setCell ?_ (by simp) _))))⟩
theorem bz_new {X w' : World} {z : Int} (hn : Below (X.alloc (.cells #[.int .u8 z] 5)).drew.heap.size (X.alloc (.cells #[.int .u8 z] 5)).drew w') : w'.cell? ⟨X.heap.size, 0, none⟩ = some (.int .u8 z) :=
  ((Blk.new' X 5 #[.int .u8 z]).drew.below hn (Blk.new' X 5 #[.int .u8 z]).drew.lt).cell 0
theorem bz_below {w X w' : World} {B : Nat} (hn : Below B X w') (hX : Below w.heap.size w X := by first | exact (Below.refl _ _).drew | exact ((Below.refl _ _).alloc (Nat.le_refl _) _).drew) (hB : w.heap.size ≤ B := by simp) : Below w.heap.size w w' := hX.trans (hn.mono hB)
set_option maxHeartbeats 4000000 in
theorem l1Num_s (N : Int) (q r : Nat) (c : UInt8) (hc : (c.toNat : Int) = 48 + (r : Int)) (hN : ¬ N < 10) (hN2 : N < 1000) (hq : N.tdiv 10 = (q : Int)) (hr : N.tmod 10 = (r : Int)) (hr9 : r < 10) (hq9 : q < 100)
    (hrec : ∀ w, Calls Tryd.prog 26 #[.int .i64 (q : Int)] w fun e w' => e = .returned (.string (numS q)) ∧ Below w.heap.size w w') (w : World) :
    Calls Tryd.prog 26 #[.int .i64 N] w fun e w' => e = .returned (.string (numS q ++ str [c])) ∧ Below w.heap.size w w' := by
  have hcv := one_byteC c _ hc
  have hz1 : (numS q).size ≤ 1048576 := by rw [numS, str_size]; have := dig_len (n := q) (by omega); omega
  have hz2 : (str [c]).size ≤ 1 := by rw [str_size]; simp
  have e48 : IntKind.i64.wrap (48 + (r : Int)) = 48 + (r : Int) := wrapI (by omega) (by omega)
  have eqw : IntKind.i64.wrap (q : Int) = (q : Int) := wrapI (by omega) (by omega)
  have erw : IntKind.i64.wrap (r : Int) = (r : Int) := wrapI (by omega) (by omega)
  have eu8 : IntKind.u8.wrap (48 + (r : Int)) = 48 + (r : Int) := by rw [IntKind.wrap]; simp [IntKind.signed, IntKind.bits]; omega
  have HRC := Lib.hid hrec
  clear hrec hc
  go_enter Tryd.func26, Tryd.ntmps26
  go_wp2_with fail
  go_region_with (go_at_call 26; refine (HRC.out _).mono ?_; rintro e1 w5 ⟨rfl, hn⟩; (first | (have z0 := bz_new hn) | skip))
  all_goals
    have hb9 := Lib.hid (bz_below (w := w) hn)
    clear hn
    go_wp2_with fail
    go_ret
    first
      | exact ⟨rfl, hb9.out⟩
      | exact ⟨rfl, hb9.out.alloc hb9.out.size _⟩
theorem l1Num_up (n q r : Nat) (hq : n / 10 = q) (hr : n % 10 = r) (hN : ¬ n < 10) (hN2 : n < 1000)
    (hrec : ∀ w, Calls Tryd.prog 26 #[.int .i64 (q : Int)] w fun e w' => e = .returned (.string (numS q)) ∧ Below w.heap.size w w') (w : World) :
    Calls Tryd.prog 26 #[.int .i64 (n : Int)] w fun e w' => e = .returned (.string (numS n)) ∧ Below w.heap.size w w' := by
  have h := l1Num_s (n : Int) q r (UInt8.ofNat (48 + r)) (dig_c r (by omega)) (by omega) (by omega) (by rw [← hq]; rfl) (by rw [← hr]; rfl) (by omega) (by omega) hrec w
  rw [numS_2 hN, hq, hr]
  rw [numS, str_append] at h
  exact h
theorem l1Num_any (n : Nat) (h : n < 1000) (w : World) : Calls Tryd.prog 26 #[.int .i64 (n : Int)] w fun e w' => e = .returned (.string (numS n)) ∧ Below w.heap.size w w' := by
  have h2 : ∀ m : Nat, m < 100 → ∀ w, Calls Tryd.prog 26 #[.int .i64 (m : Int)] w fun e w' => e = .returned (.string (numS m)) ∧ Below w.heap.size w w' := by
    intro m hm w
    by_cases h1 : m < 10
    · exact l1Num_1 m h1 w
    · exact l1Num_up m (m / 10) (m % 10) rfl rfl h1 (by omega) (fun w => l1Num_1 (m / 10) (by omega) w) w
  by_cases h1 : n < 100
  · exact h2 n h1 w
  · exact l1Num_up n (n / 10) (n % 10) rfl rfl (by omega) h (fun w => h2 (n / 10) (by omega) w) w
end Go.Proofs.YtoclndbenpagnaaDoor
