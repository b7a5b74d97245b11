/-
  The text of a mark.
-/
import Derived.Test.YtfdmenhnejfhjaaStr
namespace Go.Proofs.Ytfdmenhnejfhjaa
open Go.RowKit
theorem one_byteM (g : Nat) (n : Int) (h0 : 0 ≤ n) (h1 : n < 256) : ∀ W : World, W.cell? ⟨g, 0, none⟩ = some (.int .u8 n) → (convert 76 9 (.slice (some ⟨g, 0, none⟩) 1 1)).run Try.prog W = .ok (.string (str [UInt8.ofNat n.toNat])) W := by
  intro W hW
  refine run_convert_bytes_back W _ _ 5 ⟨g, 0, none⟩ 1 [UInt8.ofNat n.toNat] Try.underlying76 Try.underlying5 Try.underlying9 (fun j hj => ?_)
  have : j = 0 := by simpa using hj
  subst this
  rw [Addr.add_lit, hW]
  simp
  omega
def digF : Nat → Int → List UInt8 → List UInt8
  | 0, _, acc => acc
  | f + 1, q, acc => if q ≤ 0 then acc else digF f (q / 10) (UInt8.ofNat (48 + q % 10).toNat :: acc)
theorem digF_end {f : Nat} {q : Int} {acc : List UInt8} (h : q ≤ 0) : digF f q acc = acc := by
  cases f with
  | zero => rfl
  | succ f => rw [digF, if_pos h]
def markS (k : Int) : ByteArray := str (109 :: digF k.toNat k [])
theorem markS_size (k : Int) (h : 0 ≤ k ∧ k ≤ 1000000000) : (markS k).size ≤ 1000000001 := by
  have aux : ∀ (f : Nat) (q : Int) (acc : List UInt8), (digF f q acc).length ≤ f + acc.length := by
    intro f
    induction f with
    | zero => intro q acc; simp [digF]
    | succ f ih =>
      intro q acc
      rw [digF]
      split
      · omega
      · have := ih (q / 10) (UInt8.ofNat (48 + q % 10).toNat :: acc)
        simp only [List.length_cons] at this
        omega
  have := aux k.toNat k []
  simp only [List.length_nil] at this
  rw [markS, str_size, List.length_cons]
  omega
set_option maxRecDepth 100000 in
theorem markText_any (K : Int) (w : World) (hK : 1 ≤ K ∧ K ≤ 1000000000) : Calls Try.prog 32 #[.int .i64 K] w fun e w' => e = .returned (.string (markS K)) ∧ Below w.heap.size w w' := by
  have e0 : ¬ K ≤ 0 := by omega
  go_enter Try.func32, Try.ntmps32
  go_wp2_with fail
  go_loopw [3, 0] (fun u v wr => ∃ (q : Int) (acc : List UInt8) (f : Nat), 0 ≤ q ∧ q ≤ K ∧ q ≤ f ∧ u = .string (str acc) ∧ v = .int .i64 q ∧ acc.length + f = K.toNat ∧ digF f q acc = digF K.toNat K [] ∧ Below w.heap.size w wr) (fun _ v _ => (intOf v).toNat)
  case atStart => exact ⟨K, [], K.toNat, by omega, by omega, by omega, rfl, rfl, by simp, rfl, Below.refl _ _⟩
  case round =>
    obtain ⟨q, acc, f, hq, hqK, hqf, rfl, rfl, hl, hR, hb⟩ := hrel
    have HL := Lib.hid hl
    have hls : (str acc).size ≤ 1000000000 := by rw [str_size]; omega
    by_cases hlt : 0 < q
    · obtain ⟨f', rfl⟩ : ∃ f', f = f' + 1 := ⟨f - 1, by omega⟩
      have HR := Lib.hid (show digF f' (q / 10) (UInt8.ofNat (48 + q % 10).toNat :: acc) = digF K.toNat K [] by rw [← hR, digF, if_neg (by omega)])
      have hcv := one_byteM wr.heap.size (48 + q % 10) (by omega) (by omega)
      have hs1 : (str [UInt8.ofNat (48 + q % 10).toNat]).size ≤ 1 := by rw [str_size]; simp
      clear hR hl
      go_wp2_with fail
      go_roundw
      case rel => exact ⟨q / 10, UInt8.ofNat (48 + q % 10).toNat :: acc, f', by omega, by omega, by omega, by rw [str_append]; rfl, rfl, by have := HL.out; simp only [List.length_cons]; omega, HR.out, hb.alloc hb.size _⟩
      case measure => simp [intOf]; omega
    · have HR := Lib.hid (show acc = digF K.toNat K [] by rw [← hR, digF_end (by omega)])
      clear hR hl
      have e2 : (⟨#[109]⟩ : ByteArray) ++ str acc = str (109 :: acc) := str_append [109] acc
      go_wp2_with fail
      go_ret
      refine ⟨?_, hb⟩
      rw [markS, ← HR.out]
      rfl
end Go.Proofs.Ytfdmenhnejfhjaa
