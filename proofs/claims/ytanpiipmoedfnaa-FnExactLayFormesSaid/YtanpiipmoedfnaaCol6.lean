/-
  Contracts of ParseInked and its law.
-/
import Derived.Test.YtanpiipmoedfnaaCol4
import Derived.WalkKit
namespace Go.Proofs.Ytanpiipmoedfnaa
open Go.RowKit
def upC (a : UInt8) : Bool := decide (65 ≤ (a.toNat : Int)) && decide ((a.toNat : Int) ≤ 90)
def lowC (a : UInt8) : UInt8 := if upC a then a + 32 else a
def inkOf (a : UInt8) : UInt8 := if upC a then 114 else 98
def paT (s : ByteArray) : ByteArray := str ((bytes s).map lowC)
def paI (s : ByteArray) : ByteArray := str ((bytes s).map inkOf)
def paB (s : ByteArray) : Bool := ikB (paT s) (paI s)
def psT (s : ByteArray) : ByteArray := if paB s then paT s else ⟨#[]⟩
def psI (s : ByteArray) : ByteArray := if paB s then paI s else ⟨#[]⟩
theorem paT_size (s : ByteArray) : (paT s).size = s.size := by rw [paT, str_size, List.length_map, bytes_len]
theorem paB_long {s : ByteArray} (h : 30 < s.size) : paB s = false := by
  cases h1 : paB s
  · rfl
  · have := (ikB_true h1).2.1
    rw [paT_size] at this
    omega
theorem one_byte2 (g : Nat) (n : Int) (h0 : 0 ≤ n) (h1 : n < 256) : ∀ W : World, W.cell? ⟨g, 0, none⟩ = some (.int .u8 n) → (convert 58 9 (.slice (some ⟨g, 0, none⟩) 1 1)).run Try.prog W = .ok (.string (str [UInt8.ofNat n.toNat])) W := by
  intro W hW
  refine run_convert_bytes_back W _ _ 5 ⟨g, 0, none⟩ 1 [UInt8.ofNat n.toNat] Try.underlying58 Try.underlying5 Try.underlying9 (fun j hj => ?_)
  have : j = 0 := by simpa using hj
  subst this
  rw [Addr.add_lit, hW]
  simp
  omega
theorem pa_spec (s : ByteArray) (w : World) (hs : s.size ≤ 1048576) : Calls Try.prog 20 #[.string s] w fun e w' => e = .returned (.tuple #[.agg #[.string (psT s), .string (psI s)], .bool (paB s)]) ∧ Below w.heap.size w w' := by
  by_cases h30 : 30 < s.size
  · have h1 := paB_long h30
    go_enter Try.func20, Try.ntmps20
    go_wp2_with fail
    have hz : Blk ((w.alloc (.cells (#[.string ⟨#[]⟩, .string ⟨#[]⟩] : Array Value) 26)).alloc (.cells (#[.string ⟨#[]⟩, .string ⟨#[]⟩] : Array Value) 26)) w.heap.size 26 [.string ⟨#[]⟩, .string ⟨#[]⟩] := (Blk.new' w 26 (#[.string ⟨#[]⟩, .string ⟨#[]⟩] : Array Value)).alloc _
    have q0 : _ = some (Value.string ⟨#[]⟩) := hz.cell 0
    have q1 : _ = some (Value.string ⟨#[]⟩) := hz.cell 1
    exact bodyPost_ret (v := .tuple #[.agg #[.string (psT s), .string (psI s)], .bool (paB s)]) (by simp [results, Try.results20, go_sem, psT, psI, h1, q0, q1]) rfl ⟨rfl, (by (repeat (first | exact Below.refl _ _ | exact hb | apply Below.drew | (refine Below.alloc ?_ (by first | (simp; done) | (simp; omega) | (have := hb.size; simp at this ⊢; omega)) _) | (refine Below.setCell ?_ (by simp) _))))⟩
  · go_enter Try.func20, Try.ntmps20
    go_wp2_with fail
    go_loopw [5] (fun u wr => ∃ (k : Nat) (l m : List UInt8), k ≤ s.size ∧ u = .int .i64 k ∧ l.length = k ∧ m.length = k ∧ l = ((bytes s).take k).map lowC ∧ m = ((bytes s).take k).map inkOf ∧ Blk wr w.heap.size 26 [.string ⟨#[]⟩, .string ⟨#[]⟩] ∧ Blk wr (w.heap.size + 1) 26 [.string (str l), .string (str m)] ∧ Below w.heap.size w wr) (fun u _ => s.size - (intOf u).toNat)
    case atStart =>
      refine ⟨0, [], [], Nat.zero_le _, rfl, rfl, rfl, rfl, rfl, (Blk.new' w 26 (#[.string ⟨#[]⟩, .string ⟨#[]⟩] : Array Value)).alloc _, ?_, (by (repeat (first | exact Below.refl _ _ | exact hb | apply Below.drew | (refine Below.alloc ?_ (by first | (simp; done) | (simp; omega) | (have := hb.size; simp at this ⊢; omega)) _) | (refine Below.setCell ?_ (by simp) _))))⟩
      have h := Blk.new' (w.alloc (.cells (#[.string ⟨#[]⟩, .string ⟨#[]⟩] : Array Value) 26)) 26 (#[.string ⟨#[]⟩, .string ⟨#[]⟩] : Array Value)
      rw [World.size_alloc] at h
      exact h
    case round =>
      obtain ⟨k, l, m, hk, rfl, hl, hm, hL, hM, hz, hx, hb⟩ := hrel
      have HL := Lib.hid hL; clear hL
      have HM := Lib.hid hM; clear hM
      by_cases hlt : k < s.size
      · have l0 : (0 : Int) ≤ (k : Int) := by omega
        have l1 : (k : Int) < (s.size : Int) := by omega
        have hls : (str l).size ≤ 1048576 := by rw [str_size]; omega
        have hms : (str m).size ≤ 1048576 := by rw [str_size]; omega
        have HE := Lib.hid (bytes_drop s k hlt)
        have x0 : _ = some (Value.string (str l)) := hx.cell 0
        have x1 : _ = some (Value.string (str m)) := hx.cell 1
        have y0 := hx.frozen 0
        have y1 := hx.frozen 1
        by_cases hu : upC s[k] = true
        · have hu2 : 65 ≤ (s[k].toNat : Int) ∧ (s[k].toNat : Int) ≤ 90 := by simpa [upC] using hu
          obtain ⟨u1, u2⟩ := hu2
          have HU := Lib.hid hu; clear hu
          have hcv := one_byte2 wr.heap.size ((s[k].toNat : Int) - 65 + 97) (by omega) (by omega)
          have hcb0 : UInt8.ofNat ((s[k].toNat : Int) - 65 + 97).toNat = lowC s[k] := by
            rw [lowC, if_pos HU.out, show ((s[k].toNat : Int) - 65 + 97).toNat = s[k].toNat + 32 by omega]
            apply UInt8.toNat_inj.1
            rw [UInt8.toNat_ofNat', UInt8.toNat_add]
            rfl
          rw [hcb0] at hcv
          clear hcb0
          have hio : inkOf s[k] = 114 := by rw [inkOf, if_pos HU.out]
          obtain ⟨cb, hcb⟩ : ∃ cb, cb = lowC s[k] := ⟨_, rfl⟩
          rw [← hcb] at hcv
          have HCB := Lib.hid hcb
          have HIO := Lib.hid hio
          clear hcb hio
          have hs1 : (str [cb]).size ≤ 1 := by rw [str_size]; simp
          have a0 : _ = some (Value.string (str l)) := (hx.alloc (.cells #[.int .u8 ((s[k].toNat : Int) - 65 + 97)] 5)).cell 0
          have a1 := (hx.alloc (.cells #[.int .u8 ((s[k].toNat : Int) - 65 + 97)] 5)).frozen 0
          have z1 : _ = some (Value.string (str m)) := ((hx.alloc (.cells #[.int .u8 ((s[k].toNat : Int) - 65 + 97)] 5)).set_ 0 (.string (str l ++ str [cb]))).cell 1
          have z2 := ((hx.alloc (.cells #[.int .u8 ((s[k].toNat : Int) - 65 + 97)] 5)).set_ 0 (.string (str l ++ str [cb]))).frozen 1
          go_wp2_with fail
          go_region
          go_wp2_with fail
          go_roundw
          case rel =>
            refine ⟨k + 1, l ++ [cb], m ++ [114], by omega, by go_num, by simp [hl], by simp [hm], ?_, ?_, (((hz.alloc _).far (by simp) _).far (by simp) _), ?_, (((hb.alloc hb.size _).setCell (by simp) _).setCell (by simp) _).drew⟩
            · rw [HL.out, (drop_facts HE.out).2.2, List.map_append, HCB.out]; rfl
            · rw [HM.out, (drop_facts HE.out).2.2, List.map_append, List.map_cons, HIO.out]; rfl
            · have := (((hx.alloc (.cells #[.int .u8 ((s[k].toNat : Int) - 65 + 97)] 5)).set_ 0 (.string (str l ++ str [cb]))).set_ 1 (.string (str m ++ str [114])))
              rw [str_append, str_append] at this
              exact this
          case measure => simp [intOf]; omega
        · have HU := Lib.hid hu; clear hu
          have hor : (s[k].toNat : Int) < 65 ∨ 90 < (s[k].toNat : Int) := by
            have := HU.out
            simp only [upC, Bool.and_eq_true, decide_eq_true_eq] at this
            omega
          rcases hor with u1 | u1
          all_goals
            go_wp2_with fail
            go_region
            have z1 : _ = some (Value.string (str m)) := (hx.set_ 0 (.string (str l ++ s.extract k (k + 1)))).cell 1
            have z2 := (hx.set_ 0 (.string (str l ++ s.extract k (k + 1)))).frozen 1
            go_wp2_with fail
            go_roundw
            case rel =>
              have hio : inkOf s[k] = 98 := by rw [inkOf, if_neg HU.out]
              have hlw : lowC s[k] = s[k] := by rw [lowC, if_neg HU.out]
              refine ⟨k + 1, l ++ [s[k]], m ++ [98], by omega, by go_num, by simp [hl], by simp [hm], ?_, ?_, ((hz.far (by simp) _).far (by simp) _), ?_, ((hb.setCell (by simp) _).setCell (by simp) _).drew⟩
              · rw [HL.out, (drop_facts HE.out).2.2, List.map_append, List.map_cons, hlw]; rfl
              · rw [HM.out, (drop_facts HE.out).2.2, List.map_append, List.map_cons, hio]; rfl
              · have := ((hx.set_ 0 (.string (str l ++ s.extract k (k + 1)))).set_ 1 (.string (str m ++ str [98])))
                rw [str_extract s k hlt, str_append, str_append] at this
                rw [str_extract s k hlt, str_append]
                exact this
            case measure => simp [intOf]; omega
      · have hk2 : k = s.size := by omega
        have hL2 : str l = paT s := by rw [HL.out, List.take_of_length_le (by rw [bytes_len]; omega)]; rfl
        have hM2 : str m = paI s := by rw [HM.out, List.take_of_length_le (by rw [bytes_len]; omega)]; rfl
        rw [hL2, hM2] at hx
        clear hL2 hM2 hl hm
        have x0 : _ = some (Value.string (paT s)) := hx.cell 0
        have x1 : _ = some (Value.string (paI s)) := hx.cell 1
        go_wp2_with fail
        clear x0 x1
        refine (coGood_any (paT s) (paI s) _ (by rw [paT_size]; exact hs)).mono ?_
        rintro e1 w1 ⟨rfl, hn⟩
        replace hx := hx.below hn hx.lt; replace hz := hz.below hn hz.lt; replace hb := hb.trans (hn.mono hb.size); clear hn
        have z0 : _ = some (Value.string ⟨#[]⟩) := hz.cell 0; have z1 : _ = some (Value.string ⟨#[]⟩) := hz.cell 1; have y0 := hz.frozen 0; have y1 := hz.frozen 1
        have x0 : _ = some (Value.string (paT s)) := hx.cell 0
        have x1 : _ = some (Value.string (paI s)) := hx.cell 1
        cases h1 : ikB (paT s) (paI s)
        · have h2 : paB s = false := h1
          go_wp2_with fail
          clear z0 z1 y0 y1 x0 x1
          have hz := (hz.set_ 0 (.string ⟨#[]⟩)).set_ 1 (.string ⟨#[]⟩); have q0 : _ = some (Value.string ⟨#[]⟩) := hz.cell 0; have q1 : _ = some (Value.string ⟨#[]⟩) := hz.cell 1
          exact bodyPost_ret (v := .tuple #[.agg #[.string (psT s), .string (psI s)], .bool (paB s)]) (by simp [results, Try.results20, go_sem, psT, psI, h2, q0, q1]) rfl ⟨rfl, (hb.setCell (by simp) _).setCell (by simp) _⟩
        · have h2 : paB s = true := h1
          go_wp2_with fail
          clear z0 z1 y0 y1 x0 x1
          have hz := (hz.set_ 0 (.string (paT s))).set_ 1 (.string (paI s)); have q0 : _ = some (Value.string (paT s)) := hz.cell 0; have q1 : _ = some (Value.string (paI s)) := hz.cell 1
          exact bodyPost_ret (v := .tuple #[.agg #[.string (psT s), .string (psI s)], .bool (paB s)]) (by simp [results, Try.results20, go_sem, psT, psI, h2, q0, q1]) rfl ⟨rfl, (hb.setCell (by simp) _).setCell (by simp) _⟩
theorem new_one (w : World) (g : Nat) (hg : g = w.heap.size) (v : Value) (t : TypeId) : ∀ (j : Nat) (u : Value), [v][j]? = some u → (w.alloc (.cells #[v] t)).cell? ((⟨g, 0, none⟩ : Addr).add j) = some u := by
  subst hg
  intro j u hj
  rw [Addr.add_lit, cell_of_row _ _ _ _ _ _ (heap_alloc_new w _)]
  simpa using hj
theorem info8 : (Try.prog.info? 5).map (fun i => (i.zero, i.size, i.bytes)) = some (some (.int .u8 0), 1, 1) := by kernel_rfl
theorem grownBy_set (w : World) (p : Addr) (v : Value) : w.grownBy (w.setCell p v) (some p.block) :=
  ⟨rfl, rfl, rfl, by simp [World.setCell], fun k _ hk => Below.heap_setCell _ _ _ k (fun e => hk (by rw [e]))⟩
/-- What an append leaves: all below the row's own base. -/
theorem below_grown {w w1 : World} {base : Nat} {e : TypeId} {size : Nat} {v : Value} {n : Nat} {xs : List Value} (h : w.ownsRow base e size v n xs) (hB : base ≤ w.heap.size) (hg : w.grownBy w1 v.ownBlock) : Below base w w1 :=
  (Below.refl base w).grown hg hB (fun k hk => (h.lt k hk).1)
/-- A string made of the bytes that an own row holds. -/
theorem own_back {w : World} {base n : Nat} {v : Value} {l : List UInt8} (h : w.ownsRow base 5 1 v n (l.map fun c => Value.int .u8 (c.toNat : Int))) (hv : v ≠ .slice none 0 0) : (convert 58 9 v).run Try.prog w = .ok (.string (str l)) w := by
  obtain ⟨hl, h⟩ := h
  rcases h with ⟨rfl, _⟩ | ⟨g, cap, cur, rfl, _, hb, _, _, _, ht⟩
  · exact absurd rfl hv
  rw [List.length_map, Nat.mul_one] at hl
  subst hl
  refine run_convert_bytes_back w _ _ 5 _ cap l Try.underlying58 Try.underlying5 Try.underlying9 (fun j hj => ?_)
  rw [Addr.add_lit, Nat.zero_add, cell_of_row w g j cur _ (0, 0) hb]
  have := congrArg (fun x : List Value => x[j]?) ht
  simp only [Nat.mul_one, List.getElem?_take, if_pos hj, List.getElem?_map, List.getElem?_eq_getElem hj, Array.getElem?_toList] at this
  exact this
theorem pa_impl (s : ByteArray) (w : World) (hs : s.size ≤ 1048576) : Calls Try.prog 21 #[.string s] w fun e w' => e = .returned (.tuple #[.agg #[.string (psT s), .string (psI s)], .bool (paB s)]) ∧ Below w.heap.size w w' := by
  obtain ⟨i0, hi, hz0, hz1, hz2⟩ := info_parts info8
  have hcv := fun w => run_bytes_of_string (P := Try.prog) w 9 58 5 s Try.underlying9 Try.underlying58 Try.underlying5
  go_enter Try.func21, Try.ntmps21
  go_wp2_with fail
  go_loopw [5, 14] (fun v u wr => ∃ (k : Nat) (l : List UInt8), k ≤ s.size ∧ u = .int .i64 k ∧ l.length = s.size ∧ l.drop k = (bytes s).drop k ∧ l.take k = ((bytes s).take k).map lowC ∧ wr.ownsRow (w.heap.size + 2) 5 1 v k (((bytes s).take k).map (fun c => Value.int .u8 ((inkOf c).toNat : Int))) ∧ v ≠ .slice none 0 0 ∧ BBlk wr (w.heap.size + 1) l ∧ Blk wr w.heap.size 26 [.string ⟨#[]⟩, .string ⟨#[]⟩] ∧ w.heap.size + 2 ≤ wr.heap.size ∧ Below w.heap.size w wr) (fun _ u _ => s.size - (intOf u).toNat)
  case atStart =>
    refine ⟨0, bytes s, Nat.zero_le _, rfl, bytes_len s, rfl, by simp, ?_, by simp, ?_, ?_, by simp, (by (repeat (first | exact Below.refl _ _ | exact hb | apply Below.drew | (refine Below.alloc ?_ (by first | (simp; done) | (simp; omega) | (have := hb.size; simp at this ⊢; omega)) _) | (refine Below.setCell ?_ (by simp) _))))⟩
    · have h := World.ownsRow_made (base := w.heap.size + 2) (e := 5) (size := 1) ((w.alloc (.cells (#[.string ⟨#[]⟩, .string ⟨#[]⟩] : Array Value) 26)).alloc (.cells (bytesRow s (grownCap (w.alloc (.cells (#[.string ⟨#[]⟩, .string ⟨#[]⟩] : Array Value) 26)) s.size 0 5)) 5 ((bytesRow s (grownCap (w.alloc (.cells (#[.string ⟨#[]⟩, .string ⟨#[]⟩] : Array Value) 26)) s.size 0 5)).size, (bytesRow s (grownCap (w.alloc (.cells (#[.string ⟨#[]⟩, .string ⟨#[]⟩] : Array Value) 26)) s.size 0 5)).size + 1))) #[] 0 (by simp) (by simp [maxLen]) rfl
      simp only [World.size_alloc] at h
      exact h
    · have h := BBlk.new (w.alloc (.cells (#[.string ⟨#[]⟩, .string ⟨#[]⟩] : Array Value) 26)) s (grownCap (w.alloc (.cells (#[.string ⟨#[]⟩, .string ⟨#[]⟩] : Array Value) 26)) s.size 0 5)
      rw [World.size_alloc] at h
      exact h.alloc _
    · exact ((Blk.new' w 26 (#[.string ⟨#[]⟩, .string ⟨#[]⟩] : Array Value)).alloc _).alloc _
  case round =>
    clear hcv
    obtain ⟨k, l, hk, rfl, hl, hd, hlo, hown, hv, hblk, hz, hsz, hb⟩ := hrel
    have HL := Lib.hid hl; clear hl
    have HD := Lib.hid hd; clear hd
    have HW := Lib.hid hlo; clear hlo
    have HV := Lib.hid hv; clear hv
    by_cases hlt : k < s.size
    · have l0 : (0 : Int) ≤ (k : Int) := by omega
      have l1 : (k : Int) < (s.size : Int) := by omega
      have HE := Lib.hid (bytes_drop s k hlt)
      have hlk : k < l.length := by rw [HL.out]; exact hlt
      have hlc : l[k]? = some s[k] := (drop_facts (HD.out.trans HE.out)).1
      have hd : _ = _ := hblk.cell hlc
      have hfz := hblk.frozen hlk
      have hlast : ∀ z : Int, z = ((inkOf s[k]).toNat : Int) → ((bytes s).take (k + 1)).map (fun c => Value.int .u8 ((inkOf c).toNat : Int)) = ((bytes s).take k).map (fun c => Value.int .u8 ((inkOf c).toNat : Int)) ++ [Value.int .u8 z] := by
        intro z hz
        rw [(drop_facts HE.out).2.2, List.map_append, hz]
        rfl
      have HLA := Lib.hid hlast; clear hlast hlc
      by_cases hu : upC s[k] = true
      · have hu2 : 65 ≤ (s[k].toNat : Int) ∧ (s[k].toNat : Int) ≤ 90 := by simpa [upC] using hu
        obtain ⟨u1, u2⟩ := hu2
        have HU := Lib.hid hu; clear hu
        have hown2 := hown.kept (grownBy_set wr ⟨w.heap.size + 1, k, none⟩ (.int .u8 ((s[k].toNat : Int) + 32))) (by
          by_cases h : u5.ownBlock = none
          · exact Or.inl h
          · right
            intro e
            have := (hown.lt _ e).1
            simp at this)
        go_wp2_with (at_builtin; refine wpList_append_own _ rfl _ _ 58 rfl (w.heap.size + 2) 5 i0 (.int .u8 0) 1 1 Try.underlying58 hi hz0 hz1 hz2 rfl (by decide) _ _ _ rfl (hown2.alloc _) ⟨wr.heap.size, 0, none⟩ 1 1 [.int .u8 114] rfl rfl (new_one _ _ (by simp) _ _) (by intro u hu; simp at hu; subst hu; rfl) (by unfold maxLen; omega) (by omega) (by simp; omega) ?_)
        intro v' w1 hown' hgrow hnil
        have hkb := below_grown (hown2.alloc (.cells #[.int .u8 114] 5)) (by simp; omega) hgrow
        have hv' : v' ≠ .slice none 0 0 := by first | exact hnil | exact fun e => HV.out (hnil.1 e).1
        clear hgrow hnil
        have hio : inkOf s[k] = 114 := by rw [inkOf, if_pos HU.out]
        have hlw : lowC s[k] = s[k] + 32 := by rw [lowC, if_pos HU.out]
        have hcb : ((s[k].toNat : Int) + 32) = ((s[k] + 32).toNat : Int) := by
          rw [UInt8.toNat_add]; simp; omega
        have hrel2 : ∃ (k' : Nat) (l : List UInt8), k' ≤ s.size ∧ Value.int .i64 (k + 1) = .int .i64 k' ∧ l.length = s.size ∧ l.drop k' = (bytes s).drop k' ∧ l.take k' = ((bytes s).take k').map lowC ∧ w1.ownsRow (w.heap.size + 2) 5 1 v' k' (((bytes s).take k').map (fun c => Value.int .u8 ((inkOf c).toNat : Int))) ∧ v' ≠ .slice none 0 0 ∧ BBlk w1 (w.heap.size + 1) l ∧ Blk w1 w.heap.size 26 [.string ⟨#[]⟩, .string ⟨#[]⟩] ∧ w.heap.size + 2 ≤ w1.heap.size ∧ Below w.heap.size w w1 := by
          obtain ⟨e2, e3⟩ := set_facts (s[k] + 32) (HD.out.trans HE.out)
          have hbs := hblk.set_ k (s[k] + 32) hlk
          rw [← hcb] at hbs
          refine ⟨k + 1, l.set k (s[k] + 32), by omega, by simp, by rw [List.length_set]; exact HL.out, e2, ?_, ?_, hv', (hbs.alloc _).below hkb (by omega), ((hz.far (by simp) _).alloc _).below hkb (by omega), by have := hkb.size; simp at this; omega, ((hb.setCell (by simp) _).alloc (by have := hb.size; simp <;> omega) _).trans (hkb.mono (by simp <;> omega))⟩
          · rw [e3, HW.out, (drop_facts HE.out).2.2, List.map_append, List.map_cons, hlw]; rfl
          · rw [HLA.out 114 (by rw [hio]; rfl)]; rw [← List.map_take] at hown'; exact hown'
        have HREL := Lib.hid hrel2
        clear hrel2 hkb hown' hown hown2 hblk hz hb hd hfz hcb hio hlw hv'
        go_wp2_with fail
        go_roundw
        case rel => exact HREL.out
        case measure => simp [intOf]; omega
      · have HU := Lib.hid hu; clear hu
        have hor : (s[k].toNat : Int) < 65 ∨ 90 < (s[k].toNat : Int) := by
          have := HU.out
          simp only [upC, Bool.and_eq_true, decide_eq_true_eq] at this
          omega
        have hio : inkOf s[k] = 98 := by rw [inkOf, if_neg HU.out]
        have hlw : lowC s[k] = s[k] := by rw [lowC, if_neg HU.out]
        have HIO := Lib.hid hio
        have HLW := Lib.hid hlw
        clear hio hlw
        rcases hor with u1 | u1
        all_goals
          go_wp2_with (at_builtin; refine wpList_append_own _ rfl _ _ 58 rfl (w.heap.size + 2) 5 i0 (.int .u8 0) 1 1 Try.underlying58 hi hz0 hz1 hz2 rfl (by decide) _ _ _ rfl (hown.alloc _) ⟨wr.heap.size, 0, none⟩ 1 1 [.int .u8 98] rfl rfl (new_one _ _ (by simp) _ _) (by intro u hu; simp at hu; subst hu; rfl) (by unfold maxLen; omega) (by omega) (by simp; omega) ?_)
          intro v' w1 hown' hgrow hnil
          have hkb := below_grown (hown.alloc (.cells #[.int .u8 98] 5)) (by simp; omega) hgrow
          have hv' : v' ≠ .slice none 0 0 := by first | exact hnil | exact fun e => HV.out (hnil.1 e).1
          clear hgrow hnil
          have hrel2 : ∃ (k' : Nat) (l : List UInt8), k' ≤ s.size ∧ Value.int .i64 (k + 1) = .int .i64 k' ∧ l.length = s.size ∧ l.drop k' = (bytes s).drop k' ∧ l.take k' = ((bytes s).take k').map lowC ∧ w1.ownsRow (w.heap.size + 2) 5 1 v' k' (((bytes s).take k').map (fun c => Value.int .u8 ((inkOf c).toNat : Int))) ∧ v' ≠ .slice none 0 0 ∧ BBlk w1 (w.heap.size + 1) l ∧ Blk w1 w.heap.size 26 [.string ⟨#[]⟩, .string ⟨#[]⟩] ∧ w.heap.size + 2 ≤ w1.heap.size ∧ Below w.heap.size w w1 := by
            obtain ⟨_, e2, e3⟩ := drop_facts (HD.out.trans HE.out)
            refine ⟨k + 1, l, by omega, by simp, HL.out, e2, ?_, ?_, hv', (hblk.alloc _).below hkb (by omega), (hz.alloc _).below hkb (by omega), by have := hkb.size; simp at this; omega, (hb.alloc hb.size _).trans (hkb.mono (by have := hb.size; omega))⟩
            · rw [e3, HW.out, (drop_facts HE.out).2.2, List.map_append, List.map_cons, HLW.out]; rfl
            · rw [HLA.out 98 (by rw [HIO.out]; rfl)]; rw [← List.map_take] at hown'; exact hown'
          have HREL := Lib.hid hrel2
          clear hrel2 hkb hown' hown hblk hz hb hd hfz hv'
          go_wp2_with fail
          go_roundw
          case rel => exact HREL.out
          case measure => simp [intOf]; omega
    · have hk2 : k = s.size := by omega
      have hlf : l = (bytes s).map lowC := by
        have e := HW.out
        rwa [List.take_of_length_le (by rw [HL.out]; omega), List.take_of_length_le (by rw [bytes_len]; omega)] at e
      have hown3 : wr.ownsRow (w.heap.size + 2) 5 1 u5 k (((bytes s).map inkOf).map fun c => Value.int .u8 (c.toNat : Int)) := by
        rw [List.take_of_length_le (l := bytes s) (by rw [bytes_len]; omega)] at hown
        rw [List.map_map]
        exact hown
      have hcv1 := fun cap => bytes_back (cap := cap) hblk HL.out
      rw [hlf] at hcv1
      have hcv2 := own_back hown3 HV.out
      clear hown hown3 hlf
      rw [show str ((bytes s).map lowC) = paT s from rfl] at hcv1
      rw [show str ((bytes s).map inkOf) = paI s from rfl] at hcv2
      go_wp2_with fail
      have hx := Blk.new' wr 26 #[.string (paT s), .string (paI s)]
      replace hz := hz.alloc (.cells #[.string (paT s), .string (paI s)] 26)
      replace hb := hb.alloc hb.size (.cells #[.string (paT s), .string (paI s)] 26)
      clear hcv1 hcv2 hblk
      refine (isInked_any (paT s) (paI s) _ (by rw [paT_size]; exact hs)).mono ?_
      rintro e1 w1 ⟨rfl, hn⟩
      replace hx := hx.below hn hx.lt; replace hz := hz.below hn hz.lt; replace hb := hb.trans (hn.mono hb.size); clear hn
      have z0 : _ = some (Value.string ⟨#[]⟩) := hz.cell 0; have z1 : _ = some (Value.string ⟨#[]⟩) := hz.cell 1; have y0 := hz.frozen 0; have y1 := hz.frozen 1
      have x0 : _ = some (Value.string (paT s)) := hx.cell 0
      have x1 : _ = some (Value.string (paI s)) := hx.cell 1
      cases h1 : ikB (paT s) (paI s)
      · have h2 : paB s = false := h1
        go_wp2_with fail
        clear z0 z1 y0 y1 x0 x1
        have hz := (hz.set_ 0 (.string ⟨#[]⟩)).set_ 1 (.string ⟨#[]⟩); have q0 : _ = some (Value.string ⟨#[]⟩) := hz.cell 0; have q1 : _ = some (Value.string ⟨#[]⟩) := hz.cell 1
        exact bodyPost_ret (v := .tuple #[.agg #[.string (psT s), .string (psI s)], .bool (paB s)]) (by simp [results, Try.results21, go_sem, psT, psI, h2, q0, q1]) rfl ⟨rfl, (hb.setCell (by simp) _).setCell (by simp) _⟩
      · have h2 : paB s = true := h1
        go_wp2_with fail
        clear z0 z1 y0 y1 x0 x1
        have hz := (hz.set_ 0 (.string (paT s))).set_ 1 (.string (paI s)); have q0 : _ = some (Value.string (paT s)) := hz.cell 0; have q1 : _ = some (Value.string (paI s)) := hz.cell 1
        exact bodyPost_ret (v := .tuple #[.agg #[.string (psT s), .string (psI s)], .bool (paB s)]) (by simp [results, Try.results21, go_sem, psT, psI, h2, q0, q1]) rfl ⟨rfl, (hb.setCell (by simp) _).setCell (by simp) _⟩
theorem parseLaw (W : World) (s : ByteArray) (hs : s.size ≤ maxLen) : Calls Try.prog 5 #[.string s] W fun e W' => e = .returned (.bool true) ∧ Below W.heap.size W W' := by
  have hs' := hs
  unfold maxLen at hs'
  by_cases hbig : 1048576 < s.size
  · go_enter Try.func5, Try.ntmps5
    go_wp2_with fail
    go_ret
    exact ⟨rfl, (by (repeat (first | exact Below.refl _ _ | exact hb | apply Below.drew | (refine Below.alloc ?_ (by first | (simp; done) | (simp; omega) | (have := hb.size; simp at this ⊢; omega)) _) | (refine Below.setCell ?_ (by simp) _))))⟩
  · go_enter Try.func5, Try.ntmps5
    go_wp2_with fail
    refine (pa_spec s _ (by omega)).mono ?_
    rintro e1 w1 ⟨rfl, hn⟩
    obtain ⟨x, hx⟩ : ∃ x, x = psT s := ⟨_, rfl⟩; obtain ⟨y, hy⟩ : ∃ y, y = psI s := ⟨_, rfl⟩; obtain ⟨z, hz⟩ : ∃ z, z = paB s := ⟨_, rfl⟩
    have HI : ∀ w, Calls Try.prog 21 #[.string s] w fun e w' => e = .returned (.tuple #[.agg #[.string x, .string y], .bool z]) ∧ Below w.heap.size w w' := by rw [hx, hy, hz]; exact fun w => pa_impl s w (by omega)
    rw [← hx, ← hy, ← hz]; clear hx hy hz; have hw := Blk.new' w1 26 #[.string x, .string y]; have hb := hn.alloc hn.size (.cells #[.string x, .string y] 26); clear hn
    go_wp2_with fail
    refine (HI _).mono ?_
    rintro e1 w3 ⟨rfl, hn⟩
    replace hw := hw.below hn hw.lt
    replace hb := hb.trans (hn.mono hb.size)
    replace hw := hw.alloc (.cells #[.string x, .string y] 26); replace hb := hb.alloc hb.size (.cells #[.string x, .string y] 26); have c0 : _ = some (Value.string x) := hw.cell 0; have c1 : _ = some (Value.string y) := hw.cell 1; have hzz : (z != z) = false := by simp
    go_wp2_with fail
    refine (eqInked_any _ _ _).mono ?_
    rintro e1 w4 ⟨rfl, hn⟩
    replace hb := hb.trans (hn.mono hb.size)
    clear c0 c1
    go_wp2_with fail
    go_ret
    exact ⟨rfl, hb⟩
end Go.Proofs.Ytanpiipmoedfnaa
