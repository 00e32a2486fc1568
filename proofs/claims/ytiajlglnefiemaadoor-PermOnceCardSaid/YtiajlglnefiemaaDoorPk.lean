/- The walk of the law PermOnce. Conditions: the round constants lie in their variable. -/
import Derived.Test.YtiajlglnefiemaaDoorPg
import Derived.Deep.OwnRows
set_option linter.unusedSimpArgs false
set_option linter.unusedVariables false
namespace Go.Proofs.YtiajlglnefiemaaDoor
open Go.RowKit

/-- which numbers have been met when k places are over -/
noncomputable def metV (f : Nat → Nat) (N k : Nat) : Array Value := ((List.range N).map fun p => Value.bool (decide (∃ i, i < k ∧ f i = p))).toArray
theorem metV_size (f : Nat → Nat) (N k : Nat) : (metV f N k).size = N := by simp [metV]
theorem metV_get (f : Nat → Nat) {N k p : Nat} (h : p < N) : (metV f N k)[p]? = some (.bool (decide (∃ i, i < k ∧ f i = p))) := by
  unfold metV
  rw [List.getElem?_toArray, List.getElem?_map, List.getElem?_range h]
  rfl
theorem metV_zero (f : Nat → Nat) (N : Nat) : metV f N 0 = madeCells #[.bool false] N := by
  apply Array.ext
  · rw [metV_size, size_madeCells]
  · intro i h1 h2
    rw [metV_size] at h1
    have e1 := metV_get f (k := 0) h1
    rw [Array.getElem?_eq_getElem (by rw [metV_size]; exact h1)] at e1
    injection e1 with e1
    rw [e1]
    simp [madeCells, Nat.mod_one]
theorem metV_succ (f : Nat → Nat) {N k : Nat} (h : f k < N) : (metV f N k).setIfInBounds (f k) (.bool true) = metV f N (k + 1) := by
  apply Array.ext_getElem?
  intro i
  by_cases hi : i < N
  · rw [metV_get f hi]
    by_cases e : f k = i
    · subst e
      rw [Array.getElem?_setIfInBounds_self_of_lt (by rw [metV_size]; exact h)]
      have : decide (∃ i, i < k + 1 ∧ f i = f k) = true := decide_eq_true ⟨k, by omega, rfl⟩
      rw [this]
    · rw [Array.getElem?_setIfInBounds_ne e, metV_get f hi]
      have : decide (∃ j, j < k ∧ f j = i) = decide (∃ j, j < k + 1 ∧ f j = i) := by
        apply decide_eq_decide.2
        constructor
        · rintro ⟨j, h1, h2⟩; exact ⟨j, by omega, h2⟩
        · rintro ⟨j, h1, h2⟩
          refine ⟨j, ?_, h2⟩
          have : j ≠ k := by rintro rfl; exact e h2
          omega
      rw [this]
  · rw [Array.getElem?_eq_none (by rw [Array.size_setIfInBounds, metV_size]; omega), Array.getElem?_eq_none (by rw [metV_size]; omega)]
theorem info_bool : (Tryd.prog.info? 4).map (fun i => (i.zero, i.size, i.bytes)) = some (some (.bool false), 1, 1) := by kernel_rfl
set_option maxRecDepth 100000 in
set_option maxHeartbeats 8000000 in
theorem permOnce_any (s : ByteArray) (A : Option Addr) (n c : Nat) (l : List Int) (N : Int) (w : World) (hs : s.size ≤ maxLen) (_hnc : n ≤ c) (_hm : n ≤ maxLen) (hl : Reads w w.heap.size 1 A n (ints l)) (hI : ∀ x ∈ l, I64 x) (hN : I64 N)
    (hK : Consts w) (h0 : 0 < w.heap.size) :
    Calls Tryd.prog 7 #[.string s, .slice A n c, .int .i64 N] w fun e W' => e = .returned (.bool true) ∧ Below w.heap.size w W' := by
  obtain ⟨i0, hi, hz0, hz1, hz2⟩ := info_parts info_bool
  have b1 := around_lt N 200 (by omega)
  have a1 := fun W => around_any N 200 W hN.1 hN.2 (by omega) (by omega)
  obtain ⟨k, hk⟩ : ∃ k : Nat, around N 200 = (k : Int) := ⟨(around N 200).toNat, by omega⟩
  rw [hk] at a1 b1
  have hk2 : k < 200 := by omega
  have A1 := Lib.hid a1
  clear a1 hk b1
  go_enter Tryd.func7, Tryd.ntmps7
  go_wp2_with fail
  refine (seed_any s w (by unfold maxLen at hs; omega)).mono ?_
  rintro E w1 ⟨t, rfl, ht, rfl⟩
  go_wp2_with fail
  refine (path_any A n c l w1 hl hI).mono ?_
  rintro E w2 ⟨v, L, rfl, hLI, hLl, hown, c2⟩
  obtain ⟨A', c', rfl, hnet⟩ := net_of_path ht hLI hLl hown (hK.below (c2.mono h0)) (Nat.lt_of_lt_of_le h0 c2.size)
  clear hown
  go_wp2_with fail
  refine (A1.out w2).mono ?_
  rintro E w3 ⟨rfl, rfl⟩
  go_wp2_with fail
  refine (all_yes hnet k (givenE_zero (by omega) (by omega) (by omega))).mono ?_
  rintro E w6 ⟨v6, rfl, o6, b6⟩
  obtain ⟨A6, k6, rfl, hk6, r6⟩ := own_places o6
  have c6 := below_next c2 b6
  have net6 := hnet.below b6
  clear o6
  go_wp2_with (at_make; refine wpList_make_row _ rfl _ _ 39 rfl 4 i0 (.bool false) Tryd.underlying39 hi hz0 hz1 rfl .i64 .i64 k rfl rfl (by rw [hz2]; omega) (by omega) ?_)
  have hat := fun (W : World) (j : Nat) (hj : j < k) (hW : Net t A' L.length L W) => by
    have h := at_any (c := c') hW (k : Int) (j : Int)
    rw [atV_eq _ _ _ _ _ (atE_zero (by omega) (by omega) (by omega) (by omega) (by omega)), atE_zero (s := t) (n := L.length) (N := (k : Int)) (i := (j : Int)) (by omega) (by omega) (by omega) (by omega) (by omega), Int.toNat_natCast, Int.toNat_natCast] at h
    exact h
  have hbk := fun (W : World) (j : Nat) (hj : j < k) (hW : Net t A' L.length L W) => by
    have h := backw_any (c := c') hW (k : Int) (j : Int)
    rw [backV_eq _ _ _ _ _ (atE_zero (by omega) (by omega) (by omega) (by omega) (by omega)), atE_zero (s := t) (n := L.length) (N := (k : Int)) (i := (j : Int)) (by omega) (by omega) (by omega) (by omega) (by omega), Int.toNat_natCast, Int.toNat_natCast] at h
    exact h
  have hpl := fun j (hj : j < k) => placeN_lt t L (N := k) (by omega) hj
  have hup := fun j (hj : j < k) => unplace_place t L (N := k) (by omega) hj
  have hij := fun x y (hx : x < k) (hy : y < k) e => placeN_inj t L (N := k) (by omega) hx hy e
  have hcell := fun j (hj : j < k) => r6.place_at hj
  generalize placeN t L k = f at *
  generalize unplaceN t L k = g at *
  have HAT := Lib.hid hat
  have HBK := Lib.hid hbk
  have HPL := Lib.hid hpl
  have HUP := Lib.hid hup
  have HIJ := Lib.hid hij
  have HC := Lib.hid hcell
  clear hat hbk hpl hup hij hcell r6
  have M0 : Blk (w6.alloc (.cells (madeCells #[.bool false] k) 4)) w6.heap.size 4 (metV f k 0) := by rw [metV_zero]; exact Blk.new w6 4 _
  have C0 : Below w6.heap.size w6 (w6.alloc (.cells (madeCells #[.bool false] k) 4)) := (Below.refl _ w6).alloc (Nat.le_refl _) _
  go_loopw [13] (fun v wr => ∃ j : Nat, j ≤ k ∧ v = .int .i64 (j : Int) ∧ Blk wr w6.heap.size 4 (metV f k j) ∧ Below w6.heap.size w6 wr) (fun v _ => (k - intOf v).toNat)
  case atStart => exact ⟨0, by omega, rfl, M0, C0⟩
  case round =>
    clear M0 C0
    obtain ⟨j, hj, rfl, hM, hb⟩ := hrel
    by_cases hlt : j < k
    · have hji : (j : Int) < (k : Int) := by omega
      obtain ⟨ad, rfl, hadl, hc6⟩ := HC.out j hlt
      have hcw := fun W (h : Below w6.heap.size w6 W) => (h.cell (p := ad.add j) (by rw [block_add]; exact hadl)).trans hc6
      have hy := HPL.out j hlt
      have hg := HUP.out j hlt
      have hyi : (f j : Int) < (k : Int) := by omega
      have hm0 : wr.cell? ⟨w6.heap.size, f j, none⟩ = some (.bool false) := by
        rw [hM.at_ (metV_get f hy)]
        have : decide (∃ i, i < j ∧ f i = f j) = false := decide_eq_false fun ⟨i, h1, h2⟩ => absurd (HIJ.out i j (by omega) hlt h2) (by omega)
        rw [this]
      have hf0 := hM.frozen (f j)
      have hM2 : Blk (wr.setCell ⟨w6.heap.size, f j, none⟩ (.bool true)) w6.heap.size 4 (metV f k (j + 1)) := by
        rw [← metV_succ f hy]
        exact hM.set_ _ _
      have hb2 : Below w6.heap.size w6 (wr.setCell ⟨w6.heap.size, f j, none⟩ (.bool true)) := hb.setCell (Nat.le_refl _) _
      have hd1 := hcw _ hb
      have hd2 := hcw _ hb2
      have hbk := HBK.out _ (f j) hy (net6.below hb2)
      rw [hg] at hbk
      have hat := fun W hW => HAT.out W j hlt hW
      have HCW := Lib.hid hcw
      have HB := Lib.hid hbk
      have HA := Lib.hid hat
      clear hc6 hcw hg hbk hat
      generalize f j = y at *
      go_wp2_with fail
      refine HB.out.mono ?_
      rintro E w8 ⟨rfl, b8⟩
      have hb8 := below_next hb2 b8
      have M8 := hM2.thru b8
      go_wp2_with fail
      refine (HA.out w8 (net6.below hb8)).mono ?_
      rintro E w9 ⟨rfl, b9⟩
      have hb9 := below_next hb8 b9
      have M9 := M8.thru b9
      have hd9 := HCW.out w9 hb9
      go_wp2_with fail
      go_roundw
      case rel => exact ⟨j + 1, by omega, by go_num, M9, hb9⟩
      case measure => simp [intOf]; omega
    · have hlv := lives_any wr (net6.below hb).consts (net6.below hb).pos
      have hji : ¬ (j : Int) < (k : Int) := by omega
      go_wp2_with fail
      refine hlv.mono ?_
      rintro E w12 ⟨rfl, b12⟩
      go_wp2_with fail
      go_ret
      exact ⟨rfl, below_next (below_next c6 hb) b12⟩
end Go.Proofs.YtiajlglnefiemaaDoor
