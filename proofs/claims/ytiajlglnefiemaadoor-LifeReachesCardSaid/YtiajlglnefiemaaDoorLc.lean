/- Life cycles: rounds and Reach. Conditions: the lists are short. -/
import Derived.Test.YtiajlglnefiemaaDoorLb
set_option linter.unusedSimpArgs false
set_option linter.unusedVariables false
namespace Go.Proofs.YtiajlglnefiemaaDoor
open Go.RowKit

/-- the states that m moves lead to -/
def reachB (M : List (Int × Int)) : Nat → Nat → Bool
  | 0, s => decide (s = 0)
  | k + 1, s => M.any fun p => reachB M k p.1.toNat && decide (p.2 = (s : Int))
/-- no move leads on -/
def deadB (M : List (Int × Int)) (s : Nat) : Bool := (mv M (s : Int)).isEmpty
/-- a set of states as cells -/
def setV (f : Nat → Bool) : Array Value := ((List.range 12).map fun i => Value.bool (f i)).toArray
theorem setV_size (f : Nat → Bool) : (setV f).size = 12 := by simp [setV]
theorem setV_get (f : Nat → Bool) {i : Nat} (h : i < 12) : (setV f)[i]? = some (.bool (f i)) := by
  unfold setV
  rw [List.getElem?_toArray, List.getElem?_map, List.getElem?_range h]
  rfl
theorem setV_set (f : Nat → Bool) {i : Nat} (h : i < 12) (v : Bool) : (setV f).setIfInBounds i (.bool v) = setV (fun j => if j = i then v else f j) := by
  apply Array.ext_getElem?
  intro j
  by_cases hj : j < 12
  · rw [setV_get _ hj]
    by_cases e : i = j
    · subst e
      rw [Array.getElem?_setIfInBounds_self_of_lt (by rw [setV_size]; exact h), if_pos rfl]
    · rw [Array.getElem?_setIfInBounds_ne e, setV_get _ hj, if_neg (fun h => e h.symm)]
  · rw [Array.getElem?_eq_none (by rw [Array.size_setIfInBounds, setV_size]; omega), Array.getElem?_eq_none (by rw [setV_size]; omega)]
theorem setV_lit (f : Nat → Bool) : setV f = #[.bool (f 0), .bool (f 1), .bool (f 2), .bool (f 3), .bool (f 4), .bool (f 5), .bool (f 6), .bool (f 7), .bool (f 8), .bool (f 9), .bool (f 10), .bool (f 11)] := rfl
theorem setV_one (f : Nat → Bool) : (setV f).all (·.oneCell') = true := by
  unfold setV
  exact all_oneCell_toArray (by intro u hu; obtain ⟨i, -, rfl⟩ := List.mem_map.1 hu; rfl)
theorem setV_zero (M : List (Int × Int)) : setV (reachB M 0) = #[.bool true, .bool false, .bool false, .bool false, .bool false, .bool false, .bool false, .bool false, .bool false, .bool false, .bool false, .bool false] := rfl
theorem Blk.setV_at {w : World} {g : Nat} {t : TypeId} {f : Nat → Bool} (h : Blk w g t (setV f)) {i : Nat} (hi : i < 12) : w.cell? ⟨g, i, none⟩ = some (.bool (f i)) := h.at_ (setV_get f hi)
/-- a move's step, j moves looked at -/
def stepB (M : List (Int × Int)) (f : Nat → Bool) (j s : Nat) : Bool := (M.take j).any fun p => f p.1.toNat && decide (p.2 = (s : Int))
theorem setV_none (M : List (Int × Int)) (f : Nat → Bool) : setV (stepB M f 0) = #[.bool false, .bool false, .bool false, .bool false, .bool false, .bool false, .bool false, .bool false, .bool false, .bool false, .bool false, .bool false] := rfl
theorem stepB_succ {M : List (Int × Int)} {j : Nat} {a b : Int} (h : M[j]? = some (a, b)) (f : Nat → Bool) (s : Nat) : stepB M f (j + 1) s = (stepB M f j s || (f a.toNat && decide (b = (s : Int)))) := by
  unfold stepB
  rw [List.take_add_one, h, Option.toList_some, List.any_append]
  simp
theorem stepB_all (M : List (Int × Int)) (k s : Nat) : stepB M (reachB M k) M.length s = reachB M (k + 1) s := by
  unfold stepB
  rw [List.take_length]
  rfl
theorem setV_step {M : List (Int × Int)} {j : Nat} {a b : Int} (h : M[j]? = some (a, b)) (f : Nat → Bool) (hf : f a.toNat = true) (hb0 : 0 ≤ b) (hb : b < 12) : (setV (stepB M f j)).setIfInBounds b.toNat (.bool true) = setV (stepB M f (j + 1)) := by
  rw [setV_set _ (by omega)]
  congr 1
  funext s
  rw [stepB_succ h, hf]
  by_cases e : s = b.toNat
  · rw [if_pos e]
    have : b = (s : Int) := by omega
    simp [this]
  · rw [if_neg e]
    have : ¬ b = (s : Int) := by omega
    simp [this]
theorem setV_same {M : List (Int × Int)} {j : Nat} {a b : Int} (h : M[j]? = some (a, b)) (f : Nat → Bool) (hf : f a.toNat = false) : setV (stepB M f (j + 1)) = setV (stepB M f j) := by
  congr 1
  funext s
  rw [stepB_succ h, hf]
  simp
/-- what lies at or above B stays -/
structure KeepHi (B : Nat) (W W' : World) : Prop where
  size : W.heap.size ≤ W'.heap.size
  blk : ∀ g t cs, B ≤ g → Blk W g t cs → Blk W' g t cs
theorem info94 : (Tryd.prog.info? 94).map (·.size) = some 12 := by kernel_rfl
set_option maxRecDepth 100000 in
set_option maxHeartbeats 8000000 in
theorem rounds_any (nm : ByteArray) (A : Option Addr) (n c : Nat) (B : Option Addr) (m d : Nat) (M : List (Int × Int)) (hi gs : Nat) (cap : Array Value) (J : Nat → World → Prop) (Jx : World → Prop) (w : World)
    (eg : ∀ args w, (callFunc gs args).run Tryd.prog w = .ok (.enter gs args) w) (hM : ∀ a b, (a, b) ∈ M → 0 ≤ a ∧ a < 12 ∧ 0 ≤ b ∧ b < 12) (hm : m ≤ 1000000) (hh : hi ≤ 1000000)
    (hR : ∀ k W, J k W → Reads W w.heap.size 2 B m (movsV M)) (hJ : ∀ k W W', J k W → Below w.heap.size W W' → J k W')
    (hS : ∀ k W, k ≤ hi → J k W → Calls Tryd.prog gs (#[.int .i64 (k : Int), .agg (setV (reachB M k))] ++ cap) W fun E W' => ∃ b : Bool, E = .returned (.bool b) ∧ (b = true → J (k + 1) W') ∧ (b = false → Jx W') ∧ KeepHi w.heap.size W W') (h0 : J 0 w) :
    Calls Tryd.prog 67 #[lifeV nm A n c B m d, .int .i64 (hi : Int), .func (.func gs) #[] cap] w fun E W' => (∃ v, E = .returned v) ∧ (J (hi + 1) W' ∨ Jx W') := by
  have hml := (hR 0 w h0).mov_len
  have HR := Lib.hid hR
  have HJ := Lib.hid hJ
  have HS := Lib.hid hS
  have HM := Lib.hid hM
  clear hR hJ hS hM
  have k0 : Blk ((w.alloc (.cells #[.string nm, .slice A n c, .slice B m d] 50)).alloc (.cells (setV (reachB M 0)) 94)) w.heap.size 50 #[.string nm, .slice A n c, .slice B m d] := (Blk.new w 50 _).alloc _
  have k1 : Blk ((w.alloc (.cells #[.string nm, .slice A n c, .slice B m d] 50)).alloc (.cells (setV (reachB M 0)) 94)) (w.heap.size + 1) 94 (setV (reachB M 0)) := Blk.new' (by simp)
  have b0 : Below w.heap.size w ((w.alloc (.cells #[.string nm, .slice A n c, .slice B m d] 50)).alloc (.cells (setV (reachB M 0)) 94)) := ((Below.refl w.heap.size w).alloc (Nat.le_refl _) _).alloc (by simp) _
  have z0 : w.heap.size + 2 ≤ ((w.alloc (.cells #[.string nm, .slice A n c, .slice B m d] 50)).alloc (.cells (setV (reachB M 0)) 94)).heap.size := by simp
  have j0 := HJ.out 0 _ _ h0 b0
  clear b0 h0
  go_enter Tryd.func67, Tryd.ntmps67
  go_wp2_with fail
  rw [setV_zero] at k0 k1 z0 j0
  rw [← setV_zero M] at k1
  go_loopw [7] (fun i wr => ∃ k : Nat, k ≤ hi + 1 ∧ i = .int .i64 (k : Int) ∧ J k wr ∧ Blk wr (w.heap.size + 1) 94 (setV (reachB M k)) ∧ Blk wr w.heap.size 50 #[.string nm, .slice A n c, .slice B m d] ∧ w.heap.size + 2 ≤ wr.heap.size) (fun i _ => (hi + 1 - intOf i).toNat)
  case atStart => exact ⟨0, by omega, rfl, j0, k1, k0, z0⟩
  case round =>
    clear j0 k1 k0 z0
    obtain ⟨k, hk, rfl, hj, hn, hl, hz⟩ := hrel
    by_cases hlt : k ≤ hi
    · have hki : (k : Int) ≤ (hi : Int) := by omega
      have hs := HS.out k wr hlt hj
      rw [setV_lit] at hs
      have HC := Lib.hid hs
      clear hs
      have c0 := hn.setV_at (i := 0) (by omega)
      have c1 := hn.setV_at (i := 1) (by omega)
      have c2 := hn.setV_at (i := 2) (by omega)
      have c3 := hn.setV_at (i := 3) (by omega)
      have c4 := hn.setV_at (i := 4) (by omega)
      have c5 := hn.setV_at (i := 5) (by omega)
      have c6 := hn.setV_at (i := 6) (by omega)
      have c7 := hn.setV_at (i := 7) (by omega)
      have c8 := hn.setV_at (i := 8) (by omega)
      have c9 := hn.setV_at (i := 9) (by omega)
      have c10 := hn.setV_at (i := 10) (by omega)
      have c11 := hn.setV_at (i := 11) (by omega)
      go_wp2_with fail
      refine HC.out.mono ?_
      rintro E w2 ⟨b, rfl, ht, hf, hkeep⟩
      have hn2 := hkeep.blk _ _ _ (Nat.le_succ _) hn
      have hl2 := hkeep.blk _ _ _ (Nat.le_refl _) hl
      have hz2 := Nat.le_trans hz hkeep.size
      clear c0 c1 c2 c3 c4 c5 c6 c7 c8 c9 c10 c11 hn hl hz hkeep hj
      cases b
      · have hx := hf rfl
        go_wp2_with fail
        go_end0
        exact ⟨⟨_, rfl⟩, .inr hx⟩
      · have hj2 := ht rfl
        clear ht hf HC
        have l3 := hl2.alloc (.cells (setV (stepB M (reachB M k) 0)) 94)
        have n3 := hn2.alloc (.cells (setV (stepB M (reachB M k) 0)) 94)
        have x3 := Blk.new w2 94 (setV (stepB M (reachB M k) 0))
        have b3 : Below w.heap.size w2 (w2.alloc (.cells (setV (stepB M (reachB M k) 0)) 94)) := (Below.refl _ w2).alloc (by omega) _
        have l2 : (w2.alloc (.cells (setV (stepB M (reachB M k) 0)) 94)).cell? ⟨w.heap.size, 2, none⟩ = some (.slice B m d) := l3.at_ rfl
        have j3 := HJ.out _ _ _ hj2 b3
        have r3 := HR.out _ _ j3
        clear hj2 b3 hl2 hn2
        generalize hg : w2.heap.size = gx at *
        rw [setV_none] at l2
        have hng : ¬ w.heap.size + 1 = gx := by omega
        go_wp2_with fail
        rw [← setV_none M (reachB M k)]
        generalize w2.alloc (.cells (setV (stepB M (reachB M k) 0)) 94) = w3 at *
        go_loopw [26] (fun i wr => ∃ j : Nat, j ≤ m ∧ i = .int .i64 (j : Int) ∧ Blk wr gx 94 (setV (stepB M (reachB M k) j)) ∧ Blk wr (w.heap.size + 1) 94 (setV (reachB M k)) ∧ Blk wr w.heap.size 50 #[.string nm, .slice A n c, .slice B m d] ∧ J (k + 1) wr) (fun i _ => (m - intOf i).toNat)
        case atStart => exact ⟨0, by omega, rfl, x3, n3, l3, j3⟩
        case round =>
          clear x3 n3 l3 j3 r3 l2
          obtain ⟨j, hj, rfl, hx, hn, hl, hJ⟩ := hrel
          by_cases hjm : j < m
          · have hji : (j : Int) < (m : Int) := by omega
            obtain ⟨ad, a, b, rfl, had, hmk, ca, cb⟩ := (HR.out _ _ hJ).mov_at hjm
            obtain ⟨ha0, ha, hb0, hb⟩ := HM.out a b (List.mem_of_getElem? hmk)
            obtain ⟨x, rfl⟩ := Int.eq_ofNat_of_zero_le ha0
            obtain ⟨y, rfl⟩ := Int.eq_ofNat_of_zero_le hb0
            have hx12 : x < 12 := by omega
            have hy12 : y < 12 := by omega
            have hxa := hx.alloc (.cells #[.int .i64 (x : Int), .int .i64 (y : Int)] 54)
            have hna := hn.alloc (.cells #[.int .i64 (x : Int), .int .i64 (y : Int)] 54)
            have hla := hl.alloc (.cells #[.int .i64 (x : Int), .int .i64 (y : Int)] 54)
            have cn := hna.setV_at hx12
            have cx := hxa.setV_at hy12
            have fx := hxa.frozen y
            have hwz : w.heap.size ≤ wr.heap.size := by have := hl.lt; omega
            have hba : Below w.heap.size wr (wr.alloc (.cells #[.int .i64 (x : Int), .int .i64 (y : Int)] 54)) := (Below.refl _ wr).alloc hwz _
            have hst := setV_step hmk (reachB M k)
            have hsm := setV_same hmk (reachB M k)
            have HST := Lib.hid hst
            have HSM := Lib.hid hsm
            clear hst hsm
            cases hv : reachB M k x
            · rw [hv] at cn
              have hxs : Blk (wr.alloc (.cells #[.int .i64 (x : Int), .int .i64 (y : Int)] 54)) gx 94 (setV (stepB M (reachB M k) (j + 1))) := by rw [HSM.out (by rw [Int.toNat_natCast]; exact hv)]; exact hxa
              have hJa := HJ.out _ _ _ hJ hba
              go_wp2_with fail
              go_roundw
              case rel => exact ⟨j + 1, by omega, by go_num, hxs, hna, hla, hJa⟩
              case measure => simp [intOf]; omega
            · rw [hv] at cn
              have hxs : Blk ((wr.alloc (.cells #[.int .i64 (x : Int), .int .i64 (y : Int)] 54)).setCell ⟨gx, y, none⟩ (.bool true)) gx 94 (setV (stepB M (reachB M k) (j + 1))) := by
                have e := HST.out (by rw [Int.toNat_natCast]; exact hv) hb0 hb
                rw [Int.toNat_natCast] at e
                rw [← e]
                exact hxa.set_ y _
              have hge : w.heap.size ≤ (⟨gx, y, none⟩ : Addr).block := by show w.heap.size ≤ gx; omega
              have hJa := HJ.out _ _ _ hJ (hba.setCell hge (.bool true))
              have hns := hna.far (p := ⟨gx, y, none⟩) (show w.heap.size + 1 ≠ gx by omega) (.bool true)
              have hls := hla.far (p := ⟨gx, y, none⟩) (show w.heap.size ≠ gx by omega) (.bool true)
              go_wp2_with fail
              go_roundw
              case rel => exact ⟨j + 1, by omega, by go_num, hxs, hns, hls, hJa⟩
              case measure => simp [intOf]; omega
          · obtain rfl : j = m := by omega
            have hji : ¬ (j : Int) < (j : Int) := by omega
            have hxe : setV (stepB M (reachB M k) j) = setV (reachB M (k + 1)) := by
              congr 1
              funext s
              rw [← hml]
              exact stepB_all M k s
            rw [hxe] at hx
            generalize hC : setV (reachB M (k + 1)) = C at *
            generalize hN : setV (reachB M k) = N at *
            have G1 : Hid ((Tryd.prog.info? 94).map (·.size) = some C.size) := Lib.hid (by rw [← hC, setV_size]; exact info94)
            have G2 : Hid (N.size = C.size) := Lib.hid (by rw [← hC, ← hN, setV_size, setV_size])
            have G3 : Hid (C.all (·.oneCell') = true) := Lib.hid (by rw [← hC]; exact setV_one _)
            have hwz : w.heap.size ≤ wr.heap.size := by have := hl.lt; omega
            have hJa := HJ.out _ _ _ hJ (below_setRow (Below.refl _ wr) (Nat.le_succ w.heap.size) C)
            have HC := Lib.hid hC
            clear hC hN
            go_wp2_with (first
              | (with_reducible refine wpList_load_row rfl 94 _ rfl gx rfl 94 C (0, 0) _ hx.heap_ Tryd.underlying94 rfl G1.out ?_)
              | (with_reducible refine wpList_store_row rfl 94 _ _ rfl (w.heap.size + 1) C rfl rfl 94 N hn.heap_ G1.out G2.out G3.out ?_))
            go_roundw
            case rel => exact ⟨k + 1, by omega, by go_num, hJa, by rw [HC.out]; exact hn.row C, hl.rowFar (by omega) C, by have := hn.row C; have := this.lt; omega⟩
            case measure => simp [intOf]; omega
    · obtain rfl : k = hi + 1 := by omega
      have hki : ¬ (((hi + 1 : Nat) : Int) ≤ (hi : Int)) := by omega
      go_wp2_with fail
      go_end0
      exact ⟨⟨_, rfl⟩, .inl hj⟩
end Go.Proofs.YtiajlglnefiemaaDoor
