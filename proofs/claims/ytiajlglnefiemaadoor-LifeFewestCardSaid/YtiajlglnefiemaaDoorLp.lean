/- The walk of the law LifeUnion. Conditions: the round constants lie in their variable. -/
import Derived.Test.YtiajlglnefiemaaDoorLo
import Derived.Test.YtiajlglnefiemaaDoorLg
import Derived.BigRegion
set_option linter.unusedSimpArgs false
set_option linter.unusedVariables false
namespace Go.Proofs.YtiajlglnefiemaaDoor
open Go.RowKit

theorem outB_iff (M : List (Int × Int)) (lo s : Nat) : ∀ k, outB M lo k s = true ↔ ∃ j, j < k ∧ reachB M j s = true ∧ (lo ≤ j ∨ deadB M s = true)
  | 0 => by
    constructor
    · intro h; cases h
    · rintro ⟨j, hj, -⟩; omega
  | k + 1 => by
    have ih := outB_iff M lo s k
    show (outB M lo k s || (reachB M k s && (decide (lo ≤ k) || deadB M s))) = true ↔ _
    rw [Bool.or_eq_true, ih, Bool.and_eq_true, Bool.or_eq_true, decide_eq_true_iff]
    constructor
    · rintro (⟨j, h1, h2, h3⟩ | ⟨h1, h2⟩)
      · exact ⟨j, by omega, h2, h3⟩
      · exact ⟨k, by omega, h1, h2⟩
    · rintro ⟨j, h1, h2, h3⟩
      by_cases e : j = k
      · subst e
        exact .inr ⟨h2, h3⟩
      · exact .inl ⟨j, by omega, h2, h3⟩
/-- what is reached by x, x + 1, .. moves, k numbers -/
def wantB (M : List (Int × Int)) (x : Nat) : Nat → Nat → Bool
  | 0, _ => false
  | k + 1, s => wantB M x k s || outB M (x + k) (x + k + 1) s
theorem wantB_iff (M : List (Int × Int)) (x s : Nat) : ∀ k, wantB M x k s = true ↔ ∃ i, i < k ∧ outB M (x + i) (x + i + 1) s = true
  | 0 => by
    constructor
    · intro h; cases h
    · rintro ⟨j, hj, -⟩; omega
  | k + 1 => by
    have ih := wantB_iff M x s k
    show (wantB M x k s || outB M (x + k) (x + k + 1) s) = true ↔ _
    rw [Bool.or_eq_true, ih]
    constructor
    · rintro (⟨j, h1, h2⟩ | h)
      · exact ⟨j, by omega, h2⟩
      · exact ⟨k, by omega, h⟩
    · rintro ⟨j, h1, h2⟩
      by_cases e : j = k
      · subst e
        exact .inr h2
      · exact .inl ⟨j, by omega, h2⟩
theorem want_set (M : List (Int × Int)) (x k q : Nat) (hq : q = x + k) {n j : Nat} (hj : j < n) {v : Bool} (hv : v = (wantB M x k j || outB M q (q + 1) j)) :
    (boolV (fun s => if s < j then wantB M x (k + 1) s else wantB M x k s) n).setIfInBounds j (.bool v) = boolV (fun s => if s < j + 1 then wantB M x (k + 1) s else wantB M x k s) n := by
  rw [boolV_set _ hj]
  congr 1
  funext s
  by_cases e : s = j
  · subst e
    subst hq
    rw [if_pos rfl, if_pos (show s < s + 1 by omega), hv]
    rfl
  · rw [if_neg e]
    by_cases h : s < j
    · rw [if_pos h, if_pos (show s < j + 1 by omega)]
    · rw [if_neg h, if_neg (show ¬ s < j + 1 by omega)]
theorem union_eq (M : List (Int × Int)) (x k s : Nat) : wantB M x (k + 1) s = outB M x (x + k + 1) s := by
  rw [Bool.eq_iff_iff, wantB_iff, outB_iff]
  constructor
  · rintro ⟨i, hi, h⟩
    obtain ⟨j, h1, h2, h3⟩ := (outB_iff M _ s _).1 h
    exact ⟨j, by omega, h2, h3.elim (fun h => .inl (by omega)) .inr⟩
  · rintro ⟨j, h1, h2, h3⟩
    rcases h3 with h3 | h3
    · exact ⟨j - x, by omega, (outB_iff M _ s _).2 ⟨j, by omega, h2, .inl (by omega)⟩⟩
    · exact ⟨k, by omega, (outB_iff M _ s _).2 ⟨j, by omega, h2, .inr h3⟩⟩
set_option maxRecDepth 100000 in
set_option maxHeartbeats 8000000 in
theorem lifeUnion_any (A : Option Addr) (n c : Nat) (l : List Int) (lo hi : Int) (w : World) (_hnc : n ≤ c) (hm : n ≤ maxLen) (hl : Reads w w.heap.size 1 A n (ints l)) (hI : ∀ x ∈ l, I64 x) (hlo : I64 lo) (hhi : I64 hi)
    (hK : Consts w) (h0 : 0 < w.heap.size) :
    Calls Tryd.prog 11 #[.slice A n c, .int .i64 lo, .int .i64 hi] w fun e W' => e = .returned (.bool true) ∧ Below w.heap.size w W' := by
  obtain ⟨i0, hi0, i1, i2, i3⟩ := info_parts info4b
  have a1 := fun W => around_any lo 12 W hlo.1 hlo.2 (by omega) (by omega)
  have a2 := fun W => around_any hi 8 W hhi.1 hhi.2 (by omega) (by omega)
  have b1 := around_lt lo 12 (by omega)
  have b2 := around_lt hi 8 (by omega)
  obtain ⟨x, hx⟩ : ∃ x : Nat, around lo 12 = (x : Int) := ⟨(around lo 12).toNat, by omega⟩
  obtain ⟨z, hz⟩ : ∃ z : Nat, around hi 8 = (z : Int) := ⟨(around hi 8).toNat, by omega⟩
  rw [hx] at a1 b1
  rw [hz] at a2 b2
  have A1 := Lib.hid a1
  have A2 := Lib.hid a2
  clear a1 a2 hx hz
  go_enter Tryd.func11, Tryd.ntmps11
  go_wp2_with fail
  refine (made_life A n c l w hl hI hm).mono ?_
  rintro E w1 ⟨nm, A', n', c', B, m, d, M, rfl, hr, hE, hn6, c1⟩
  clear hl
  obtain ⟨hn1, hn12, hm32, -⟩ := lifeE_ok hE
  have L3 := Blk.new w1 50 #[.string nm, .slice A' n' c', .slice B m d]
  have m3 := hr.alloc (Nat.le_refl _) (.cells #[.string nm, .slice A' n' c', .slice B m d] 50)
  have b3 := c1.alloc c1.size (.cells #[.string nm, .slice A' n' c', .slice B m d] 50)
  have z3 : w1.heap.size < (w1.alloc (.cells #[.string nm, .slice A' n' c', .slice B m d] 50)).heap.size := by simp
  go_wp2_with fail
  refine (A1.out _).mono ?_
  rintro E w2 ⟨rfl, rfl⟩
  clear A1
  go_wp2_with fail
  refine (A2.out _).mono ?_
  rintro E w2 ⟨rfl, rfl⟩
  clear A2
  generalize w1.alloc (.cells #[.string nm, .slice A' n' c', .slice B m d] 50) = w2 at *
  generalize w1.heap.size = gL at *
  have m3' := m3.more (Nat.le_of_lt z3)
  clear m3 hr c1 hI
  have K3 := hK.below (b3.mono h0)
  have h3 : 0 < w2.heap.size := Nat.lt_of_lt_of_le h0 b3.size
  have B3 := Lib.hid b3
  have cells := fun (W : World) (hW : Below w2.heap.size w2 W) => (show W.cell? ⟨gL, 0, none⟩ = some (.string nm) ∧ W.cell? ⟨gL, 1, none⟩ = some (.slice A' n' c') ∧ W.cell? ⟨gL, 2, none⟩ = some (.slice B m d) from
    let L := L3.below hW z3
    ⟨L.at_ rfl, L.at_ rfl, L.at_ rfl⟩)
  have rx := fun (lo hi : Nat) (W : World) (hW : Below w2.heap.size w2 W) (h1 : lo ≤ hi) (h2 : hi ≤ 1000) => reach_any nm A' n' c' B m d M lo hi W ((m3'.below hW).more hW.size) hE h1 h2
  have CS := Lib.hid cells
  have RX := Lib.hid rx
  obtain ⟨p0, p1, p2⟩ := cells w2 (Below.refl _ _)
  clear cells rx m3' L3
  obtain ⟨y, hy⟩ : ∃ y : Nat, (x : Int) + (z : Int) = (y : Int) := ⟨x + z, by omega⟩
  have hxy : IntKind.i64.wrap ((x : Int) + (z : Int)) = (y : Int) := by rw [hy]; rw [IntKind.wrap_i64]; omega
  have sz3 : (w2.alloc (.cells (madeCells #[.bool false] n') 4)).heap.size = w2.heap.size + 1 := by simp
  have hz0 : Blk (w2.alloc (.cells (madeCells #[.bool false] n') 4)) w2.heap.size 4 (boolV (wantB M x 0) n') := by
    rw [show boolV (wantB M x 0) n' = boolV (fun _ => false) n' from boolV_ext (fun i hi => rfl), boolV_none]
    exact Blk.new w2 4 (madeCells #[.bool false] n')
  have hb0 := (Below.refl w2.heap.size w2).alloc (Nat.le_refl _) (.cells (madeCells #[.bool false] n') 4)
  go_wp2_with (at_make; refine wpList_make_row _ rfl _ _ 39 rfl 4 i0 (.bool false) Tryd.underlying39 hi0 i1 i2 rfl .i64 .i64 n' rfl rfl (by rw [i3]; omega) (by omega) ?_)
  have hgW : w2.heap.size ≤ w2.heap.size := Nat.le_refl _
  generalize w2.alloc (.cells (madeCells #[.bool false] n') 4) = w3 at *
  have HY := Lib.hid hy
  clear hxy
  obtain ⟨gW, hgE⟩ : ∃ g, g = w2.heap.size := ⟨_, rfl⟩
  rw [← hgE] at hz0 ⊢
  have hge : w2.heap.size ≤ gW := Nat.le_of_eq hgE.symm
  clear hgE hgW sz3 p0 p1 p2
  go_loopw [11] (fun i wr => ∃ k q : Nat, q = x + k ∧ k ≤ z + 1 ∧ i = .int .i64 (q : Int) ∧ Blk wr gW 4 (boolV (wantB M x k) n') ∧ Below w2.heap.size w2 wr) (fun i _ => (y + 1 - intOf i).toNat)
  case atStart => exact ⟨0, x, by omega, by omega, rfl, hz0, hb0⟩
  case round =>
    clear hz0 hb0
    obtain ⟨k, q, hq, hk, rfl, hz, hb⟩ := hrel
    have HQ := Lib.hid hq
    obtain ⟨p0, p1, p2⟩ := CS.out wr hb
    by_cases hlt : k ≤ z
    · have hji : (q : Int) ≤ (y : Int) := by omega
      have hq1 : q ≤ 1000 := by omega
      clear hq hy
      go_wp2_with fail
      refine (RX.out q q wr hb (Nat.le_refl _) hq1).mono ?_
      rintro E w4 ⟨go, rfl, ho, hgo, b4⟩
      have hz4 := hz.thru b4
      have hb4 := below_next hb b4
      have hgne : go ≠ gW := by have := hz.lt; omega
      clear hz hb b4 p0 p1 p2
      have z0 : Blk w4 gW 4 (boolV (fun s => if s < 0 then wantB M x (k + 1) s else wantB M x k s) n') := by
        rw [boolV_ext (g' := wantB M x k) (fun i hi => by rw [if_neg (by omega)])]
        exact hz4
      clear hz4
      go_wp2_with fail
      go_loopw [13] (fun i wi => ∃ j : Nat, j ≤ n' ∧ i = .int .i64 (j : Int) ∧ Blk wi gW 4 (boolV (fun s => if s < j then wantB M x (k + 1) s else wantB M x k s) n') ∧ Blk wi go 4 (boolV (outB M q (q + 1)) n') ∧ Below w2.heap.size w2 wi) (fun i _ => (n' - intOf i).toNat)
      case atStart => exact ⟨0, by omega, rfl, z0, ho, hb4⟩
      case round =>
        clear z0 ho hb4
        obtain ⟨j, hj, rfl, hz, ho, hb⟩ := hrel
        by_cases hlj : j < n'
        · have hjj : (j : Int) < (n' : Int) := by omega
          have q0 := hz.boolV_at hlj
          rw [if_neg (Nat.lt_irrefl j)] at q0
          have q1 := ho.boolV_at hlj
          have fz := hz.frozen j
          have HS := Lib.hid (fun v (hv : v = (wantB M x k j || outB M q (q + 1) j)) => want_set M x k q HQ.out hlj hv)
          have HN := Lib.hid (And.intro hz (And.intro ho hb))
          clear hz ho hb
          cases hv1 : wantB M x k j
          · rw [hv1] at q0
            cases hv2 : outB M q (q + 1) j
            · rw [hv2] at q1
              go_wp2_with fail
              have hnew := HN.out.1.set_ j (.bool false)
              rw [HS.out false (by rw [hv1, hv2]; rfl)] at hnew
              have hon := HN.out.2.1.far (p := ⟨gW, j, none⟩) hgne (.bool false)
              have hbn := HN.out.2.2.setCell (show w2.heap.size ≤ (⟨gW, j, none⟩ : Addr).block from hge) (.bool false)
              have HM := Lib.hid (And.intro hnew (And.intro hon hbn))
              clear hnew hon hbn HN HS
              go_wp2_with fail
              go_roundw
              case rel => exact ⟨j + 1, by omega, by go_num, HM.out.1, HM.out.2.1, HM.out.2.2⟩
              case measure => simp [intOf]; omega
            · rw [hv2] at q1
              go_wp2_with fail
              have hnew := HN.out.1.set_ j (.bool true)
              rw [HS.out true (by rw [hv1, hv2]; rfl)] at hnew
              have hon := HN.out.2.1.far (p := ⟨gW, j, none⟩) hgne (.bool true)
              have hbn := HN.out.2.2.setCell (show w2.heap.size ≤ (⟨gW, j, none⟩ : Addr).block from hge) (.bool true)
              have HM := Lib.hid (And.intro hnew (And.intro hon hbn))
              clear hnew hon hbn HN HS
              go_wp2_with fail
              go_roundw
              case rel => exact ⟨j + 1, by omega, by go_num, HM.out.1, HM.out.2.1, HM.out.2.2⟩
              case measure => simp [intOf]; omega
          · rw [hv1] at q0
            go_wp2_with fail
            have hnew := HN.out.1.set_ j (.bool true)
            rw [HS.out true (by rw [hv1]; rfl)] at hnew
            have hon := HN.out.2.1.far (p := ⟨gW, j, none⟩) hgne (.bool true)
            have hbn := HN.out.2.2.setCell (show w2.heap.size ≤ (⟨gW, j, none⟩ : Addr).block from hge) (.bool true)
            have HM := Lib.hid (And.intro hnew (And.intro hon hbn))
            clear hnew hon hbn HN HS
            go_wp2_with fail
            go_roundw
            case rel => exact ⟨j + 1, by omega, by go_num, HM.out.1, HM.out.2.1, HM.out.2.2⟩
            case measure => simp [intOf]; omega
        · obtain rfl : j = n' := by omega
          have hjj : ¬ (j : Int) < (j : Int) := by omega
          have hzn := hz
          rw [boolV_ext (g' := wantB M x (k + 1)) (fun i hi => by rw [if_pos hi])] at hzn
          clear hz ho
          have HZ := Lib.hid hzn
          have HB := Lib.hid hb
          clear hzn hb
          go_wp2_with fail
          have hq := HQ.out
          exact ⟨⟨k + 1, q + 1, by omega, by omega, by go_num, HZ.out, HB.out⟩, by simp [intOf]; omega⟩
    · obtain rfl : k = z + 1 := by omega
      have hji : ¬ (q : Int) ≤ (y : Int) := by omega
      have hyx : y = x + z := by omega
      have hxy : x ≤ y := by omega
      have hy1 : y ≤ 1000 := by omega
      have hzw : Blk wr gW 4 (boolV (outB M x (y + 1)) n') := by
        rw [boolV_ext (g' := wantB M x (z + 1)) (fun i hi => by rw [union_eq, hyx])]
        exact hz
      have HYX := Lib.hid hyx
      clear hq hy hyx hz
      go_wp2_with fail
      refine (RX.out x y wr hb hxy hy1).mono ?_
      rintro E w5 ⟨g5, rfl, h5, hg5, b5⟩
      have hz5 := hzw.thru b5
      have hb5 := below_next hb b5
      have r1 := h5.boolV_reads h5.lt
      have r2 := hz5.boolV_reads hz5.lt
      have hs := sameBools_any (some ⟨g5, 0, none⟩) (some ⟨gW, 0, none⟩) n' n' n' n' _ _ _ w5 r1 r2 (by omega) (by omega)
      rw [decide_eq_true rfl] at hs
      have HS := Lib.hid hs
      clear hs r1 r2 h5 hz5 hzw hb b5 p0 p1 p2
      go_wp2_with fail
      refine HS.out.mono ?_
      rintro E w6 ⟨rfl, dq, rfl⟩
      have hb6 := below_drewN hb5 dq
      have K6 := K3.below (hb6.mono h3)
      have h6 : 0 < (w5.drewN dq).heap.size := Nat.lt_of_lt_of_le h3 hb6.size
      have b6 := below_next B3.out hb6
      clear hb5 HS
      go_wp2_with fail
      refine (lifeLives_any _ K6 h6).mono ?_
      rintro E w7 ⟨rfl, b7⟩
      have b8 := below_next b6 b7
      clear b6 b7 K6 h6 hb6
      go_wp2_with fail
      go_ret
      exact ⟨rfl, b8⟩
end Go.Proofs.YtiajlglnefiemaaDoor
