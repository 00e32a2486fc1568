/- The walk of the law LifeFewest. Conditions: the round constants lie in their variable. -/
import Derived.Test.YtiajlglnefiemaaDoorLq
import Derived.Deep.CutRange
set_option linter.unusedSimpArgs false
set_option linter.unusedVariables false
namespace Go.Proofs.YtiajlglnefiemaaDoor
open Go.RowKit

set_option maxRecDepth 100000 in
set_option maxHeartbeats 8000000 in
theorem lifeFewest_any (A : Option Addr) (n c : Nat) (l : List Int) (w : World) (_hnc : n ≤ c) (hm : n ≤ maxLen) (hl : Reads w w.heap.size 1 A n (ints l)) (hI : ∀ x ∈ l, I64 x)
    (hK : Consts w) (h0 : 0 < w.heap.size) :
    Calls Tryd.prog 12 #[.slice A n c] w fun e W' => e = .returned (.bool true) ∧ Below w.heap.size w W' := by
  go_enter Tryd.func12, Tryd.ntmps12
  go_wp2_with fail
  refine (made_life A n c l w hl hI hm).mono ?_
  rintro E w1 ⟨nm, A', n', c', B, m, d, M, rfl, hr, hE, hn6, c1⟩
  clear hl
  obtain ⟨hn1, hn12, hm32, hM⟩ := lifeE_ok hE
  have hml := hr.mov_len
  obtain rfl : m = M.length := by omega
  have L3 := Blk.new w1 50 #[.string nm, .slice A' n' c', .slice B M.length d]
  have m3 := hr.alloc (Nat.le_refl _) (.cells #[.string nm, .slice A' n' c', .slice B M.length d] 50)
  have b3 := c1.alloc c1.size (.cells #[.string nm, .slice A' n' c', .slice B M.length d] 50)
  have z3 : w1.heap.size < (w1.alloc (.cells #[.string nm, .slice A' n' c', .slice B M.length d] 50)).heap.size := by simp
  go_wp2_with fail
  generalize w1.alloc (.cells #[.string nm, .slice A' n' c', .slice B M.length d] 50) = w2 at *
  generalize w1.heap.size = gL at *
  have m3' := m3.more (Nat.le_of_lt z3)
  clear m3 hr c1 hI
  have K3 := hK.below (b3.mono h0)
  have h3 : 0 < w2.heap.size := Nat.lt_of_lt_of_le h0 b3.size
  refine (least_any nm A' n' c' B M.length d M w2 m3' hE).mono ?_
  rintro E w4 ⟨gD, rfl, h4, hgD, b4⟩
  have z4 := h4.lt
  have b34 := below_next b3 b4
  have B4 := Lib.hid b34
  have K4 := K3.below (b4.mono h3)
  have h40 : 0 < w4.heap.size := Nat.lt_of_lt_of_le h3 b4.size
  have z5 : gL < w4.heap.size := Nat.lt_of_lt_of_le z3 b4.size
  have cells := fun (W : World) (hW : Below w4.heap.size w4 W) => (show W.cell? ⟨gL, 0, none⟩ = some (.string nm) ∧ W.cell? ⟨gL, 1, none⟩ = some (.slice A' n' c') ∧ W.cell? ⟨gL, 2, none⟩ = some (.slice B M.length d) from
    let L := (L3.below b4 z3).below hW z5
    ⟨L.at_ rfl, L.at_ rfl, L.at_ rfl⟩)
  have movs := fun (W : World) (hW : Below w4.heap.size w4 W) => (m3'.below (b4.trans (hW.mono b4.size)))
  have rx := fun (lo hi : Nat) (W : World) (hW : Below w4.heap.size w4 W) (h1 : lo ≤ hi) (h2 : hi ≤ 1000) => reach_any nm A' n' c' B M.length d M lo hi W ((movs W hW).more (Nat.le_trans b4.size hW.size)) hE h1 h2
  have dx := fun (W : World) (hW : Below w4.heap.size w4 W) (s : Nat) (hs : s < n') => (h4.below hW z4).rowI_at hs
  have CS := Lib.hid cells
  have RX := Lib.hid rx
  have MS := Lib.hid movs
  have DX := Lib.hid dx
  have FZ := Lib.hid (fewest_zero (n := n') hn1 hM)
  have FM := Lib.hid (fun a s => fewest_move (n := n') (a := a) (s := s) hn1 hM)
  have FF := Lib.hid (fun s => found (n := n') (s := s) hn1 hM)
  have FO := Lib.hid (fun m s => fewest_out (n := n') (m := m) (s := s) hn1 hM)
  have FI := Lib.hid (fun m s => fewest_in (M := M) (n := n') (m := m) (s := s))
  have FL := Lib.hid (fun s => fewest_le M n' s)
  have FP := Lib.hid (fun s => fewest_pos (M := M) (n := n') (s := s))
  have HM := Lib.hid hM
  obtain ⟨p0, p1, p2⟩ := cells w4 (Below.refl _ _)
  have q0 := dx w4 (Below.refl _ _) 0 (by omega)
  rw [FZ.out] at q0
  clear cells rx m3' L3 movs dx b3 b34 b4 h4 hE hM
  go_wp2_with fail
  go_loopw [5] (fun i wr => ∃ s : Nat, s ≤ n' ∧ i = .int .i64 (s : Int) ∧ Below w4.heap.size w4 wr) (fun i _ => (n' - intOf i).toNat)
  case atStart => exact ⟨0, by omega, rfl, Below.refl _ _⟩
  case round =>
    clear p0 p1 p2 q0
    obtain ⟨s, hs, rfl, hb⟩ := hrel
    by_cases hlt : s < n'
    · have hji : (s : Int) < (n' : Int) := by omega
      have d0 := DX.out wr hb s hlt
      go_upto_region 8 with fail
      go_cut [6] from 33 to 143 (fun b wx => b = .bool (fndB M n' s 0) ∧ Below w4.heap.size w4 wx)
      case first =>
        have e0 : fndB M n' s 0 = (decide (s = 0) || decide (lst M (n' + 1) s = -1)) := rfl
        have HE := Lib.hid e0
        clear e0
        by_cases hs0 : s = 0
        · have hs1 : (s : Int) = 0 := by omega
          have e1 : fndB M n' s 0 = true := by rw [HE.out, decide_eq_true hs0, Bool.true_or]
          go_wp2_with fail
          go_meet
          exact ⟨by rw [e1], hb⟩
        · have hs1 : ¬ (s : Int) = 0 := by omega
          have e1 : ((s : Int) == 0 || lst M (n' + 1) s == -1) = fndB M n' s 0 := by rw [HE.out, Bool.eq_iff_iff]; simp [hs0]
          have H1 := Lib.hid e1
          clear e1
          go_wp2_with fail
          go_meet
          exact ⟨by rw [H1.out], hb⟩
      case rest =>
        clear hb d0
        obtain ⟨rfl, hb⟩ := hcut
        go_wp2_with fail
        go_loopw [6, 7] (fun b i wr => ∃ j : Nat, j ≤ M.length ∧ b = .bool (fndB M n' s j) ∧ i = .int .i64 (j : Int) ∧ Below w4.heap.size w4 wr) (fun _ i _ => (M.length - intOf i).toNat)
        case atStart => exact ⟨0, by omega, rfl, rfl, hb⟩
        case round =>
          clear hb
          obtain ⟨j, hj, rfl, rfl, hb⟩ := hrel
          obtain ⟨p0, p1, p2⟩ := CS.out wr hb
          by_cases hlj : j < M.length
          · have hjj : (j : Int) < (M.length : Int) := by omega
            obtain ⟨ad, a, b, rfl, had, hmk, ca, cb⟩ := (MS.out wr hb).mov_at hlj
            have hmem := List.mem_of_getElem? hmk
            obtain ⟨r0, r1, r2, r3⟩ := HM.out a b hmem
            obtain ⟨α, rfl⟩ := Int.eq_ofNat_of_zero_le r0
            obtain ⟨β, rfl⟩ := Int.eq_ofNat_of_zero_le r2
            have hα : α < n' := by omega
            have da := DX.out wr hb α hα
            have ds := DX.out wr hb s hlt
            have hf : fndB M n' s (j + 1) = (fndB M n' s j || (decide ((β : Int) = (s : Int)) && decide (0 ≤ lst M (n' + 1) α) && decide (lst M (n' + 1) s = lst M (n' + 1) α + 1))) := by
              show (fndB M n' s j || (match M[j]? with | some (a, b) => decide (b = (s : Int)) && decide (0 ≤ lst M (n' + 1) a.toNat) && decide (lst M (n' + 1) s = lst M (n' + 1) a.toNat + 1) | none => false)) = _
              rw [hmk]
              rfl
            have hl1 := FL.out α
            have hl2 := FL.out s
            have hmv := fun (e : β = s) (h : 0 ≤ lst M (n' + 1) α) => FM.out α s (by rw [← e]; exact hmem) h
            have HF := Lib.hid hf
            have HMV := Lib.hid hmv
            have HMK := Lib.hid hmk
            clear hf hmv hmk hmem r0 r2
            generalize lst M (n' + 1) α = x at *
            generalize lst M (n' + 1) s = y at *
            by_cases e : β = s
            · by_cases hneg : x < 0
              · have hf2 : fndB M n' s (j + 1) = fndB M n' s j := by rw [HF.out, decide_eq_false (show ¬ 0 ≤ x by omega)]; simp
                have HF2 := Lib.hid hf2
                subst e
                clear hf2
                go_wp2_with fail
                go_roundw
                case rel => exact ⟨j + 1, by omega, by rw [HF2.out], by go_num, hb⟩
                case measure => simp [intOf]; omega
              · obtain ⟨y0, y1⟩ := HMV.out e (by omega)
                have hy1 : ¬ y < 0 := by omega
                have hy2 : ¬ x + 1 < y := by omega
                cases hfj : fndB M n' s j
                · by_cases q : y = x + 1
                  · have hf2 : fndB M n' s (j + 1) = true := by rw [HF.out, decide_eq_true (show (β : Int) = (s : Int) by omega), decide_eq_true (show 0 ≤ x by omega), decide_eq_true q]; simp
                    have HF2 := Lib.hid hf2
                    subst e
                    clear hf2
                    go_wp2_with fail
                    go_roundw
                    case rel => exact ⟨j + 1, by omega, by rw [HF2.out], by go_num, hb⟩
                    case measure => simp [intOf]; omega
                  · have hf2 : fndB M n' s (j + 1) = false := by rw [HF.out, hfj, decide_eq_false q]; simp
                    have hq : (y == x + 1) = false := by simpa using q
                    have HF2 := Lib.hid hf2
                    subst e
                    clear hf2
                    go_wp2_with fail
                    go_roundw
                    case rel => exact ⟨j + 1, by omega, by rw [HF2.out], by go_num, hb⟩
                    case measure => simp [intOf]; omega
                · have hf2 : fndB M n' s (j + 1) = true := by rw [HF.out, hfj]; simp
                  have HF2 := Lib.hid hf2
                  subst e
                  clear hf2
                  go_wp2_with fail
                  go_roundw
                  case rel => exact ⟨j + 1, by omega, by rw [HF2.out], by go_num, hb⟩
                  case measure => simp [intOf]; omega
            · have hbs : ((β : Int) != (s : Int)) = true := by rw [bne_iff_ne]; omega
              have hf2 : fndB M n' s (j + 1) = fndB M n' s j := by rw [HF.out, decide_eq_false (show ¬ (β : Int) = (s : Int) by omega)]; simp
              have HF2 := Lib.hid hf2
              clear hf2
              go_wp2_with fail
              go_roundw
              case rel => exact ⟨j + 1, by omega, by rw [HF2.out], by go_num, hb⟩
              case measure => simp [intOf]; omega
          · obtain rfl : j = M.length := by omega
            have hjj : ¬ (M.length : Int) < (M.length : Int) := by omega
            have hfd := FF.out s
            have hl2 := FL.out s
            have hpz := FP.out s
            have f1 := fun m (h : outB M m (m + 1) s = true) => FO.out m s h
            have f2 := fun (m : Nat) (h : (m : Int) = lst M (n' + 1) s) => FI.out m s h
            have f3 := fun W hW => DX.out W hW s hlt
            rw [hfd]
            clear hfd
            generalize lst M (n' + 1) s = y at *
            have F1 := Lib.hid f1
            have F2 := Lib.hid f2
            have F3 := Lib.hid f3
            have ds := f3 wr hb
            clear f1 f2 f3
            have hy12 : ¬ (12 : Int) < y := by omega
            have hend : ∀ wr, Below w4.heap.size w4 wr → True := fun _ _ => trivial
            by_cases hs0 : s = 0
            · subst hs0
              clear hpz
              go_wp2_with fail
              go_loopw [9] (fun i wr => ∃ m : Nat, m ≤ 14 ∧ i = .int .i64 (m : Int) ∧ Below w4.heap.size w4 wr) (fun i _ => (14 - intOf i).toNat)
              case atStart => exact ⟨0, by omega, rfl, hb⟩
              case round =>
                clear ds hb p0 p1 p2
                obtain ⟨m, hm, rfl, hb⟩ := hrel
                obtain ⟨p0, p1, p2⟩ := CS.out wr hb
                by_cases hlm : m ≤ 13
                · have hmi : (m : Int) ≤ 13 := by omega
                  go_wp2_with fail
                  refine (RX.out m m wr hb (Nat.le_refl _) (by omega)).mono ?_
                  rintro E w5 ⟨go, rfl, ho, hgo, b5⟩
                  have hb5 := below_next hb b5
                  have ds := F3.out w5 hb5
                  have q1 := ho.boolV_at hlt
                  clear hb b5 p0 p1 p2 ho
                  cases hv : outB M m (m + 1) 0
                  · rw [hv] at q1
                    have hmy : ((m : Int) == y) = false := by
                      rw [beq_eq_false_iff_ne]
                      intro e
                      have := F2.out m e
                      rw [hv] at this
                      cases this
                    clear hv
                    go_wp2_with fail
                    all_goals exact ⟨⟨m + 1, by omega, by go_num, hb5⟩, by simp [intOf]; omega⟩
                  · rw [hv] at q1
                    obtain ⟨y0, y1⟩ := F1.out m hv
                    have hy1 : ¬ y < 0 := by omega
                    have hy2 : ¬ (m : Int) < y := by omega
                    clear hv
                    go_wp2_with fail
                    all_goals exact ⟨⟨m + 1, by omega, by go_num, hb5⟩, by simp [intOf]; omega⟩
                · obtain rfl : m = 14 := by omega
                  have hmi : ¬ ((14 : Nat) : Int) ≤ 13 := by omega
                  go_wp2_with fail
                  exact ⟨⟨1, by omega, by go_num, hb⟩, by simp [intOf]; omega⟩
            · have hs1 : (0 : Int) < (s : Int) := by omega
              have hy0 : (y == 0) = false := by have := hpz (by omega); simpa using this
              clear hpz
              go_wp2_with fail
              go_loopw [9] (fun i wr => ∃ m : Nat, m ≤ 14 ∧ i = .int .i64 (m : Int) ∧ Below w4.heap.size w4 wr) (fun i _ => (14 - intOf i).toNat)
              case atStart => exact ⟨0, by omega, rfl, hb⟩
              case round =>
                clear ds hb p0 p1 p2
                obtain ⟨m, hm, rfl, hb⟩ := hrel
                obtain ⟨p0, p1, p2⟩ := CS.out wr hb
                by_cases hlm : m ≤ 13
                · have hmi : (m : Int) ≤ 13 := by omega
                  go_wp2_with fail
                  refine (RX.out m m wr hb (Nat.le_refl _) (by omega)).mono ?_
                  rintro E w5 ⟨go, rfl, ho, hgo, b5⟩
                  have hb5 := below_next hb b5
                  have ds := F3.out w5 hb5
                  have q1 := ho.boolV_at hlt
                  clear hb b5 p0 p1 p2 ho
                  cases hv : outB M m (m + 1) s
                  · rw [hv] at q1
                    have hmy : ((m : Int) == y) = false := by
                      rw [beq_eq_false_iff_ne]
                      intro e
                      have := F2.out m e
                      rw [hv] at this
                      cases this
                    clear hv
                    go_wp2_with fail
                    all_goals exact ⟨⟨m + 1, by omega, by go_num, hb5⟩, by simp [intOf]; omega⟩
                  · rw [hv] at q1
                    obtain ⟨y0, y1⟩ := F1.out m hv
                    have hy1 : ¬ y < 0 := by omega
                    have hy2 : ¬ (m : Int) < y := by omega
                    clear hv
                    go_wp2_with fail
                    all_goals exact ⟨⟨m + 1, by omega, by go_num, hb5⟩, by simp [intOf]; omega⟩
                · obtain rfl : m = 14 := by omega
                  have hmi : ¬ ((14 : Nat) : Int) ≤ 13 := by omega
                  go_wp2_with fail
                  exact ⟨⟨s + 1, by omega, by go_num, hb⟩, by simp [intOf]; omega⟩
    · obtain rfl : s = n' := by omega
      have hji : ¬ (s : Int) < (s : Int) := by omega
      have K9 := K4.below (hb.mono h40)
      have h9 : 0 < wr.heap.size := Nat.lt_of_lt_of_le h40 hb.size
      have b9 := below_next B4.out hb
      clear hb
      go_wp2_with fail
      refine (lifeLives_any _ K9 h9).mono ?_
      rintro E w7 ⟨rfl, b7⟩
      have b8 := below_next b9 b7
      clear b9 b7 K9 h9
      go_wp2_with fail
      go_ret
      exact ⟨rfl, b8⟩
end Go.Proofs.YtiajlglnefiemaaDoor
