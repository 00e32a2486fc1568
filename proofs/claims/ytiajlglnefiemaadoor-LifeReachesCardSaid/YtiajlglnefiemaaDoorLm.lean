/- Life cycles: Is. Conditions: the lists are short. -/
import Derived.Test.YtiajlglnefiemaaDoorLh
import Derived.BigRegion
import Derived.BigQuiet
import Derived.Deep.RegionHeld3
set_option linter.unusedSimpArgs false
set_option linter.unusedVariables false
namespace Go.Proofs.YtiajlglnefiemaaDoor
open Go.RowKit

/-- is the move there? -/
def hasM (M : List (Int × Int)) (p : Int × Int) : Bool := decide (p ∈ M)
theorem hasM_iff (M : List (Int × Int)) (p : Int × Int) : hasM M p = true ↔ p ∈ M := by unfold hasM; rw [decide_eq_true_iff]
set_option maxRecDepth 100000 in
set_option maxHeartbeats 4000000 in
theorem indexM_any (B : Option Addr) (m d : Nat) (M : List (Int × Int)) (x y : Int) (w : World) (h : Reads w w.heap.size 2 B m (movsV M)) (hm : m ≤ 1000000) :
    Calls Tryd.prog 97 #[.slice B m d, .agg #[.int .i64 x, .int .i64 y]] w fun E W' => (∃ i : Int, E = .returned (.int .i64 i) ∧ (0 ≤ i ↔ hasM M (x, y) = true)) ∧ Below w.heap.size w W' := by
  have hml := h.mov_len
  have HL := Lib.hid hml
  clear hml
  go_enter Tryd.func97, Tryd.ntmps97
  go_wp2_with fail
  have k1 := Blk.new w 54 #[.int .i64 x, .int .i64 y]
  have b1 := (Below.refl w.heap.size w).alloc (Nat.le_refl _) (.cells #[.int .i64 x, .int .i64 y] 54)
  generalize w.alloc (.cells #[.int .i64 x, .int .i64 y] 54) = w1 at *
  have h' := h.below b1
  go_loopw [8] (fun i wr => ∃ k : Nat, k ≤ m ∧ i = .int .i64 (k : Int) ∧ Hid (∀ j p, j < k → M[j]? = some p → p ≠ (x, y)) ∧ ∃ q, wr = w1.drewN q) (fun i _ => (m - intOf i).toNat)
  case atStart => exact ⟨0, by omega, rfl, Lib.hid (fun j p hj => by omega), 0, rfl⟩
  case round =>
    obtain ⟨k, hk, rfl, HN, q, rfl⟩ := hrel
    by_cases hlt : k < m
    · have hji : (k : Int) < (m : Int) := by omega
      obtain ⟨ad, a, b, rfl, had, hmk, ca, cb⟩ := h'.mov_at hlt
      have cx : w1.cell? ⟨w.heap.size, 0, none⟩ = some (.int .i64 x) := k1.at_ rfl
      have cy : w1.cell? ⟨w.heap.size, 1, none⟩ = some (.int .i64 y) := k1.at_ rfl
      by_cases e : (x, y) = (a, b)
      · have heq := fun W => eq_pair x y a b W
        rw [decide_eq_true e] at heq
        have HM := Lib.hid hmk
        have HE := Lib.hid e
        clear e hmk h h' k1
        go_wp2_with fail
        go_region
        go_wp2_with fail
        go_ret
        refine ⟨⟨(k : Int), rfl, ⟨fun _ => (hasM_iff _ _).2 ?_, fun _ => by omega⟩⟩, below_drewN b1 _⟩
        rw [HE.out]
        exact List.mem_of_getElem? HM.out
      · have heq := fun W => eq_pair x y a b W
        rw [decide_eq_false e] at heq
        have HM := Lib.hid hmk
        have HE := Lib.hid e
        clear e hmk h h' k1
        go_wp2_with fail
        go_region
        go_wp2_with fail
        go_roundw
        case rel =>
          refine ⟨k + 1, by omega, by go_num, Lib.hid (fun j p hj hp => ?_), _, rfl⟩
          by_cases e : j = k
          · subst e
            have h1 := HM.out
            rw [hp] at h1
            injection h1 with h1
            rw [h1]
            exact fun h => HE.out h.symm
          · exact HN.out j p (by omega) hp
        case measure => simp [intOf]; omega
    · have hji : ¬ (k : Int) < (m : Int) := by omega
      go_wp2_with fail
      go_ret
      refine ⟨⟨-1, rfl, ⟨fun h => by omega, fun ha => ?_⟩⟩, below_drewN b1 _⟩
      obtain ⟨j, hj, e⟩ := List.getElem_of_mem ((hasM_iff _ _).1 ha)
      exact absurd e (HN.out j _ (by have := HL.out; omega) (List.getElem?_eq_getElem hj))
set_option maxRecDepth 100000 in
set_option maxHeartbeats 4000000 in
theorem containsM_any (B : Option Addr) (m d : Nat) (M : List (Int × Int)) (x y : Int) (w : World) (h : Reads w w.heap.size 2 B m (movsV M)) (hm : m ≤ 1000000) :
    Calls Tryd.prog 74 #[.slice B m d, .agg #[.int .i64 x, .int .i64 y]] w fun E W' => E = .returned (.bool (hasM M (x, y))) ∧ Below w.heap.size w W' := by
  have b1 := (Below.refl w.heap.size w).alloc (Nat.le_refl _) (.cells #[.int .i64 x, .int .i64 y] 54)
  have hx := indexM_any B m d M x y _ ((h.below b1).more b1.size) hm
  have HX := Lib.hid hx
  clear hx
  go_enter Tryd.func74, Tryd.ntmps74
  go_wp2_with fail
  refine HX.out.mono ?_
  rintro E w2 ⟨⟨i, rfl, hi⟩, b2⟩
  go_wp2_with fail
  go_ret
  exact ⟨rfl, below_next b1 b2⟩
/-- the first k steps are moves -/
def stepsB (M : List (Int × Int)) (l : List Int) : Nat → Bool
  | 0 => true
  | k + 1 => stepsB M l k && hasM M (l[k]?.getD 0, l[k + 1]?.getD 0)
/-- do the states follow each other by moves, from the first one on? -/
def isB (n : Nat) (M : List (Int × Int)) (l : List Int) : Bool := decide (lifeE n M = 0) && decide (l ≠ []) && decide (l[0]?.getD 0 = 0) && stepsB M l (l.length - 1)
theorem steps_no {M : List (Int × Int)} {l : List Int} {k : Nat} (h : stepsB M l k = false) : ∀ d, stepsB M l (k + d) = false
  | 0 => h
  | d + 1 => by show (stepsB M l (k + d) && _) = false; rw [steps_no h d]; rfl
set_option maxRecDepth 100000 in
set_option maxHeartbeats 8000000 in
theorem is_any (nm : ByteArray) (A : Option Addr) (n c : Nat) (B : Option Addr) (m d : Nat) (M : List (Int × Int)) (C : Option Addr) (k ck : Nat) (l : List Int) (w : World) (h : Reads w w.heap.size 2 B m (movsV M)) (hl : Reads w w.heap.size 1 C k (ints l)) (hn : n ≤ 1000000) (hm : m ≤ 1000000) (hk : k ≤ ck) (hck : ck ≤ 9223372036854775807) :
    Calls Tryd.prog 40 #[lifeV nm A n c B m d, .slice C k ck] w fun E W' => E = .returned (.bool (isB n M l)) ∧ Below w.heap.size w W' := by
  have hml := h.mov_len
  have hll := hl.int_len
  have b0 := (Below.refl w.heap.size w).alloc (Nat.le_refl _) (.cells #[.string nm, .slice A n c, .slice B m d] 50)
  have k0 := Blk.new w 50 #[.string nm, .slice A n c, .slice B m d]
  have hv := lifeValid_any nm A n c B m d M _ ((h.below b0).more b0.size) hn hm
  by_cases hE : lifeE n M = 0
  · rw [hE] at hv
    have HV := Lib.hid hv
    clear hv
    go_enter Tryd.func40, Tryd.ntmps40
    go_wp2_with fail
    refine HV.out.mono ?_
    rintro E w1 ⟨rfl, b1⟩
    have c1 := below_next b0 b1
    have j1 := k0.thru b1
    have r1 := hl.below c1
    have m1 := h.below c1
    by_cases hk0 : k = 0
    · subst hk0
      have hnil : l = [] := List.eq_nil_of_length_eq_zero hll
      have hib : isB n M l = false := by unfold isB; rw [hnil]; simp
      have HIB := Lib.hid hib
      clear hib
      go_wp2_with fail
      go_ret
      exact ⟨by rw [HIB.out]; rfl, c1⟩
    · have hki : ¬ (k : Int) = 0 := by omega
      have hk2 : ((k : Int) == 0) = false := by simpa using hki
      obtain ⟨ad, rfl, had, -, ca⟩ := r1.int_at (show 0 < k by omega)
      have ca2 : w1.cell? ad = some (.int .i64 (l[0]?.getD 0)) := by simpa [Addr.add] using ca
      by_cases h0 : l[0]?.getD 0 = 0
      · rw [h0] at ca2
        have hone : (1 : Int) ≤ (k : Int) := by omega
        have hIB : isB n M l = stepsB M l (k - 1) := by
          unfold isB
          rw [decide_eq_true hE, decide_eq_true (show l ≠ [] by intro e; rw [e] at hll; simp at hll; omega), decide_eq_true h0, hll]
          rfl
        by_cases hc1 : ck = 1
        · obtain rfl : k = 1 := by omega
          subst hc1
          have HIB := Lib.hid hIB
          clear hIB
          go_wp2_with fail
          go_loopw [24] (fun i wr => i = .int .i64 0 ∧ wr = w1) (fun _ _ => 0)
          case atStart => exact ⟨rfl, rfl⟩
          case round =>
            obtain ⟨rfl, rfl⟩ := hrel
            go_wp2_with fail
            go_ret
            exact ⟨by rw [HIB.out]; rfl, c1⟩
        · have hc2 : ¬ (ck : Int) = 1 := by omega
          have hc3 : 1 < ck := by omega
          have HIB := Lib.hid hIB
          clear hIB
          go_wp2_with fail
          go_loopw [24] (fun i wr => ∃ j : Nat, j ≤ k - 1 ∧ i = .int .i64 (j : Int) ∧ Hid (stepsB M l j = true) ∧ Blk wr w.heap.size 50 #[.string nm, .slice A n c, .slice B m d] ∧ Below w.heap.size w wr) (fun i _ => (k - 1 - intOf i).toNat)
          case atStart => exact ⟨0, by omega, rfl, Lib.hid rfl, j1, c1⟩
          case round =>
            clear j1 c1 r1 m1 b1 ca ca2 HV k0 b0
            obtain ⟨j, hj, rfl, HST, hbx, hb⟩ := hrel
            by_cases hlt : j < k - 1
            · have hji : (j : Int) < ((k - 1 : Nat) : Int) := by omega
              have hjk : (j : Int) < (k : Int) := by omega
              obtain ⟨ad1, e1, -, -, p0⟩ := (hl.below hb).int_at (show j < k by omega)
              obtain ⟨ad2, e2, -, -, p1⟩ := (hl.below hb).int_at (show j + 1 < k by omega)
              injection e1 with e1
              injection e2 with e2
              subst e1 e2
              have e3 : ad.add (j + 1) = ⟨ad.block, ad.off + 1 + j, none⟩ := by simp [Addr.add]; omega
              rw [e3] at p1
              have p2 : wr.cell? ⟨w.heap.size, 2, none⟩ = some (.slice B m d) := hbx.at_ rfl
              have hnext : stepsB M l (j + 1) = (stepsB M l j && hasM M (l[j]?.getD 0, l[j + 1]?.getD 0)) := rfl
              rw [HST.out, Bool.true_and] at hnext
              have HNX := Lib.hid hnext
              have hcm := fun W (hW : Below w.heap.size w W) => containsM_any B m d M (l[j]?.getD 0) (l[j + 1]?.getD 0) W ((h.below hW).more hW.size) hm
              generalize l[j]?.getD 0 = x at *
              generalize l[j + 1]?.getD 0 = y at *
              have HCM := Lib.hid hcm
              have hadl : (ad.add j).block < wr.heap.size := by rw [block_add]; exact Nat.lt_of_lt_of_le had hb.size
              have HAD := Lib.hid (show (ad.add j).block < wr.drew.heap.size from hadl)
              clear hcm hnext e3 hadl
              cases hv : hasM M (x, y)
              · rw [hv] at HCM HNX
                clear hv
                go_wp2_with fail
                go_region_held3 (fun W => W.cell? ⟨w.heap.size, 2, none⟩ = some (.slice B m d) ∧ W.cell? (ad.add j) = some (.int .i64 x)) (first | exact ⟨p2, p0⟩ | exact ⟨s2, s0⟩)
                  (first | (go_at_call 74; refine (HCM.out wr.drew (below_drewN hb 1)).mono ?_; rintro E w4 ⟨rfl, b4⟩; have hb4 := below_next (below_drewN hb 1) b4; have hbx4 := hbx.drew.thru b4; have s2 : w4.cell? ⟨w.heap.size, 2, none⟩ = some (.slice B m d) := hbx4.at_ rfl; have s0 : w4.cell? (ad.add j) = some (.int .i64 x) := (b4.cell (p := ad.add j) (HAD.out)).trans p0))
                go_wp2_with fail
                go_ret
                refine ⟨?_, hb4⟩
                have e := steps_no HNX.out (k - 1 - (j + 1))
                rw [show j + 1 + (k - 1 - (j + 1)) = k - 1 by omega] at e
                rw [HIB.out, e]
                rfl
              · rw [hv] at HCM HNX
                clear hv
                go_wp2_with fail
                go_region_held3 (fun W => W.cell? ⟨w.heap.size, 2, none⟩ = some (.slice B m d) ∧ W.cell? (ad.add j) = some (.int .i64 x)) (first | exact ⟨p2, p0⟩ | exact ⟨s2, s0⟩)
                  (first | (go_at_call 74; refine (HCM.out wr.drew (below_drewN hb 1)).mono ?_; rintro E w4 ⟨rfl, b4⟩; have hb4 := below_next (below_drewN hb 1) b4; have hbx4 := hbx.drew.thru b4; have s2 : w4.cell? ⟨w.heap.size, 2, none⟩ = some (.slice B m d) := hbx4.at_ rfl; have s0 : w4.cell? (ad.add j) = some (.int .i64 x) := (b4.cell (p := ad.add j) (HAD.out)).trans p0))
                go_wp2_with fail
                go_roundw
                case rel => exact ⟨j + 1, by omega, by go_num, Lib.hid HNX.out, hbx4, hb4⟩
                case measure => simp [intOf]; omega
            · obtain rfl : j = k - 1 := by omega
              have hji : ¬ (((k - 1 : Nat) : Int) < ((k - 1 : Nat) : Int)) := by omega
              go_wp2_with fail
              go_ret
              exact ⟨by rw [HIB.out, HST.out]; rfl, hb⟩
      · have hib : isB n M l = false := by unfold isB; rw [decide_eq_false h0]; simp
        have HIB := Lib.hid hib
        have h0' : (l[0]?.getD 0 != 0) = true := by simpa using h0
        generalize l[0]?.getD 0 = x0 at *
        clear hib
        go_wp2_with fail
        go_ret
        exact ⟨by rw [HIB.out]; rfl, c1⟩
  · have hib : isB n M l = false := by unfold isB; rw [decide_eq_false hE]; simp
    have HIB := Lib.hid hib
    have HV := Lib.hid hv
    have hne : (lifeE n M != 0) = true := by simpa using hE
    clear hib hv
    generalize lifeE n M = e0 at *
    go_enter Tryd.func40, Tryd.ntmps40
    go_wp2_with fail
    refine HV.out.mono ?_
    rintro E w1 ⟨rfl, b1⟩
    have c1 := below_next b0 b1
    go_wp2_with fail
    go_ret
    exact ⟨by rw [HIB.out]; rfl, c1⟩
end Go.Proofs.YtiajlglnefiemaaDoor
