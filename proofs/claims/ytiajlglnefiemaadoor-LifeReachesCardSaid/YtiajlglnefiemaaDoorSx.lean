/- Life cycles: the reference's Valid (69), Moves (70), Is (41), Reach (37), Least (39), and what the program and the reference answer alike, valid or not. Conditions: the lists are short. -/
import Derived.Test.YtiajlglnefiemaaDoorLf
import Derived.Test.YtiajlglnefiemaaDoorLm
import Derived.BigQuiet
import Derived.Test.YtiajlglnefiemaaDoorLl
import Derived.Test.YtiajlglnefiemaaDoorLo
set_option linter.unusedSimpArgs false
set_option linter.unusedVariables false
namespace Go.Proofs.YtiajlglnefiemaaDoor
open Go.RowKit

theorem lst_spec (M : List (Int × Int)) (s : Nat) : ∀ k, (lst M k s = -1 ∧ ∀ j, j < k → reachB M j s = false) ∨ ∃ j : Nat, j < k ∧ lst M k s = (j : Int) ∧ reachB M j s = true ∧ ∀ i, i < j → reachB M i s = false
  | 0 => .inl ⟨rfl, fun j hj => by omega⟩
  | k + 1 => by
    have e : lst M (k + 1) s = lsee k (reachB M k) (lst M k) s := rfl
    rcases lst_spec M s k with ⟨h1, h2⟩ | ⟨j, hj, h1, h2, h3⟩
    · cases hr : reachB M k s
      · refine .inl ⟨?_, fun j hj => ?_⟩
        · rw [e]; unfold lsee; rw [hr, Bool.false_and]; exact h1
        · by_cases ej : j = k
          · rw [ej]; exact hr
          · exact h2 j (by omega)
      · refine .inr ⟨k, by omega, ?_, hr, h2⟩
        rw [e]; unfold lsee; rw [hr, h1]; rfl
    · refine .inr ⟨j, by omega, ?_, h2, h3⟩
      rw [e]; unfold lsee; rw [h1, decide_eq_false (by omega), Bool.and_false]; rfl
theorem reach_step {M : List (Int × Int)} {k s : Nat} : reachB M (k + 1) s = true ↔ ∃ a b, (a, b) ∈ M ∧ reachB M k a.toNat = true ∧ b = (s : Int) := by
  show (M.any fun p => reachB M k p.1.toNat && decide (p.2 = (s : Int))) = true ↔ _
  rw [List.any_eq_true]
  constructor
  · rintro ⟨⟨a, b⟩, h1, h2⟩
    rw [Bool.and_eq_true, decide_eq_true_iff] at h2
    exact ⟨a, b, h1, h2.1, h2.2⟩
  · rintro ⟨a, b, h1, h2, h3⟩
    refine ⟨(a, b), h1, ?_⟩
    rw [Bool.and_eq_true, decide_eq_true_iff]
    exact ⟨h2, h3⟩
/-- a way of k moves -/
def WayB (M : List (Int × Int)) (p : Nat → Nat) (k : Nat) : Prop := p 0 = 0 ∧ ∀ i, i < k → ∃ a b, (a, b) ∈ M ∧ a.toNat = p i ∧ b = (p (i + 1) : Int)
theorem way_of (M : List (Int × Int)) : ∀ k s, reachB M k s = true → ∃ p, WayB M p k ∧ p k = s
  | 0, s, h => ⟨fun _ => 0, ⟨rfl, fun i hi => by omega⟩, by
    have : decide (s = 0) = true := h
    rw [decide_eq_true_iff] at this
    exact this.symm⟩
  | k + 1, s, h => by
    obtain ⟨a, b, h1, h2, h3⟩ := reach_step.1 h
    obtain ⟨p, ⟨q0, q1⟩, q2⟩ := way_of M k _ h2
    refine ⟨fun i => if i ≤ k then p i else s, ⟨by simp [q0], fun i hi => ?_⟩, if_neg (by omega)⟩
    by_cases e : i = k
    · subst e
      refine ⟨a, b, h1, ?_, ?_⟩
      · dsimp only; rw [if_pos (Nat.le_refl _)]; exact q2.symm
      · dsimp only; rw [if_neg (by omega)]; exact h3
    · obtain ⟨a', b', r1, r2, r3⟩ := q1 i (by omega)
      refine ⟨a', b', r1, ?_, ?_⟩
      · dsimp only; rw [if_pos (by omega)]; exact r2
      · dsimp only; rw [if_pos (by omega)]; exact r3
theorem way_goes {M : List (Int × Int)} {p : Nat → Nat} {k : Nat} (h : WayB M p k) (c i : Nat) (hc : reachB M c (p i) = true) : ∀ d, i + d ≤ k → reachB M (c + d) (p (i + d)) = true
  | 0, _ => hc
  | d + 1, hd => by
    have ih := way_goes h c i hc d (by omega)
    obtain ⟨a, b, h1, h2, h3⟩ := h.2 (i + d) (by omega)
    exact reach_step.2 ⟨a, b, h1, by rw [h2]; exact ih, h3⟩
theorem reach_short {M : List (Int × Int)} {n : Nat} (h1 : 1 ≤ n) (hM : ∀ a b, (a, b) ∈ M → 0 ≤ a ∧ a < n ∧ 0 ≤ b ∧ b < n) : ∀ f k s, k ≤ f → reachB M k s = true → ∃ i, i < n ∧ i ≤ k ∧ reachB M i s = true
  | 0, k, s, hk, h => ⟨k, by omega, Nat.le_refl _, h⟩
  | f + 1, k, s, hk, h => by
    by_cases hn : k < n
    · exact ⟨k, hn, Nat.le_refl _, h⟩
    · obtain ⟨p, hp, hs⟩ := way_of M k s h
      have hlt : ∀ i, i ≤ n → p i < n := fun i hi => by
        cases i with
        | zero => rw [hp.1]; omega
        | succ i =>
          obtain ⟨a, b, q1, q2, q3⟩ := hp.2 i (by omega)
          have := hM a b q1
          omega
      obtain ⟨i, j, hij, hj, e⟩ := pigeon n p hlt
      have g0 : reachB M 0 (p 0) = true := by rw [hp.1]; rfl
      have g1 := way_goes hp 0 0 g0 i (by omega)
      simp only [Nat.zero_add] at g1
      rw [e] at g1
      have g2 := way_goes hp i j g1 (k - j) (by omega)
      rw [show j + (k - j) = k by omega, hs] at g2
      obtain ⟨r, r1, r2, r3⟩ := reach_short h1 hM f (i + (k - j)) s (by omega) g2
      exact ⟨r, r1, by omega, r3⟩
/-- what the fewest moves tell -/
theorem fewest {M : List (Int × Int)} {n : Nat} (h1 : 1 ≤ n) (hM : ∀ a b, (a, b) ∈ M → 0 ≤ a ∧ a < n ∧ 0 ≤ b ∧ b < n) {k s : Nat} (h : reachB M k s = true) : 0 ≤ lst M (n + 1) s ∧ lst M (n + 1) s ≤ k := by
  obtain ⟨i, i1, i2, i3⟩ := reach_short h1 hM k k s (Nat.le_refl _) h
  rcases lst_spec M s (n + 1) with ⟨q1, q2⟩ | ⟨j, q1, q2, q3, q4⟩
  · have := q2 i (by omega)
    rw [i3] at this
    cases this
  · rw [q2]
    have : j ≤ i := by
      apply Nat.le_of_not_lt
      intro hlt
      have := q4 i hlt
      rw [i3] at this
      cases this
    omega
theorem bad_of {n : Nat} {M : List (Int × Int)} {a b : Int} {k : Nat} (hm : M[k]? = some (a, b)) (h : a < 0 ∨ (n : Int) ≤ a ∨ b < 0 ∨ (n : Int) ≤ b) : anyBad n M = true := by
  rw [anyBad_iff]
  refine ⟨(a, b), List.mem_of_getElem? hm, ?_⟩
  unfold badM
  simp only [Bool.or_eq_true, decide_eq_true_eq]
  omega
theorem good_of {n : Nat} {M : List (Int × Int)} (h : ∀ (k : Nat) (a b : Int), M[k]? = some (a, b) → 0 ≤ a ∧ a < (n : Int) ∧ 0 ≤ b ∧ b < (n : Int)) : anyBad n M = false := by
  cases hv : anyBad n M with
  | false => rfl
  | true =>
    obtain ⟨⟨a, b⟩, hm, hb⟩ := (anyBad_iff n M).1 hv
    obtain ⟨k, hk, e⟩ := List.getElem_of_mem hm
    have := h k a b (by rw [List.getElem?_eq_getElem hk, e])
    unfold badM at hb
    simp only [Bool.or_eq_true, decide_eq_true_eq] at hb
    omega
set_option maxRecDepth 100000 in
set_option maxHeartbeats 8000000 in
theorem rValid_any (nm : ByteArray) (A : Option Addr) (n c : Nat) (B : Option Addr) (m d : Nat) (M : List (Int × Int)) (w : World) (h : Reads w w.heap.size 2 B m (movsV M)) (hn : n ≤ 1000000) (hm : m ≤ 1000000) :
    Calls Tryd.prog 69 #[lifeV nm A n c B m d] w fun E W' => E = .returned (.int .i64 (lifeE n M)) ∧ Below w.heap.size w W' := by
  have hml := h.mov_len
  have hB := (Below.refl w.heap.size w).alloc (Nat.le_refl _) (.cells #[.string nm, .slice A n c, .slice B m d] 50)
  by_cases h1 : (12 : Int) < (n : Int)
  · rw [show lifeE n M = 4 from by unfold lifeE; rw [if_pos (by omega)]]
    go_enter Tryd.func69, Tryd.ntmps69
    go_wp2_with fail
    go_ret
    exact ⟨rfl, hB⟩
  · by_cases h2 : (32 : Int) < (m : Int)
    · rw [show lifeE n M = 4 from by unfold lifeE; rw [if_pos (by omega)]]
      go_enter Tryd.func69, Tryd.ntmps69
      go_wp2_with fail
      go_ret
      exact ⟨rfl, hB⟩
    · by_cases h3 : n = 0
      · rw [show lifeE n M = 1 from by unfold lifeE; rw [if_neg (by omega), if_pos (.inl h3)]]
        subst h3
        go_enter Tryd.func69, Tryd.ntmps69
        go_wp2_with fail
        go_ret
        exact ⟨rfl, hB⟩
      · have h4 : ¬ (n : Int) = 0 := by omega
        have h5 : ((n : Int) == 0) = false := by simpa using h4
        have h1' : decide ((12 : Int) < (n : Int)) = false := decide_eq_false h1
        have h2' : decide ((32 : Int) < (m : Int)) = false := decide_eq_false h2
        have k0 := Blk.new w 50 #[.string nm, .slice A n c, .slice B m d]
        obtain ⟨r, hr⟩ : ∃ r, r = lifeE n M := ⟨_, rfl⟩
        rw [← hr]
        have HBAD : Hid (∀ (k : Nat) (a b : Int), M[k]? = some (a, b) → (a < 0 ∨ (n : Int) ≤ a ∨ b < 0 ∨ (n : Int) ≤ b) → r = 1) := Lib.hid fun k a b hk hb => by
          rw [hr]; unfold lifeE; rw [if_neg (by omega), if_pos (.inr (bad_of hk hb))]
        have HGOOD : Hid ((∀ (k : Nat) (a b : Int), M[k]? = some (a, b) → 0 ≤ a ∧ a < (n : Int) ∧ 0 ≤ b ∧ b < (n : Int)) → r = 0) := Lib.hid fun hg => by
          rw [hr]; unfold lifeE; rw [if_neg (by omega), if_neg (by rw [good_of hg]; simp; omega)]
        clear hr
        go_enter Tryd.func69, Tryd.ntmps69
        go_wp2_with fail
        generalize w.alloc (.cells #[.string nm, .slice A n c, .slice B m d] 50) = w0 at *
        go_loopw [4] (fun iv wr => ∃ j : Nat, j ≤ m ∧ iv = .int .i64 (j : Int) ∧ Blk wr w.heap.size 50 #[.string nm, .slice A n c, .slice B m d] ∧ Below w.heap.size w wr ∧ Hid (∀ (k : Nat) (a b : Int), k < j → M[k]? = some (a, b) → 0 ≤ a ∧ a < (n : Int) ∧ 0 ≤ b ∧ b < (n : Int))) (fun i _ => (m - intOf i).toNat)
        case atStart => exact ⟨0, by omega, rfl, k0, hB, Lib.hid fun k a b hk => absurd hk (Nat.not_lt_zero k)⟩
        case round =>
          clear k0 hB
          obtain ⟨j, hj, rfl, k0, hb, HG⟩ := hrel
          have p2 : wr.cell? ⟨w.heap.size, 2, none⟩ = some (.slice B m d) := k0.at_ rfl
          by_cases hlt : j < m
          · have hji : (j : Int) < (m : Int) := by omega
            obtain ⟨ad, a, b, hAd, had, hmk, ca, cb⟩ := (h.below hb).mov_at hlt
            subst hAd
            have HMK := Lib.hid hmk
            clear hmk
            by_cases c1 : a < 0
            · go_wp2_with fail
              go_ret
              exact ⟨by rw [HBAD.out j a b HMK.out (.inl c1)]; rfl, hb.alloc hb.size _⟩
            · have c1' : decide (a < 0) = false := decide_eq_false c1
              by_cases c2 : (n : Int) ≤ a
              · go_wp2_with fail
                go_ret
                exact ⟨by rw [HBAD.out j a b HMK.out (.inr (.inl c2))]; rfl, hb.alloc hb.size _⟩
              · have c2' : decide ((n : Int) ≤ a) = false := decide_eq_false c2
                by_cases c3 : b < 0
                · go_wp2_with fail
                  go_ret
                  exact ⟨by rw [HBAD.out j a b HMK.out (.inr (.inr (.inl c3)))]; rfl, hb.alloc hb.size _⟩
                · have c3' : decide (b < 0) = false := decide_eq_false c3
                  by_cases c4 : (n : Int) ≤ b
                  · go_wp2_with fail
                    go_ret
                    exact ⟨by rw [HBAD.out j a b HMK.out (.inr (.inr (.inr c4)))]; rfl, hb.alloc hb.size _⟩
                  · have c4' : decide ((n : Int) ≤ b) = false := decide_eq_false c4
                    go_wp2_with fail
                    refine ⟨⟨j + 1, by omega, by go_num, k0.alloc _, hb.alloc hb.size _, Lib.hid fun k x y hk hxy => ?_⟩, by simp [intOf]; omega⟩
                    by_cases e : k = j
                    · subst e
                      rw [HMK.out] at hxy
                      injection hxy with hxy
                      injection hxy with e1 e2
                      omega
                    · exact HG.out k x y (by omega) hxy
          · obtain rfl : j = m := by omega
            have hji : ¬ (j : Int) < (j : Int) := by omega
            go_wp2_with fail
            go_ret
            exact ⟨by rw [HGOOD.out fun k a b hk => HG.out k a b (by have := (List.getElem?_eq_some_iff.1 hk).1; omega) hk]; rfl, hb⟩
set_option maxRecDepth 100000 in
set_option maxHeartbeats 4000000 in
theorem rMoves_any (nm : ByteArray) (A : Option Addr) (n c : Nat) (B : Option Addr) (m d : Nat) (M : List (Int × Int)) (s : Int) (w : World) (h : Reads w w.heap.size 2 B m (movsV M)) (hm : m ≤ 1000000) :
    Calls Tryd.prog 70 #[lifeV nm A n c B m d, .int .i64 s] w fun E W' => ∃ v, E = .returned v ∧ W'.ownsRow (w.heap.size + 1) 3 1 v (mv M s).length (ints (mv M s)) ∧ Below w.heap.size w W' := by
  obtain ⟨i0, hi, hz0, hz1, hz2⟩ := info_parts info_i64
  have hml := h.mov_len
  have hB0 := (Below.refl w.heap.size w).alloc (Nat.le_refl _) (.cells #[.string nm, .slice A n c, .slice B m d] 50)
  have k0 := Blk.new w 50 #[.string nm, .slice A n c, .slice B m d]
  have hsz : (w.alloc (.cells #[.string nm, .slice A n c, .slice B m d] 50)).heap.size = w.heap.size + 1 := by simp
  go_enter Tryd.func70, Tryd.ntmps70
  go_wp2_with fail
  generalize w.alloc (.cells #[.string nm, .slice A n c, .slice B m d] 50) = w0 at *
  go_loopw [5, 6] (fun v i wr => ∃ k : Nat, k ≤ m ∧ i = .int .i64 (k : Int) ∧ wr.ownsRow (w.heap.size + 1) 3 1 v (mv (M.take k) s).length (ints (mv (M.take k) s)) ∧ Below w.heap.size w wr ∧ Blk wr w.heap.size 50 #[.string nm, .slice A n c, .slice B m d] ∧ w.heap.size + 1 ≤ wr.heap.size) (fun _ i _ => (m - intOf i).toNat)
  case atStart => exact ⟨0, by omega, rfl, World.ownsRow_nil _ _ _ _, hB0, k0, by omega⟩
  case round =>
    clear k0 hB0
    obtain ⟨k, hk, rfl, ho, hb, k0, hz⟩ := hrel
    have p2 : wr.cell? ⟨w.heap.size, 2, none⟩ = some (.slice B m d) := k0.at_ rfl
    by_cases hlt : k < m
    · have hji : (k : Int) < (m : Int) := by omega
      obtain ⟨ad, a, b, rfl, had, hmk, ca, cb⟩ := (h.below hb).mov_at hlt
      have hst := mv_take (s := s) hmk
      have HS := Lib.hid hst
      clear hst
      by_cases e : a = s
      · subst e
        rw [if_pos rfl] at HS
        have hlk := mv_len M a k
        have hcn := cell_one_new wr (.int .i64 b) 3
        go_wp2_with (at_builtin; refine wpList_append_own _ rfl _ _ 22 rfl (w.heap.size + 1) 3 i0 (.int .i64 0) 1 8 Tryd.underlying22 hi hz0 hz1 hz2 rfl (by decide) _ _ _ rfl (ho.alloc _) ⟨wr.heap.size, 0, none⟩ 1 1 [.int .i64 b] rfl rfl hcn (by simp [Value.oneCell']) (by unfold maxLen; omega) (by omega) (by simp; omega) ?_; intro v3 w3 o3 g3 _)
        have b3 : Below w.heap.size w w3 := (hb.alloc hb.size _).grown g3 (by have := hb.size; simp; omega) (fun q e => by have := (ho.lt q e).1; omega)
        have k3 := (k0.alloc (.cells #[.int .i64 b] 3)).grown g3 (fun e => by have := (ho.lt _ e.symm).1; omega)
        rw [← ints_snoc, ← HS.out] at o3
        have o4 : w3.ownsRow (w.heap.size + 1) 3 1 v3 (mv (M.take (k + 1)) a).length (ints (mv (M.take (k + 1)) a)) := by
          have e := HS.out
          have e2 : (mv (M.take (k + 1)) a).length = (mv (M.take k) a).length + 1 := by rw [e]; simp
          rw [e2]
          exact o3
        clear o3
        go_roundw
        case rel => exact ⟨k + 1, by omega, by go_num, o4, b3, k3, k3.lt⟩
        case measure => simp [intOf]; omega
      · rw [if_neg e] at HS
        have e2 : (a == s) = false := by simpa using e
        go_wp2_with fail
        go_roundw
        case rel => exact ⟨k + 1, by omega, by go_num, by rw [HS.out]; exact ho, hb, k0, hz⟩
        case measure => simp [intOf]; omega
    · obtain rfl : k = m := by omega
      have hji : ¬ (k : Int) < (k : Int) := by omega
      rw [List.take_of_length_le (by omega)] at ho
      go_wp2_with fail
      go_ret
      exact ⟨_, rfl, ho, hb⟩
theorem hasM_take {M : List (Int × Int)} {j : Nat} {a b : Int} (h : M[j]? = some (a, b)) (p : Int × Int) : (hasM (M.take j) p || decide ((a, b) = p)) = hasM (M.take (j + 1)) p := by
  obtain ⟨hj, e⟩ := List.getElem?_eq_some_iff.1 h
  rw [List.take_succ_eq_append_getElem hj, e]
  unfold hasM
  rw [← Bool.decide_or, decide_eq_decide, List.mem_append, List.mem_singleton]
  exact or_congr_right eq_comm
theorem pair_dec (a b x y : Int) : decide ((a, b) = (x, y)) = (decide (a = x) && decide (b = y)) := by rw [Bool.eq_iff_iff]; simp
theorem hasM_nil (p : Int × Int) : hasM [] p = false := by unfold hasM; simp
set_option maxRecDepth 100000 in
set_option maxHeartbeats 8000000 in
theorem rIs_any (nm : ByteArray) (A : Option Addr) (n c : Nat) (B : Option Addr) (m d : Nat) (M : List (Int × Int)) (C : Option Addr) (k ck : Nat) (l : List Int) (w : World) (h : Reads w w.heap.size 2 B m (movsV M)) (hl : Reads w w.heap.size 1 C k (ints l)) (hn : n ≤ 1000000) (hm : m ≤ 1000000) (hk : k ≤ ck) (hck : ck ≤ 9223372036854775807) :
    Calls Tryd.prog 41 #[lifeV nm A n c B m d, .slice C k ck] w fun E W' => E = .returned (.bool (isB n M l)) ∧ Below w.heap.size w W' := by
  have hml := h.mov_len
  have hll := hl.int_len
  have b0 := (Below.refl w.heap.size w).alloc (Nat.le_refl _) (.cells #[.string nm, .slice A n c, .slice B m d] 50)
  have k0 := Blk.new w 50 #[.string nm, .slice A n c, .slice B m d]
  have hv := rValid_any nm A n c B m d M _ ((h.below b0).more b0.size) hn hm
  by_cases hE : lifeE n M = 0
  · rw [hE] at hv
    have HV := Lib.hid hv
    clear hv
    go_enter Tryd.func41, Tryd.ntmps41
    go_wp2_with fail
    refine HV.out.mono ?_
    rintro E w1 ⟨rfl, b1⟩
    have c1 := below_next b0 b1
    have j1 := k0.thru b1
    have r1 := hl.below c1
    by_cases hk0 : k = 0
    · subst hk0
      have hnil : l = [] := List.eq_nil_of_length_eq_zero hll
      have hib : isB n M l = false := by unfold isB; rw [hnil]; simp
      have HIB := Lib.hid hib
      clear hib
      go_wp2_with fail
      go_ret
      exact ⟨by rw [HIB.out]; rfl, c1⟩
    · have hki : ¬ (k : Int) = 0 := by omega
      have hk2 : ((k : Int) == 0) = false := by simpa using hki
      obtain ⟨ad, rfl, had, -, ca⟩ := r1.int_at (show 0 < k by omega)
      have ca2 : w1.cell? ad = some (.int .i64 (l[0]?.getD 0)) := by simpa [Addr.add] using ca
      by_cases h0 : l[0]?.getD 0 = 0
      · rw [h0] at ca2
        have hone : (0 : Int) < (k : Int) := by omega
        have hIB : isB n M l = stepsB M l (k - 1) := by
          unfold isB
          rw [decide_eq_true hE, decide_eq_true (show l ≠ [] by intro e; rw [e] at hll; simp at hll; omega), decide_eq_true h0, hll]
          rfl
        have HIB := Lib.hid hIB
        clear hIB
        go_wp2_with fail
        go_loopw [5] (fun i wr => ∃ j : Nat, j < k ∧ i = .int .i64 ((j + 1 : Nat) : Int) ∧ Hid (stepsB M l j = true) ∧ Blk wr w.heap.size 50 #[.string nm, .slice A n c, .slice B m d] ∧ Below w.heap.size w wr) (fun i _ => (k - intOf i).toNat)
        case atStart => exact ⟨0, by omega, rfl, Lib.hid rfl, j1, c1⟩
        case round =>
          clear j1 c1 r1 b1 ca ca2 HV k0 b0
          obtain ⟨j, hj, rfl, HST, hbx, hb⟩ := hrel
          obtain ⟨j1, hj1⟩ : ∃ j1, j1 = j + 1 := ⟨_, rfl⟩
          have HJ := Lib.hid hj1
          rw [← hj1]
          clear hj1
          have p2 : wr.cell? ⟨w.heap.size, 2, none⟩ = some (.slice B m d) := hbx.at_ rfl
          by_cases hlt : j1 < k
          · have hji : (j1 : Int) < (k : Int) := by omega
            have hj0 : (0 : Int) ≤ (j1 : Int) := by omega
            have hjm : (j1 : Int) - 1 = (j : Int) := by have := HJ.out; omega
            have hjmw : IntKind.i64.wrap (j : Int) = (j : Int) := by rw [IntKind.wrap_i64]; omega
            have hjk : (j : Int) < (k : Int) := by omega
            have hjk0 : (0 : Int) ≤ (j : Int) := by omega
            obtain ⟨ad1, e1, -, -, p0⟩ := (hl.below hb).int_at (show j < k by omega)
            obtain ⟨ad2, e2, -, -, p1⟩ := (hl.below hb).int_at hlt
            injection e1 with e1
            injection e2 with e2
            subst e1 e2
            have hnext : stepsB M l (j + 1) = (stepsB M l j && hasM M (l[j]?.getD 0, l[j1]?.getD 0)) := by rw [HJ.out]; rfl
            rw [HST.out, Bool.true_and] at hnext
            have HNX := Lib.hid hnext
            generalize l[j]?.getD 0 = x at *
            generalize l[j1]?.getD 0 = y at *
            have HML := Lib.hid hml
            clear hnext
            go_wp2_with fail
            go_loopw [6, 7] (fun v iv wq => ∃ q : Nat, q ≤ m ∧ v = .bool (hasM (M.take q) (x, y)) ∧ iv = .int .i64 (q : Int) ∧ ∃ dq, wq = wr.drewN dq) (fun _ i _ => (m - intOf i).toNat)
            case atStart => exact ⟨0, by omega, by rw [List.take_zero, hasM_nil], rfl, 0, rfl⟩
            case round =>
              obtain ⟨q, hq, rfl, rfl, dq, rfl⟩ := hrel
              have p3 : (wr.drewN dq).cell? ⟨w.heap.size, 2, none⟩ = some (.slice B m d) := p2
              by_cases hqm : q < m
              · have hqi : (q : Int) < (m : Int) := by omega
                obtain ⟨ad3, a, b, rfl, had3, hmk, ca, cb⟩ := (h.below hb).mov_at hqm
                have ca2 : (wr.drewN dq).cell? (ad3.add (q * 2)) = some (.int .i64 a) := ca
                have cb2 : (wr.drewN dq).cell? ⟨(ad3.add (q * 2)).block, (ad3.add (q * 2)).off + 1, none⟩ = some (.int .i64 b) := cb
                have p0b : (wr.drewN dq).cell? (ad.add j) = some (.int .i64 x) := p0
                have p1b : (wr.drewN dq).cell? (ad.add j1) = some (.int .i64 y) := p1
                have heq := fun W => eq_pair a b x y W
                have hst := hasM_take hmk (x, y)
                have HS := Lib.hid hst
                clear hst
                cases hv : hasM (M.take q) (x, y)
                · rw [hv] at HS
                  go_wp2_with fail
                  go_quiet (fail)
                  go_wp2_with fail
                  go_roundw
                  case rel => exact ⟨q + 1, by omega, by rw [← HS.out, Bool.false_or, pair_dec], by go_num, dq + nq, rfl⟩
                  case measure => simp [intOf]; omega
                · rw [hv] at HS
                  go_wp2_with fail
                  go_quiet (fail)
                  go_wp2_with fail
                  go_roundw
                  case rel => exact ⟨q + 1, by omega, by rw [← HS.out, Bool.true_or], by go_num, dq + nq, rfl⟩
                  case measure => simp [intOf]; omega
              · obtain rfl : q = m := by omega
                have hqi : ¬ (q : Int) < (q : Int) := by omega
                rw [List.take_of_length_le (by have := HML.out; omega)]
                cases hv : hasM M (x, y)
                · rw [hv] at HNX
                  go_wp2_with fail
                  go_ret
                  refine ⟨?_, below_drewN' hb dq⟩
                  have e := steps_no HNX.out (k - 1 - (j + 1))
                  rw [show j + 1 + (k - 1 - (j + 1)) = k - 1 by have := HJ.out; omega] at e
                  rw [HIB.out, e]
                  rfl
                · rw [hv] at HNX
                  go_wp2_with fail
                  go_roundw
                  case rel => exact ⟨j + 1, by have := HJ.out; omega, by have := HJ.out; subst this; go_num, Lib.hid HNX.out, hbx.drewN dq, below_drewN' hb dq⟩
                  case measure => have := HJ.out; simp [intOf]; omega
          · obtain rfl : j1 = k := by have := HJ.out; omega
            have hji : ¬ (j1 : Int) < (j1 : Int) := by omega
            go_wp2_with fail
            go_ret
            refine ⟨?_, hb⟩
            rw [HIB.out, show j1 - 1 = j by have := HJ.out; omega, HST.out]
            rfl
      · have hib : isB n M l = false := by unfold isB; rw [decide_eq_false h0]; simp
        have HIB := Lib.hid hib
        have h0' : (l[0]?.getD 0 != 0) = true := by simpa using h0
        have hone : (0 : Int) < (k : Int) := by omega
        generalize l[0]?.getD 0 = x0 at *
        clear hib
        go_wp2_with fail
        go_ret
        exact ⟨by rw [HIB.out]; rfl, c1⟩
  · have hib : isB n M l = false := by unfold isB; rw [decide_eq_false hE]; simp
    have HIB := Lib.hid hib
    have hE2 : (lifeE n M != 0) = true := by simpa using hE
    have HV := Lib.hid hv
    clear hib hv
    go_enter Tryd.func41, Tryd.ntmps41
    go_wp2_with fail
    refine HV.out.mono ?_
    rintro E w1 ⟨rfl, b1⟩
    go_wp2_with fail
    go_ret
    exact ⟨by rw [HIB.out]; rfl, below_next b0 b1⟩
theorem boolV_step {M : List (Int × Int)} {j n α β : Nat} (h : M[j]? = some ((α : Int), (β : Int))) (f : Nat → Bool) (hf : f α = true) (hb : β < n) : (boolV (stepB M f j) n).setIfInBounds β (.bool true) = boolV (stepB M f (j + 1)) n := by
  rw [boolV_set _ hb]
  refine boolV_ext fun s hs => ?_
  rw [stepB_succ h, Int.toNat_natCast, hf]
  by_cases e : s = β
  · rw [if_pos e]
    have : (β : Int) = (s : Int) := by omega
    simp [this]
  · rw [if_neg e]
    have : ¬ (β : Int) = (s : Int) := by omega
    simp [this]
theorem boolV_same {M : List (Int × Int)} {j n α : Nat} {b : Int} (h : M[j]? = some ((α : Int), b)) (f : Nat → Bool) (hf : f α = false) : boolV (stepB M f (j + 1)) n = boolV (stepB M f j) n := by
  refine boolV_ext fun s hs => ?_
  rw [stepB_succ h, Int.toNat_natCast, hf]
  simp
theorem see_same (lo k : Nat) (f g e : Nat → Bool) {n j : Nat} (hv : g j = seeB lo k f g e j) : boolV (fun s => if s < j then seeB lo k f g e s else g s) n = boolV (fun s => if s < j + 1 then seeB lo k f g e s else g s) n := by
  refine boolV_ext fun i hi => ?_
  by_cases e1 : i = j
  · subst e1
    rw [if_neg (by omega), if_pos (by omega)]
    exact hv
  · by_cases e2 : i < j
    · rw [if_pos e2, if_pos (by omega)]
    · rw [if_neg e2, if_neg (by omega)]
set_option maxRecDepth 100000 in
set_option maxHeartbeats 16000000 in
theorem rReach_any (nm : ByteArray) (A : Option Addr) (n c : Nat) (B : Option Addr) (m d : Nat) (M : List (Int × Int)) (lo hi : Nat) (w : World) (h : Reads w w.heap.size 2 B m (movsV M)) (hE : lifeE n M = 0) (hlo : lo ≤ hi) (hh : hi ≤ 1000) :
    Calls Tryd.prog 37 #[lifeV nm A n c B m d, .int .i64 (lo : Int), .int .i64 (hi : Int)] w fun E W' => ∃ go, E = .returned (.slice (some ⟨go, 0, none⟩) n n) ∧ Blk W' go 4 (boolV (outB M lo (hi + 1)) n) ∧ w.heap.size ≤ go ∧ Below w.heap.size w W' := by
  have hml := h.mov_len
  obtain ⟨hn1, hn12, hm32, hM⟩ := lifeE_ok hE
  obtain ⟨i0, hi0, hz0, hz1, hz2⟩ := info_parts info4b
  have b0 := (Below.refl w.heap.size w).alloc (Nat.le_refl _) (.cells #[.string nm, .slice A n c, .slice B m d] 50)
  have k0 := Blk.new w 50 #[.string nm, .slice A n c, .slice B m d]
  have hv := rValid_any nm A n c B m d M _ ((h.below b0).more b0.size) (by omega) (by omega)
  rw [hE] at hv
  have hmv := fun (s : Nat) W (hb : Below w.heap.size w W) => rMoves_any nm A n c B m d M (s : Int) W ((h.below hb).more hb.size) (by omega)
  have HV := Lib.hid hv
  have HMV := Lib.hid hmv
  have e0 : ((lo : Int) < 0) = False := by simp
  have hi1 : ¬ ((hi : Int) < (lo : Int)) := by omega
  have hi2 : ¬ ((1000 : Int) < (hi : Int)) := by omega
  have hi3 : decide (hi < lo) = false := decide_eq_false (by omega)
  have hi4 : decide ((1000 : Int) < (hi : Int)) = false := decide_eq_false hi2
  have HMM := Lib.hid hM
  clear hv hmv hM
  go_enter Tryd.func37, Tryd.ntmps37
  go_wp2_with fail
  generalize w.alloc (.cells #[.string nm, .slice A n c, .slice B m d] 50) = w0 at *
  refine HV.out.mono ?_
  rintro E w1 ⟨rfl, b1⟩
  have c1 := below_next b0 b1
  have j0 := k0.thru b1
  have l2 : w1.cell? ⟨w.heap.size, 1, none⟩ = some (.slice A n c) := j0.at_ rfl
  clear k0 b0 b1
  have j1 := j0.alloc (.cells (madeCells #[.bool false] n) 4)
  have l3 : (w1.alloc (.cells (madeCells #[.bool false] n) 4)).cell? ⟨w.heap.size, 1, none⟩ = some (.slice A n c) := j1.at_ rfl
  have hgo : w.heap.size < w1.heap.size := j0.lt
  have o1 := Blk.new w1 4 (madeCells #[.bool false] n)
  have c2 := c1.alloc c1.size (.cells (madeCells #[.bool false] n) 4)
  go_upto_region 4 with (at_make; refine wpList_make_row _ rfl _ _ 39 rfl 4 i0 (.bool false) Tryd.underlying39 hi0 hz0 hz1 rfl .i64 .i64 n rfl rfl (by rw [hz2]; omega) (by omega) ?_)
  generalize w1.alloc (.cells (madeCells #[.bool false] n) 4) = w2 at *
  generalize w1.heap.size = go at *
  clear l2 j0 c1
  have j2 := j1.alloc (.cells (madeCells #[.bool false] n) 4)
  have o2 := o1.alloc (.cells (madeCells #[.bool false] n) 4)
  have x2 := Blk.new w2 4 (madeCells #[.bool false] n)
  have c3 := c2.alloc c2.size (.cells (madeCells #[.bool false] n) 4)
  have hgx : go < w2.heap.size := o1.lt
  go_upto_region 5 with (at_make; refine wpList_make_row _ rfl _ _ 39 rfl 4 i0 (.bool false) Tryd.underlying39 hi0 hz0 hz1 rfl .i64 .i64 n rfl rfl (by rw [hz2]; omega) (by omega) ?_)
  generalize w2.alloc (.cells (madeCells #[.bool false] n) 4) = w3 at *
  generalize w2.heap.size = gx at *
  rw [← boolV_none] at o2 x2
  clear l3 j1 o1 c2
  have hn0 : (0 : Int) < (n : Int) := by omega
  have cx : w3.cell? ⟨gx, 0, none⟩ = some (.bool false) := x2.boolV_at hn1
  have fx := x2.frozen 0
  have hge : w.heap.size ≤ (⟨gx, 0, none⟩ : Addr).block := by show w.heap.size ≤ gx; omega
  have x3 := x2.set_ 0 (.bool true)
  rw [boolV_set _ hn1, boolV_ext (g' := reachB M 0) (fun i hi => by show (if i = 0 then true else false) = decide (i = 0); split <;> simp_all)] at x3
  have o3 := o2.far (p := ⟨gx, 0, none⟩) (show go ≠ gx by omega) (.bool true)
  have j3 := j2.far (p := ⟨gx, 0, none⟩) (show w.heap.size ≠ gx by omega) (.bool true)
  have c4 := c3.setCell hge (.bool true)
  have HX := Lib.hid (And.intro x3 (And.intro o3 (And.intro j3 c4)))
  have hgxx : w.heap.size < gx := by omega
  have hne : gx ≠ go := by omega
  clear x3 o3 j3 c4 x2 o2 j2 c3 hgx
  go_wp2_with fail
  go_loopw [8, 9] (fun v iv wr => ∃ (k gN : Nat), k ≤ hi + 1 ∧ iv = .int .i64 (k : Int) ∧ v = .slice (some ⟨gN, 0, none⟩) n n ∧ Blk wr gN 4 (boolV (reachB M k) n) ∧ Blk wr go 4 (boolV (outB M lo k) n) ∧ Blk wr w.heap.size 50 #[.string nm, .slice A n c, .slice B m d] ∧ Below w.heap.size w wr ∧ gN ≠ go ∧ w.heap.size < gN) (fun _ iv _ => hi + 1 - (intOf iv).toNat)
  case atStart =>
    obtain ⟨x3, o3, j3, c4⟩ := HX.out
    exact ⟨0, gx, by omega, rfl, rfl, x3, o3, j3, c4, hne, hgxx⟩
  case round =>
    clear HX cx fx hge hne hgxx
    obtain ⟨k, gN, hk, rfl, rfl, x, o, jb, hb, hne, hgN⟩ := hrel
    by_cases hlt : k ≤ hi
    · have hki : (k : Int) ≤ (hi : Int) := by omega
      have HK := Lib.hid (And.intro hk hlt)
      clear hk
      go_wp2_with fail
      go_loopw [10] (fun iv wr => ∃ j : Nat, j ≤ n ∧ iv = .int .i64 (j : Int) ∧ Blk wr go 4 (boolV (fun s => if s < j then seeB lo k (reachB M k) (outB M lo k) (deadB M) s else outB M lo k s) n) ∧ Blk wr gN 4 (boolV (reachB M k) n) ∧ Blk wr w.heap.size 50 #[.string nm, .slice A n c, .slice B m d] ∧ Below w.heap.size w wr) (fun iv _ => n - (intOf iv).toNat)
      case atStart => exact ⟨0, by omega, rfl, by rw [boolV_ext (g' := outB M lo k) (fun i hi => by rw [if_neg (by omega)])]; exact o, x, jb, hb⟩
      case round =>
        clear o x jb hb
        obtain ⟨j, hj, rfl, o, x, jb, hb⟩ := hrel
        by_cases hjn : j < n
        · have hji : (j : Int) < (n : Int) := by omega
          have hji0 : (0 : Int) ≤ (j : Int) := by omega
          have cx := x.boolV_at hjn
          have co := o.boolV_at hjn
          have fo := o.frozen j
          have hgo2 : w.heap.size ≤ (⟨go, j, none⟩ : Addr).block := by show w.heap.size ≤ go; omega
          have o3 := o.set_ j (.bool true)
          have x3 := x.far (p := ⟨go, j, none⟩) hne (.bool true)
          have j3 := jb.far (p := ⟨go, j, none⟩) (show w.heap.size ≠ go by omega) (.bool true)
          have c3 := hb.setCell hgo2 (.bool true)
          have HXX := Lib.hid (And.intro o3 (And.intro x3 (And.intro j3 c3)))
          have HO := Lib.hid o
          clear o3 x3 j3 c3 o
          have HSET : Hid (true = seeB lo k (reachB M k) (outB M lo k) (deadB M) j → (boolV (fun s => if s < j then seeB lo k (reachB M k) (outB M lo k) (deadB M) s else outB M lo k s) n).setIfInBounds j (.bool true) = boolV (fun s => if s < j + 1 then seeB lo k (reachB M k) (outB M lo k) (deadB M) s else outB M lo k s) n) := Lib.hid fun hv => seeB_set lo k _ _ _ hjn hv
          have HSAME : Hid (outB M lo k j = seeB lo k (reachB M k) (outB M lo k) (deadB M) j → Blk wr go 4 (boolV (fun s => if s < j + 1 then seeB lo k (reachB M k) (outB M lo k) (deadB M) s else outB M lo k s) n)) := Lib.hid fun hv => by rw [← see_same lo k _ _ _ hv]; exact HO.out
          cases hf : reachB M k j with
          | false =>
            rw [hf] at cx
            have HF := Lib.hid hf
            clear co hf
            go_wp2_with fail
            go_roundw
            case rel => exact ⟨j + 1, by omega, by go_num, HSAME.out (by unfold seeB; rw [HF.out]; simp), x, jb, hb⟩
            case measure => simp [intOf]; omega
          | true =>
            rw [hf] at cx
            have HF := Lib.hid hf
            clear hf
            by_cases hlk : lo ≤ k
            · have hlki : (lo : Int) ≤ (k : Int) := by omega
              have HLK := Lib.hid hlk
              clear hlk
              go_wp2_with fail
              go_roundw
              case rel =>
                obtain ⟨o3, x3, j3, c3⟩ := HXX.out
                rw [HSET.out (by unfold seeB; rw [HF.out, decide_eq_true HLK.out]; simp)] at o3
                exact ⟨j + 1, by omega, by go_num, o3, x3, j3, c3⟩
              case measure => simp [intOf]; omega
            · have hlki : decide (lo ≤ k) = false := decide_eq_false hlk
              have HLK := Lib.hid hlk
              clear hlk
              have q0 : wr.cell? ⟨w.heap.size, 0, none⟩ = some (.string nm) := jb.at_ rfl
              have q1 : wr.cell? ⟨w.heap.size, 1, none⟩ = some (.slice A n c) := jb.at_ rfl
              have q2 : wr.cell? ⟨w.heap.size, 2, none⟩ = some (.slice B m d) := jb.at_ rfl
              go_wp2_with fail
              refine (HMV.out j wr hb).mono ?_
              rintro E w4 ⟨v, rfl, ov, b4⟩
              obtain ⟨A4, c4', rfl, -, -, -⟩ := own_slice ov
              have o4 := HO.out.thru b4
              have x4 := x.thru b4
              have j4 := jb.thru b4
              have hb4 := below_next hb b4
              have co4 := o4.boolV_at hjn
              have fo4 := o4.frozen j
              have o5 := o4.set_ j (.bool true)
              have x5 := x4.far (p := ⟨go, j, none⟩) hne (.bool true)
              have j5 := j4.far (p := ⟨go, j, none⟩) (show w.heap.size ≠ go by omega) (.bool true)
              have c5 := hb4.setCell (p := ⟨go, j, none⟩) hgo2 (.bool true)
              have HYY := Lib.hid (And.intro o5 (And.intro x5 (And.intro j5 c5)))
              have HZZ := Lib.hid (And.intro o4 (And.intro x4 (And.intro j4 hb4)))
              have hnil := mv_nil (M := M) (s := j)
              clear o5 x5 j5 c5 ov q0 q1 q2 cx co o4 x4 j4 hb4
              cases hd : deadB M j with
              | true =>
                rw [hd] at hnil
                have HD := Lib.hid hd
                clear hd
                go_wp2_with fail
                go_roundw
                case rel =>
                  obtain ⟨o3, x3, j3, c3⟩ := HYY.out
                  rw [HSET.out (by unfold seeB; rw [HF.out, HD.out]; simp)] at o3
                  exact ⟨j + 1, by omega, by go_num, o3, x3, j3, c3⟩
                case measure => simp [intOf]; omega
              | false =>
                rw [hd] at hnil
                have HD := Lib.hid hd
                clear hd
                go_wp2_with fail
                go_roundw
                case rel =>
                  obtain ⟨o3, x3, j3, c3⟩ := HZZ.out
                  rw [see_same lo k _ _ _ (by unfold seeB; rw [HF.out, HD.out, decide_eq_false HLK.out]; simp)] at o3
                  exact ⟨j + 1, by omega, by go_num, o3, x3, j3, c3⟩
                case measure => simp [intOf]; omega
        · obtain rfl : j = n := by omega
          have hji : ¬ (j : Int) < (j : Int) := by omega
          have l1 : wr.cell? ⟨w.heap.size, 1, none⟩ = some (.slice A j c) := jb.at_ rfl
          rw [boolV_ext (g' := outB M lo (k + 1)) (fun i hi => by rw [if_pos hi]; rfl)] at o
          have hgx : w.heap.size < wr.heap.size := jb.lt
          have hgn2 : gN < wr.heap.size := x.lt
          have hgo3 : go < wr.heap.size := o.lt
          have j2 := jb.alloc (.cells (madeCells #[.bool false] j) 4)
          have o2 := o.alloc (.cells (madeCells #[.bool false] j) 4)
          have x2 := x.alloc (.cells (madeCells #[.bool false] j) 4)
          have y2 := Blk.new wr 4 (madeCells #[.bool false] j)
          have c3 := hb.alloc hb.size (.cells (madeCells #[.bool false] j) 4)
          go_upto_region 15 with (at_make; refine wpList_make_row _ rfl _ _ 39 rfl 4 i0 (.bool false) Tryd.underlying39 hi0 hz0 hz1 rfl .i64 .i64 j rfl rfl (by rw [hz2]; omega) (by omega) ?_)
          generalize wr.alloc (.cells (madeCells #[.bool false] j) 4) = w5 at *
          generalize wr.heap.size = gy at *
          rw [← boolV_none] at y2
          clear jb o x hb l1
          go_wp2_with fail
          go_loopw [12] (fun iv wr => ∃ q : Nat, q ≤ m ∧ iv = .int .i64 (q : Int) ∧ Blk wr gy 4 (boolV (stepB M (reachB M k) q) j) ∧ Blk wr go 4 (boolV (outB M lo (k + 1)) j) ∧ Blk wr gN 4 (boolV (reachB M k) j) ∧ Blk wr w.heap.size 50 #[.string nm, .slice A j c, .slice B m d] ∧ Below w.heap.size w wr) (fun iv _ => m - (intOf iv).toNat)
          case atStart => exact ⟨0, by omega, rfl, y2, o2, x2, j2, c3⟩
          case round =>
            clear y2 o2 x2 j2 c3
            obtain ⟨q, hq, rfl, y, o, x, jb, hb⟩ := hrel
            have p2 : wr.cell? ⟨w.heap.size, 2, none⟩ = some (.slice B m d) := jb.at_ rfl
            by_cases hqm : q < m
            · have hqi : (q : Int) < (m : Int) := by omega
              obtain ⟨ad3, a, b, hB3, had3, hmk, ca, cb⟩ := (h.below hb).mov_at hqm
              subst hB3
              obtain ⟨ha0, ha1, hb0, hb1⟩ := HMM.out a b (List.mem_of_getElem? hmk)
              obtain ⟨α, rfl⟩ := Int.eq_ofNat_of_zero_le ha0
              obtain ⟨β, rfl⟩ := Int.eq_ofNat_of_zero_le hb0
              have hα : α < j := by omega
              have hβ : β < j := by omega
              have cx := x.boolV_at hα
              have cy := y.boolV_at hβ
              have fy := y.frozen β
              have HMK := Lib.hid hmk
              have HJ := Lib.hid (And.intro hgx (And.intro hgn2 hgo3))
              clear hmk
              cases hf : reachB M k α with
              | true =>
                rw [hf] at cx
                have y3 := y.set_ β (.bool true)
                rw [boolV_step HMK.out _ hf hβ] at y3
                have o3 := o.far (p := ⟨gy, β, none⟩) (show go ≠ gy by omega) (.bool true)
                have x3 := x.far (p := ⟨gy, β, none⟩) (show gN ≠ gy by omega) (.bool true)
                have j3 := jb.far (p := ⟨gy, β, none⟩) (show w.heap.size ≠ gy by omega) (.bool true)
                have c3 := hb.setCell (p := ⟨gy, β, none⟩) (show w.heap.size ≤ gy by omega) (.bool true)
                have HW := Lib.hid (And.intro y3 (And.intro o3 (And.intro x3 (And.intro j3 c3))))
                clear y3 o3 x3 j3 c3 hf
                go_wp2_with fail
                go_roundw
                case rel =>
                  obtain ⟨y3, o3, x3, j3, c3⟩ := HW.out
                  exact ⟨q + 1, by omega, by go_num, y3, o3, x3, j3, c3⟩
                case measure => simp [intOf]; omega
              | false =>
                rw [hf] at cx
                have y3 := y
                rw [← boolV_same HMK.out _ hf] at y3
                have HW := Lib.hid y3
                clear y3 hf
                go_wp2_with fail
                go_roundw
                case rel => exact ⟨q + 1, by omega, by go_num, HW.out, o, x, jb, hb⟩
                case measure => simp [intOf]; omega
            · obtain rfl : q = m := by omega
              have hqi : ¬ (q : Int) < (q : Int) := by omega
              have y3 := y
              rw [boolV_ext (g' := reachB M (k + 1)) (fun i hi => by rw [← hml]; exact stepB_all M k i)] at y3
              have HW := Lib.hid (And.intro y3 (And.intro o (And.intro jb hb)))
              have hkk := HK.out
              clear y3 y
              go_wp2_with fail
              go_roundw
              case rel =>
                obtain ⟨y3, o3, j3, c3⟩ := HW.out
                exact ⟨k + 1, gy, by omega, by go_num, rfl, y3, o3, j3, c3, by omega, by omega⟩
              case measure => simp [intOf]; omega
    · obtain rfl : k = hi + 1 := by omega
      have hki : ¬ ((hi + 1 : Nat) : Int) ≤ (hi : Int) := by omega
      have hki2 : decide (hi + 1 ≤ hi) = false := decide_eq_false (by omega)
      go_wp2_with fail
      go_ret
      exact ⟨go, rfl, o, by omega, hb⟩
/-- a move of the first j leads from a state with N moves to s -/
def mvB (M : List (Int × Int)) (f : Nat → Int) (N j s : Nat) : Bool := (M.take j).any fun p => decide (f p.1.toNat = (N : Int)) && decide (p.2 = (s : Int))
/-- the fewest moves while round N runs -/
def lstJ (M : List (Int × Int)) (f : Nat → Int) (N j s : Nat) : Int := if decide (f s < 0) && mvB M f N j s then (N : Int) + 1 else f s
theorem mvB_succ {M : List (Int × Int)} {j α β : Nat} (h : M[j]? = some ((α : Int), (β : Int))) (f : Nat → Int) (N s : Nat) : mvB M f N (j + 1) s = (mvB M f N j s || (decide (f α = (N : Int)) && decide (β = s))) := by
  unfold mvB
  rw [List.take_add_one, h, Option.toList_some, List.any_append]
  simp only [List.any_cons, List.any_nil, Bool.or_false, Int.toNat_natCast]
  congr 2
  rw [decide_eq_decide]
  omega
theorem lstJ_zero (M : List (Int × Int)) (f : Nat → Int) (N s : Nat) : lstJ M f N 0 s = f s := by
  unfold lstJ mvB
  simp
theorem lstJ_at (M : List (Int × Int)) (f : Nat → Int) (N j s : Nat) (hf : -1 ≤ f s) : (lstJ M f N j s = (N : Int) ↔ f s = (N : Int)) := by
  unfold lstJ
  by_cases h : (decide (f s < 0) && mvB M f N j s) = true
  · rw [if_pos h]
    rw [Bool.and_eq_true, decide_eq_true_eq] at h
    omega
  · rw [if_neg h]
theorem lstJ_neg (M : List (Int × Int)) (f : Nat → Int) (N j s : Nat) : (lstJ M f N j s < 0 ↔ f s < 0 ∧ mvB M f N j s = false) := by
  unfold lstJ
  by_cases h : (decide (f s < 0) && mvB M f N j s) = true
  · rw [if_pos h]
    rw [Bool.and_eq_true, decide_eq_true_eq] at h
    rw [h.2]
    constructor
    · intro h2; omega
    · rintro ⟨-, h2⟩; cases h2
  · rw [if_neg h]
    constructor
    · intro h2
      refine ⟨h2, ?_⟩
      rw [decide_eq_true h2, Bool.true_and] at h
      simpa using h
    · exact fun h2 => h2.1
theorem lstJ_set {M : List (Int × Int)} {j n N α β : Nat} (h : M[j]? = some ((α : Int), (β : Int))) (f : Nat → Int) (hf : -1 ≤ f α) (h1 : lstJ M f N j α = (N : Int)) (h2 : lstJ M f N j β < 0) (hb : β < n) : (rowI (lstJ M f N j) n).setIfInBounds β (.int .i64 ((N : Int) + 1)) = rowI (lstJ M f N (j + 1)) n := by
  rw [rowI_set _ hb]
  refine rowI_ext fun s hs => ?_
  have e1 := (lstJ_at M f N j α hf).1 h1
  have e2 := (lstJ_neg M f N j β).1 h2
  have e3 := mvB_succ h f N s
  rw [decide_eq_true e1, Bool.true_and] at e3
  by_cases e : s = β
  · subst e
    rw [if_pos rfl]
    unfold lstJ
    rw [e3, decide_eq_true e2.1, decide_eq_true (rfl : s = s)]
    simp
  · rw [if_neg e]
    unfold lstJ
    rw [e3, decide_eq_false (show ¬ β = s from fun h => e h.symm), Bool.or_false]
theorem lstJ_same {M : List (Int × Int)} {j n N α β : Nat} (h : M[j]? = some ((α : Int), (β : Int))) (f : Nat → Int) (hf : -1 ≤ f α) (h1 : ¬ (lstJ M f N j α = (N : Int) ∧ lstJ M f N j β < 0)) : rowI (lstJ M f N (j + 1)) n = rowI (lstJ M f N j) n := by
  refine rowI_ext fun s hs => ?_
  have e3 := mvB_succ h f N s
  unfold lstJ
  rw [e3]
  by_cases ea : f α = (N : Int)
  · by_cases e : β = s
    · subst e
      have h2 : ¬ lstJ M f N j β < 0 := fun h2 => h1 ⟨(lstJ_at M f N j α hf).2 ea, h2⟩
      rw [lstJ_neg] at h2
      cases hm : mvB M f N j β with
      | true => simp
      | false =>
        have : ¬ f β < 0 := fun h3 => h2 ⟨h3, hm⟩
        rw [decide_eq_false this]
        simp
    · rw [decide_eq_false e, Bool.and_false, Bool.or_false]
  · rw [decide_eq_false ea, Bool.false_and, Bool.or_false]
theorem lstJ_all {M : List (Int × Int)} (N s : Nat) : lstJ M (lst M (N + 1)) N M.length s = lst M (N + 2) s := by
  show _ = lsee (N + 1) (reachB M (N + 1)) (lst M (N + 1)) s
  unfold lstJ lsee
  by_cases hs : lst M (N + 1) s < 0
  · rw [decide_eq_true hs, Bool.true_and, Bool.and_true]
    have key : mvB M (lst M (N + 1)) N M.length s = reachB M (N + 1) s := by
      rw [Bool.eq_iff_iff, reach_step]
      unfold mvB
      rw [List.take_length, List.any_eq_true]
      have hno : ∀ i, i < N + 1 → reachB M i s = false := by
        rcases lst_spec M s (N + 1) with h | ⟨i, -, h, -⟩
        · exact h.2
        · omega
      constructor
      · rintro ⟨⟨a, b⟩, hab, h⟩
        simp only [Bool.and_eq_true, decide_eq_true_eq] at h
        refine ⟨a, b, hab, ?_, h.2⟩
        rcases lst_spec M a.toNat (N + 1) with h2 | ⟨i, -, h2, h3, -⟩
        · omega
        · have : i = N := by omega
          subst this
          exact h3
      · rintro ⟨a, b, hab, hr, hb⟩
        refine ⟨(a, b), hab, ?_⟩
        simp only [Bool.and_eq_true, decide_eq_true_eq]
        refine ⟨?_, hb⟩
        rcases lst_spec M a.toNat (N + 1) with h2 | ⟨i, hi, h2, h3, -⟩
        · rw [h2.2 N (by omega)] at hr
          cases hr
        · by_cases e : i = N
          · rw [h2, e]
          · have h4 : reachB M (i + 1) s = true := reach_step.2 ⟨a, b, hab, h3, hb⟩
            rw [hno (i + 1) (by omega)] at h4
            cases h4
    rw [key]
    by_cases h : reachB M (N + 1) s = true
    · rw [if_pos h, if_pos h]; omega
    · rw [if_neg h, if_neg h]
  · rw [decide_eq_false hs, Bool.false_and, Bool.and_false]
    rfl
theorem rowI_none (n : Nat) : rowI (fun _ => 0) n = madeCells #[.int .i64 0] n := by
  apply Array.ext_getElem?
  intro i
  by_cases h : i < n
  · rw [rowI_get _ h]
    unfold madeCells
    simp [h, Nat.mod_one]
  · rw [Array.getElem?_eq_none (by rw [rowI_size]; omega), Array.getElem?_eq_none (by unfold madeCells; simp; omega)]
set_option maxRecDepth 100000 in
set_option maxHeartbeats 16000000 in
theorem rLeast_any (nm : ByteArray) (A : Option Addr) (n c : Nat) (B : Option Addr) (m d : Nat) (M : List (Int × Int)) (w : World) (h : Reads w w.heap.size 2 B m (movsV M)) (hE : lifeE n M = 0) :
    Calls Tryd.prog 39 #[lifeV nm A n c B m d] w fun E W' => ∃ go, E = .returned (.slice (some ⟨go, 0, none⟩) n n) ∧ Blk W' go 3 (rowI (lst M (n + 1)) n) ∧ w.heap.size ≤ go ∧ Below w.heap.size w W' := by
  have hml := h.mov_len
  obtain ⟨hn1, hn12, hm32, hM⟩ := lifeE_ok hE
  obtain ⟨i0, hi0, hz0, hz1, hz2⟩ := info_parts info_i64
  have b0 := (Below.refl w.heap.size w).alloc (Nat.le_refl _) (.cells #[.string nm, .slice A n c, .slice B m d] 50)
  have k0 := Blk.new w 50 #[.string nm, .slice A n c, .slice B m d]
  have hv := rValid_any nm A n c B m d M _ ((h.below b0).more b0.size) (by omega) (by omega)
  rw [hE] at hv
  have HV := Lib.hid hv
  have HMM := Lib.hid hM
  clear hv hM
  go_enter Tryd.func39, Tryd.ntmps39
  go_wp2_with fail
  generalize w.alloc (.cells #[.string nm, .slice A n c, .slice B m d] 50) = w0 at *
  refine HV.out.mono ?_
  rintro E w1 ⟨rfl, b1⟩
  have c1 := below_next b0 b1
  have j0 := k0.thru b1
  have l2 : w1.cell? ⟨w.heap.size, 1, none⟩ = some (.slice A n c) := j0.at_ rfl
  clear k0 b0 b1
  have j1 := j0.alloc (.cells (madeCells #[.int .i64 0] n) 3)
  have hgo : w.heap.size < w1.heap.size := j0.lt
  have o1 := Blk.new w1 3 (madeCells #[.int .i64 0] n)
  have c2 := c1.alloc c1.size (.cells (madeCells #[.int .i64 0] n) 3)
  go_upto_region 4 with (at_make; refine wpList_make_row _ rfl _ _ 22 rfl 3 i0 (.int .i64 0) Tryd.underlying22 hi0 hz0 hz1 rfl .i64 .i64 n rfl rfl (by rw [hz2]; omega) (by omega) ?_)
  generalize w1.alloc (.cells (madeCells #[.int .i64 0] n) 3) = w2 at *
  generalize w1.heap.size = go at *
  rw [← rowI_none] at o1
  clear l2 j0 c1
  go_wp2_with fail
  go_loopw [4] (fun iv wr => ∃ j : Nat, 1 ≤ j ∧ j ≤ n ∧ iv = .int .i64 (j : Int) ∧ Blk wr go 3 (rowI (fun s => if 1 ≤ s ∧ s < j then -1 else 0) n) ∧ Blk wr w.heap.size 50 #[.string nm, .slice A n c, .slice B m d] ∧ Below w.heap.size w wr) (fun iv _ => n - (intOf iv).toNat)
  case atStart => exact ⟨1, by omega, hn1, rfl, by rw [rowI_ext (g := fun _ => 0) (fun i hi => by rw [if_neg (by omega)])]; exact o1, j1, c2⟩
  case round =>
    clear o1 j1 c2
    obtain ⟨j, hj1, hj, rfl, o, jb, hb⟩ := hrel
    by_cases hjn : j < n
    · have hji : (j : Int) < (n : Int) := by omega
      have hji0 : (0 : Int) ≤ (j : Int) := by omega
      have co := o.rowI_at hjn
      have fo := o.frozen j
      have o3 := o.set_ j (.int .i64 (-1))
      rw [rowI_set _ hjn, rowI_ext (g := fun s => if 1 ≤ s ∧ s < j + 1 then -1 else 0) (fun s hs => by
        by_cases e : s = j
        · rw [if_pos e, if_pos (by omega)]
        · rw [if_neg e]
          by_cases e2 : 1 ≤ s ∧ s < j
          · rw [if_pos e2, if_pos (by omega)]
          · rw [if_neg e2, if_neg (by omega)])] at o3
      have j3 := jb.far (p := ⟨go, j, none⟩) (show w.heap.size ≠ go by omega) (.int .i64 (-1))
      have c3 := hb.setCell (p := ⟨go, j, none⟩) (show w.heap.size ≤ go by omega) (.int .i64 (-1))
      have HX := Lib.hid (And.intro o3 (And.intro j3 c3))
      clear o3 j3 c3
      go_wp2_with fail
      go_roundw
      case rel =>
        obtain ⟨o3, j3, c3⟩ := HX.out
        exact ⟨j + 1, by omega, by omega, by go_num, o3, j3, c3⟩
      case measure => simp [intOf]; omega
    · obtain rfl : j = n := by omega
      have hji : ¬ (j : Int) < (j : Int) := by omega
      rw [rowI_ext (g := lst M 1) (fun s hs => by
        show _ = lsee 0 (reachB M 0) (lst M 0) s
        unfold lsee
        show _ = if decide (s = 0) && decide ((-1 : Int) < 0) then ((0 : Nat) : Int) else -1
        by_cases e : s = 0
        · rw [if_neg (by omega), if_pos (by simp [e])]; rfl
        · rw [if_pos (by omega), if_neg (by simp [e])])] at o
      have HX := Lib.hid (And.intro o (And.intro jb hb))
      clear o jb hb
      go_wp2_with fail
      go_loopw [5] (fun iv wr => ∃ N : Nat, N ≤ j ∧ iv = .int .i64 (N : Int) ∧ Blk wr go 3 (rowI (lst M (N + 1)) j) ∧ Blk wr w.heap.size 50 #[.string nm, .slice A j c, .slice B m d] ∧ Below w.heap.size w wr) (fun iv _ => j - (intOf iv).toNat)
      case atStart => exact ⟨0, by omega, rfl, HX.out.1, HX.out.2.1, HX.out.2.2⟩
      case round =>
        clear HX
        obtain ⟨N, hN, rfl, o, jb, hb⟩ := hrel
        by_cases hNn : N < j
        · have hNi : (N : Int) < (j : Int) := by omega
          have hNw : IntKind.i64.wrap ((N : Int) + 1) = (N : Int) + 1 := by rw [IntKind.wrap_i64]; omega
          have hge := lst_ge M (N + 1)
          have HGE := Lib.hid hge
          have o0 : Blk wr go 3 (rowI (lstJ M (lst M (N + 1)) N 0) j) := by rw [rowI_ext (g := lst M (N + 1)) (fun s hs => lstJ_zero _ _ _ _)]; exact o
          have hfin : ∀ W, Blk W go 3 (rowI (lstJ M (lst M (N + 1)) N m) j) → Blk W go 3 (rowI (lst M (N + 2)) j) := fun W hW => by
            rw [rowI_ext (g := lst M (N + 2)) (fun s hs => by rw [← hml]; exact lstJ_all N s)] at hW
            exact hW
          have HFIN := Lib.hid hfin
          obtain ⟨f, hf⟩ : ∃ f, f = lst M (N + 1) := ⟨_, rfl⟩
          rw [← hf] at o0 HFIN HGE
          clear o hfin hge hf
          go_wp2_with fail
          go_loopw [6] (fun iv wr => ∃ q : Nat, q ≤ m ∧ iv = .int .i64 (q : Int) ∧ Blk wr go 3 (rowI (lstJ M f N q) j) ∧ Blk wr w.heap.size 50 #[.string nm, .slice A j c, .slice B m d] ∧ Below w.heap.size w wr) (fun iv _ => m - (intOf iv).toNat)
          case atStart => exact ⟨0, by omega, rfl, o0, jb, hb⟩
          case round =>
            clear o0 jb hb
            obtain ⟨q, hq, rfl, o, jb, hb⟩ := hrel
            have p2 : wr.cell? ⟨w.heap.size, 2, none⟩ = some (.slice B m d) := jb.at_ rfl
            by_cases hqm : q < m
            · have hqi : (q : Int) < (m : Int) := by omega
              obtain ⟨ad3, a, b, hB3, had3, hmk, ca, cb⟩ := (h.below hb).mov_at hqm
              subst hB3
              obtain ⟨ha0, ha1, hb0, hb1⟩ := HMM.out a b (List.mem_of_getElem? hmk)
              obtain ⟨α, rfl⟩ := Int.eq_ofNat_of_zero_le ha0
              obtain ⟨β, rfl⟩ := Int.eq_ofNat_of_zero_le hb0
              have hα : α < j := by omega
              have hβ : β < j := by omega
              have cα := o.rowI_at hα
              have cβ := o.rowI_at hβ
              have fβ := o.frozen β
              have HMK := Lib.hid hmk
              have HO := Lib.hid o
              have o3 := o.set_ β (.int .i64 ((N : Int) + 1))
              have j3 := jb.far (p := ⟨go, β, none⟩) (show w.heap.size ≠ go by omega) (.int .i64 ((N : Int) + 1))
              have c3 := hb.setCell (p := ⟨go, β, none⟩) (show w.heap.size ≤ go by omega) (.int .i64 ((N : Int) + 1))
              have HX := Lib.hid (And.intro o3 (And.intro j3 c3))
              have HSET : Hid (lstJ M f N q α = (N : Int) → lstJ M f N q β < 0 → (rowI (lstJ M f N q) j).setIfInBounds β (.int .i64 ((N : Int) + 1)) = rowI (lstJ M f N (q + 1)) j) := Lib.hid fun h1 h2 => lstJ_set HMK.out f (HGE.out α) h1 h2 hβ
              have HSAME : Hid (¬ (lstJ M f N q α = (N : Int) ∧ lstJ M f N q β < 0) → Blk wr go 3 (rowI (lstJ M f N (q + 1)) j)) := Lib.hid fun h1 => by rw [lstJ_same HMK.out f (HGE.out α) h1]; exact HO.out
              obtain ⟨va, hva⟩ : ∃ va, va = lstJ M f N q α := ⟨_, rfl⟩
              obtain ⟨vb, hvb⟩ : ∃ vb, vb = lstJ M f N q β := ⟨_, rfl⟩
              rw [← hva] at cα HSET HSAME
              rw [← hvb] at cβ HSET HSAME
              clear hmk o o3 j3 c3 hva hvb
              by_cases e1 : va = (N : Int)
              · have e1b : (va == (N : Int)) = true := by rw [beq_iff_eq]; exact e1
                have E1 := Lib.hid e1
                clear e1
                by_cases e2 : vb < 0
                · have E2 := Lib.hid e2
                  go_wp2_with fail
                  go_roundw
                  case rel =>
                    obtain ⟨o3, j3, c3⟩ := HX.out
                    rw [HSET.out E1.out E2.out] at o3
                    exact ⟨q + 1, by omega, by go_num, o3, j3, c3⟩
                  case measure => simp [intOf]; omega
                · have e2b : decide (vb < 0) = false := decide_eq_false e2
                  have E2 := Lib.hid e2
                  go_wp2_with fail
                  go_roundw
                  case rel => exact ⟨q + 1, by omega, by go_num, HSAME.out (fun h => E2.out h.2), jb, hb⟩
                  case measure => simp [intOf]; omega
              · have e1b : (va == (N : Int)) = false := by rw [beq_eq_false_iff_ne]; exact e1
                have E1 := Lib.hid e1
                clear e1
                go_wp2_with fail
                go_roundw
                case rel => exact ⟨q + 1, by omega, by go_num, HSAME.out (fun h => E1.out h.1), jb, hb⟩
                case measure => simp [intOf]; omega
            · obtain rfl : q = m := by omega
              have hqi : ¬ (q : Int) < (q : Int) := by omega
              have HX := Lib.hid (HFIN.out wr o)
              clear o
              go_wp2_with fail
              go_roundw
              case rel => exact ⟨N + 1, by omega, by go_num, HX.out, jb, hb⟩
              case measure => simp [intOf]; omega
        · obtain rfl : N = j := by omega
          have hNi : ¬ (N : Int) < (N : Int) := by omega
          go_wp2_with fail
          go_ret
          exact ⟨go, rfl, o, by omega, hb⟩
set_option maxRecDepth 100000 in
set_option maxHeartbeats 8000000 in
theorem reach_no (nm : ByteArray) (A : Option Addr) (n c : Nat) (B : Option Addr) (m d : Nat) (M : List (Int × Int)) (lo hi : Int) (w : World) (h : Reads w w.heap.size 2 B m (movsV M)) (hn : n ≤ 1000000) (hm : m ≤ 1000000) (hbad : lifeE n M ≠ 0 ∨ lo < 0 ∨ hi < lo ∨ 1000 < hi) :
    Calls Tryd.prog 36 #[lifeV nm A n c B m d, .int .i64 lo, .int .i64 hi] w fun E W' => E = .returned (.slice none 0 0) ∧ Below w.heap.size w W' := by
  have b0 : Below w.heap.size w ((w.alloc (.cells #[.string nm, .slice A n c, .slice B m d] 50)).alloc (.cells #[.int .i64 lo] 3)) := ((Below.refl w.heap.size w).alloc (Nat.le_refl _) _).alloc (by simp) _
  have k1 : Blk ((w.alloc (.cells #[.string nm, .slice A n c, .slice B m d] 50)).alloc (.cells #[.int .i64 lo] 3)) (w.heap.size + 1) 3 #[.int .i64 lo] := Blk.new' (by simp)
  have hv := lifeValid_any nm A n c B m d M _ ((h.below b0).more b0.size) hn hm
  have HV := Lib.hid hv
  clear hv
  go_enter Tryd.func36, Tryd.ntmps36
  go_wp2_with fail
  generalize (w.alloc (.cells #[.string nm, .slice A n c, .slice B m d] 50)).alloc (.cells #[.int .i64 lo] 3) = w0 at *
  refine HV.out.mono ?_
  rintro E w1 ⟨rfl, b1⟩
  have c1 := below_next b0 b1
  have l1 : w1.cell? ⟨w.heap.size + 1, 0, none⟩ = some (.int .i64 lo) := (k1.thru b1).at_ rfl
  clear HV k1 b0 b1
  by_cases hE : lifeE n M = 0
  · rw [hE]
    by_cases h1 : lo < 0
    · go_wp2_with fail
      go_ret
      exact ⟨rfl, c1⟩
    · have h1' : decide (lo < 0) = false := decide_eq_false h1
      by_cases h2 : hi < lo
      · go_wp2_with fail
        go_ret
        exact ⟨rfl, c1⟩
      · have h2' : decide (hi < lo) = false := decide_eq_false h2
        have h3 : 1000 < hi := by omega
        go_wp2_with fail
        go_ret
        exact ⟨rfl, c1⟩
  · have hE2 : (lifeE n M != 0) = true := by simpa using hE
    go_wp2_with fail
    go_ret
    exact ⟨rfl, c1⟩
set_option maxRecDepth 100000 in
set_option maxHeartbeats 8000000 in
theorem rReach_no (nm : ByteArray) (A : Option Addr) (n c : Nat) (B : Option Addr) (m d : Nat) (M : List (Int × Int)) (lo hi : Int) (w : World) (h : Reads w w.heap.size 2 B m (movsV M)) (hn : n ≤ 1000000) (hm : m ≤ 1000000) (hbad : lifeE n M ≠ 0 ∨ lo < 0 ∨ hi < lo ∨ 1000 < hi) :
    Calls Tryd.prog 37 #[lifeV nm A n c B m d, .int .i64 lo, .int .i64 hi] w fun E W' => E = .returned (.slice none 0 0) ∧ Below w.heap.size w W' := by
  have b0 := (Below.refl w.heap.size w).alloc (Nat.le_refl _) (.cells #[.string nm, .slice A n c, .slice B m d] 50)
  have hv := rValid_any nm A n c B m d M _ ((h.below b0).more b0.size) hn hm
  have HV := Lib.hid hv
  clear hv
  go_enter Tryd.func37, Tryd.ntmps37
  go_wp2_with fail
  generalize w.alloc (.cells #[.string nm, .slice A n c, .slice B m d] 50) = w0 at *
  refine HV.out.mono ?_
  rintro E w1 ⟨rfl, b1⟩
  have c1 := below_next b0 b1
  clear HV b0 b1
  by_cases hE : lifeE n M = 0
  · rw [hE]
    by_cases h1 : lo < 0
    · go_wp2_with fail
      go_ret
      exact ⟨rfl, c1⟩
    · have h1' : decide (lo < 0) = false := decide_eq_false h1
      by_cases h2 : hi < lo
      · go_wp2_with fail
        go_ret
        exact ⟨rfl, c1⟩
      · have h2' : decide (hi < lo) = false := decide_eq_false h2
        have h3 : 1000 < hi := by omega
        go_wp2_with fail
        go_ret
        exact ⟨rfl, c1⟩
  · have hE2 : (lifeE n M != 0) = true := by simpa using hE
    go_wp2_with fail
    go_ret
    exact ⟨rfl, c1⟩
set_option maxRecDepth 100000 in
theorem least_no (nm : ByteArray) (A : Option Addr) (n c : Nat) (B : Option Addr) (m d : Nat) (M : List (Int × Int)) (w : World) (h : Reads w w.heap.size 2 B m (movsV M)) (hn : n ≤ 1000000) (hm : m ≤ 1000000) (hE : lifeE n M ≠ 0) :
    Calls Tryd.prog 38 #[lifeV nm A n c B m d] w fun E W' => E = .returned (.slice none 0 0) ∧ Below w.heap.size w W' := by
  have b0 := (Below.refl w.heap.size w).alloc (Nat.le_refl _) (.cells #[.string nm, .slice A n c, .slice B m d] 50)
  have hv := lifeValid_any nm A n c B m d M _ ((h.below b0).more b0.size) hn hm
  have HV := Lib.hid hv
  have hE2 : (lifeE n M != 0) = true := by simpa using hE
  clear hv
  go_enter Tryd.func38, Tryd.ntmps38
  go_wp2_with fail
  refine HV.out.mono ?_
  rintro E w1 ⟨rfl, b1⟩
  go_wp2_with fail
  go_ret
  exact ⟨rfl, below_next b0 b1⟩
set_option maxRecDepth 100000 in
theorem rLeast_no (nm : ByteArray) (A : Option Addr) (n c : Nat) (B : Option Addr) (m d : Nat) (M : List (Int × Int)) (w : World) (h : Reads w w.heap.size 2 B m (movsV M)) (hn : n ≤ 1000000) (hm : m ≤ 1000000) (hE : lifeE n M ≠ 0) :
    Calls Tryd.prog 39 #[lifeV nm A n c B m d] w fun E W' => E = .returned (.slice none 0 0) ∧ Below w.heap.size w W' := by
  have b0 := (Below.refl w.heap.size w).alloc (Nat.le_refl _) (.cells #[.string nm, .slice A n c, .slice B m d] 50)
  have hv := rValid_any nm A n c B m d M _ ((h.below b0).more b0.size) hn hm
  have HV := Lib.hid hv
  have hE2 : (lifeE n M != 0) = true := by simpa using hE
  clear hv
  go_enter Tryd.func39, Tryd.ntmps39
  go_wp2_with fail
  refine HV.out.mono ?_
  rintro E w1 ⟨rfl, b1⟩
  go_wp2_with fail
  go_ret
  exact ⟨rfl, below_next b0 b1⟩
/-- what Reach gives -/
def reachL (n : Nat) (M : List (Int × Int)) (lo hi : Int) : List Bool :=
  if lifeE n M ≠ 0 ∨ lo < 0 ∨ hi < lo ∨ 1000 < hi then [] else rngB (outB M lo.toNat (hi.toNat + 1)) n
/-- what Least gives -/
def leastL (n : Nat) (M : List (Int × Int)) : List Int :=
  if lifeE n M ≠ 0 then [] else (List.range n).map (lst M (n + 1))
theorem reads_none (W : World) (b s : Nat) : Reads W b s none 0 [] := Reads.nil_ W b s none
theorem reach_w (nm : ByteArray) (A : Option Addr) (n c : Nat) (B : Option Addr) (m d : Nat) (M : List (Int × Int)) (lo hi : Int) (w : World) (h : Reads w w.heap.size 2 B m (movsV M)) (hn : n ≤ 1000000) (hm : m ≤ 1000000) :
    Calls Tryd.prog 36 #[lifeV nm A n c B m d, .int .i64 lo, .int .i64 hi] w fun E W' => ∃ C k ck, E = .returned (.slice C k ck) ∧ Reads W' W'.heap.size 1 C k (bools (reachL n M lo hi)) ∧ k ≤ 1000000 ∧ Below w.heap.size w W' := by
  by_cases hb : lifeE n M ≠ 0 ∨ lo < 0 ∨ hi < lo ∨ 1000 < hi
  · refine (reach_no nm A n c B m d M lo hi w h hn hm hb).mono ?_
    rintro E w1 ⟨rfl, b1⟩
    exact ⟨none, 0, 0, rfl, by unfold reachL; rw [if_pos hb]; exact reads_none _ _ _, by omega, b1⟩
  · have hE : lifeE n M = 0 := Decidable.byContradiction fun e => hb (.inl e)
    obtain ⟨x, rfl⟩ := Int.eq_ofNat_of_zero_le (show 0 ≤ lo by omega)
    obtain ⟨y, rfl⟩ := Int.eq_ofNat_of_zero_le (show 0 ≤ hi by omega)
    refine (reach_any nm A n c B m d M x y w h hE (by omega) (by omega)).mono ?_
    rintro E w1 ⟨g, rfl, o, hg, b1⟩
    exact ⟨_, n, n, rfl, by unfold reachL; rw [if_neg hb]; exact o.boolV_reads o.lt, hn, b1⟩
theorem rReach_w (nm : ByteArray) (A : Option Addr) (n c : Nat) (B : Option Addr) (m d : Nat) (M : List (Int × Int)) (lo hi : Int) (w : World) (h : Reads w w.heap.size 2 B m (movsV M)) (hn : n ≤ 1000000) (hm : m ≤ 1000000) :
    Calls Tryd.prog 37 #[lifeV nm A n c B m d, .int .i64 lo, .int .i64 hi] w fun E W' => ∃ C k ck, E = .returned (.slice C k ck) ∧ Reads W' W'.heap.size 1 C k (bools (reachL n M lo hi)) ∧ k ≤ 1000000 ∧ Below w.heap.size w W' := by
  by_cases hb : lifeE n M ≠ 0 ∨ lo < 0 ∨ hi < lo ∨ 1000 < hi
  · refine (rReach_no nm A n c B m d M lo hi w h hn hm hb).mono ?_
    rintro E w1 ⟨rfl, b1⟩
    exact ⟨none, 0, 0, rfl, by unfold reachL; rw [if_pos hb]; exact reads_none _ _ _, by omega, b1⟩
  · have hE : lifeE n M = 0 := Decidable.byContradiction fun e => hb (.inl e)
    obtain ⟨x, rfl⟩ := Int.eq_ofNat_of_zero_le (show 0 ≤ lo by omega)
    obtain ⟨y, rfl⟩ := Int.eq_ofNat_of_zero_le (show 0 ≤ hi by omega)
    refine (rReach_any nm A n c B m d M x y w h hE (by omega) (by omega)).mono ?_
    rintro E w1 ⟨g, rfl, o, hg, b1⟩
    exact ⟨_, n, n, rfl, by unfold reachL; rw [if_neg hb]; exact o.boolV_reads o.lt, hn, b1⟩
theorem least_w (nm : ByteArray) (A : Option Addr) (n c : Nat) (B : Option Addr) (m d : Nat) (M : List (Int × Int)) (w : World) (h : Reads w w.heap.size 2 B m (movsV M)) (hn : n ≤ 1000000) (hm : m ≤ 1000000) :
    Calls Tryd.prog 38 #[lifeV nm A n c B m d] w fun E W' => ∃ C k ck, E = .returned (.slice C k ck) ∧ Reads W' W'.heap.size 1 C k (ints (leastL n M)) ∧ k ≤ 1000000 ∧ Below w.heap.size w W' := by
  by_cases hE : lifeE n M = 0
  · refine (least_any nm A n c B m d M w h hE).mono ?_
    rintro E w1 ⟨g, rfl, o, hg, b1⟩
    exact ⟨_, n, n, rfl, by unfold leastL; rw [if_neg (fun e => e hE)]; exact o.rowI_reads o.lt, hn, b1⟩
  · refine (least_no nm A n c B m d M w h hn hm hE).mono ?_
    rintro E w1 ⟨rfl, b1⟩
    exact ⟨none, 0, 0, rfl, by unfold leastL; rw [if_pos hE]; exact reads_none _ _ _, by omega, b1⟩
theorem rLeast_w (nm : ByteArray) (A : Option Addr) (n c : Nat) (B : Option Addr) (m d : Nat) (M : List (Int × Int)) (w : World) (h : Reads w w.heap.size 2 B m (movsV M)) (hn : n ≤ 1000000) (hm : m ≤ 1000000) :
    Calls Tryd.prog 39 #[lifeV nm A n c B m d] w fun E W' => ∃ C k ck, E = .returned (.slice C k ck) ∧ Reads W' W'.heap.size 1 C k (ints (leastL n M)) ∧ k ≤ 1000000 ∧ Below w.heap.size w W' := by
  by_cases hE : lifeE n M = 0
  · refine (rLeast_any nm A n c B m d M w h hE).mono ?_
    rintro E w1 ⟨g, rfl, o, hg, b1⟩
    exact ⟨_, n, n, rfl, by unfold leastL; rw [if_neg (fun e => e hE)]; exact o.rowI_reads o.lt, hn, b1⟩
  · refine (rLeast_no nm A n c B m d M w h hn hm hE).mono ?_
    rintro E w1 ⟨rfl, b1⟩
    exact ⟨none, 0, 0, rfl, by unfold leastL; rw [if_pos hE]; exact reads_none _ _ _, by omega, b1⟩
end Go.Proofs.YtiajlglnefiemaaDoor
