/- Life cycles: their value; Valid, moves. Conditions: the lists are short. -/
import Derived.Test.YtiajlglnefiemaaDoorQe
import Derived.Laws.EntriesVeiled
import Derived.Deep.OwnRows
set_option linter.unusedSimpArgs false
set_option linter.unusedVariables false
namespace Go.Proofs.YtiajlglnefiemaaDoor
open Go.RowKit

/-- the cells of a list of moves -/
def movsV (M : List (Int × Int)) : List Value := M.flatMap fun p => [.int .i64 p.1, .int .i64 p.2]
theorem movsV_length (M : List (Int × Int)) : (movsV M).length = M.length * 2 := by
  induction M with
  | nil => rfl
  | cons p M ih =>
    show (movsV M).length + 1 + 1 = _
    rw [ih, List.length_cons]
    omega
theorem movsV_get (M : List (Int × Int)) : ∀ k, (movsV M)[2 * k]? = M[k]?.map (fun p => Value.int .i64 p.1) ∧ (movsV M)[2 * k + 1]? = M[k]?.map (fun p => Value.int .i64 p.2) := by
  induction M with
  | nil => intro k; simp [movsV]
  | cons p M ih =>
    intro k
    cases k with
    | zero => exact ⟨rfl, rfl⟩
    | succ k =>
      have h := ih k
      have e1 : 2 * (k + 1) = 2 * k + 1 + 1 := by omega
      rw [e1]
      exact h
theorem movsV_snoc (M : List (Int × Int)) (p : Int × Int) : movsV (M ++ [p]) = movsV M ++ [.int .i64 p.1, .int .i64 p.2] := by simp [movsV]
theorem movsV_one (M : List (Int × Int)) : ∀ u ∈ movsV M, u.oneCell' = true := by
  intro u hu
  obtain ⟨p, -, hp⟩ := List.mem_flatMap.1 hu
  rcases List.mem_cons.1 hp with rfl | hp
  · rfl
  · rcases List.mem_cons.1 hp with rfl | hp
    · rfl
    · cases hp
theorem Reads.mov_len {w : World} {b n : Nat} {B : Option Addr} {M : List (Int × Int)} (h : Reads w b 2 B n (movsV M)) : M.length = n := by
  have := h.1
  rw [movsV_length] at this
  omega
theorem Reads.mov_at {w : World} {b n k : Nat} {B : Option Addr} {M : List (Int × Int)} (h : Reads w b 2 B n (movsV M)) (hk : k < n) :
    ∃ ad a c, B = some ad ∧ ad.block < b ∧ M[k]? = some (a, c) ∧ w.cell? (ad.add (k * 2)) = some (.int .i64 a) ∧ w.cell? ⟨(ad.add (k * 2)).block, (ad.add (k * 2)).off + 1, none⟩ = some (.int .i64 c) := by
  obtain ⟨ad, e, hb, hc⟩ := h.2 (by omega)
  have hl := h.mov_len
  obtain ⟨⟨a, c⟩, hp⟩ : ∃ p, M[k]? = some p := ⟨_, List.getElem?_eq_getElem (by omega)⟩
  obtain ⟨h1, h2⟩ := movsV_get M k
  rw [hp] at h1 h2
  have e1 : ad.add (2 * k) = ad.add (k * 2) := by rw [Nat.mul_comm]
  have e2 : ad.add (2 * k + 1) = ⟨(ad.add (k * 2)).block, (ad.add (k * 2)).off + 1, none⟩ := by
    cases k with
    | zero => simp [Addr.add]
    | succ k => simp [Addr.add]; omega
  exact ⟨ad, a, c, e, hb, hp, e1 ▸ hc _ _ h1, e2 ▸ hc _ _ h2⟩
/-- a life cycle's value -/
abbrev lifeV (nm : ByteArray) (A : Option Addr) (n c : Nat) (B : Option Addr) (m d : Nat) : Value := .agg #[.string nm, .slice A n c, .slice B m d]
/-- a move that leads out of the states -/
def badM (n : Nat) (p : Int × Int) : Bool := decide (min p.1 p.2 < 0) || decide ((n : Int) ≤ max p.1 p.2)
set_option maxRecDepth 100000 in
set_option maxHeartbeats 4000000 in
theorem bad_any (a b : Int) (n g : Nat) (w : World) (hg : Blk w g 3 #[.int .i64 (n : Int)]) : Calls Tryd.prog 94 #[.agg #[.int .i64 a, .int .i64 b], .pointer (some ⟨g, 0, none⟩)] w fun E W' => E = .returned (.bool (badM n (a, b))) ∧ Below w.heap.size w W' := by
  have hB := (Below.refl w.heap.size w).alloc (Nat.le_refl _) (.cells #[.int .i64 a, .int .i64 b] 54)
  have hc : (w.alloc (.cells #[.int .i64 a, .int .i64 b] 54)).cell? ⟨g, 0, none⟩ = some (.int .i64 (n : Int)) := (hg.alloc _).at_ rfl
  by_cases hab : a ≤ b
  · by_cases h0 : a < 0
    · rw [show badM n (a, b) = true from by unfold badM; simp; omega]
      go_enter Tryd.func94, Tryd.ntmps94
      go_wp2_with fail
      all_goals
        go_ret
        first | exact ⟨rfl, hB⟩ | exact ⟨ret_bool (decide_eq_false (by omega)), hB⟩ | exact ⟨ret_bool (decide_eq_true (by omega)), hB⟩
    · by_cases hn : (n : Int) ≤ b
      · rw [show badM n (a, b) = true from by unfold badM; simp; omega]
        go_enter Tryd.func94, Tryd.ntmps94
        go_wp2_with fail
        all_goals
          go_ret
          first | exact ⟨rfl, hB⟩ | exact ⟨ret_bool (decide_eq_false (by omega)), hB⟩ | exact ⟨ret_bool (decide_eq_true (by omega)), hB⟩
      · rw [show badM n (a, b) = false from by unfold badM; simp; omega]
        go_enter Tryd.func94, Tryd.ntmps94
        go_wp2_with fail
        all_goals
          go_ret
          first | exact ⟨rfl, hB⟩ | exact ⟨ret_bool (decide_eq_false (by omega)), hB⟩ | exact ⟨ret_bool (decide_eq_true (by omega)), hB⟩
  · have hab' : b < a := by omega
    have hab2 : ¬ a ≤ b := hab
    by_cases h0 : b < 0
    · rw [show badM n (a, b) = true from by unfold badM; simp; omega]
      go_enter Tryd.func94, Tryd.ntmps94
      go_wp2_with fail
      all_goals
        go_ret
        first | exact ⟨rfl, hB⟩ | exact ⟨ret_bool (decide_eq_false (by omega)), hB⟩ | exact ⟨ret_bool (decide_eq_true (by omega)), hB⟩
    · by_cases hn : (n : Int) ≤ a
      · rw [show badM n (a, b) = true from by unfold badM; simp; omega]
        go_enter Tryd.func94, Tryd.ntmps94
        go_wp2_with fail
        all_goals
          go_ret
          first | exact ⟨rfl, hB⟩ | exact ⟨ret_bool (decide_eq_false (by omega)), hB⟩ | exact ⟨ret_bool (decide_eq_true (by omega)), hB⟩
      · rw [show badM n (a, b) = false from by unfold badM; simp; omega]
        go_enter Tryd.func94, Tryd.ntmps94
        go_wp2_with fail
        all_goals
          go_ret
          first | exact ⟨rfl, hB⟩ | exact ⟨ret_bool (decide_eq_false (by omega)), hB⟩ | exact ⟨ret_bool (decide_eq_true (by omega)), hB⟩
/-- where the moves of a state lead -/
def mv (M : List (Int × Int)) (s : Int) : List Int := (M.filter fun p => p.1 == s).map (·.2)
theorem mv_take {M : List (Int × Int)} {s : Int} {k : Nat} {a b : Int} (h : M[k]? = some (a, b)) : mv (M.take (k + 1)) s = if a = s then mv (M.take k) s ++ [b] else mv (M.take k) s := by
  unfold mv
  rw [List.take_add_one, h, Option.toList_some, List.filter_append]
  by_cases e : a = s
  · rw [if_pos e, List.filter_cons_of_pos (by simpa using e)]
    simp
  · rw [if_neg e, List.filter_cons_of_neg (by simpa using e)]
    simp
theorem mv_len (M : List (Int × Int)) (s : Int) (k : Nat) : (mv (M.take k) s).length ≤ k := by
  unfold mv
  rw [List.length_map]
  exact Nat.le_trans (List.length_filter_le _ _) (by rw [List.length_take]; omega)
set_option maxRecDepth 100000 in
set_option maxHeartbeats 4000000 in
theorem mov_any (nm : ByteArray) (A : Option Addr) (n c : Nat) (B : Option Addr) (m d : Nat) (M : List (Int × Int)) (s : Int) (w : World) (h : Reads w w.heap.size 2 B m (movsV M)) (hm : m ≤ 1000000) :
    Calls Tryd.prog 66 #[lifeV nm A n c B m d, .int .i64 s] w fun E W' => ∃ v, E = .returned v ∧ W'.ownsRow w.heap.size 3 1 v (mv M s).length (ints (mv M s)) ∧ Below w.heap.size w W' := by
  obtain ⟨i0, hi, hz0, hz1, hz2⟩ := info_parts info_i64
  have hml := h.mov_len
  have hB0 := (Below.refl w.heap.size w).alloc (Nat.le_refl _) (.cells #[.string nm, .slice A n c, .slice B m d] 50)
  go_enter Tryd.func66, Tryd.ntmps66
  go_wp2_with fail
  generalize w.alloc (.cells #[.string nm, .slice A n c, .slice B m d] 50) = w0 at *
  go_loopw [5, 11] (fun v i wr => ∃ k : Nat, k ≤ m ∧ i = .int .i64 (k : Int) ∧ wr.ownsRow w.heap.size 3 1 v (mv (M.take k) s).length (ints (mv (M.take k) s)) ∧ Below w.heap.size w wr) (fun _ i _ => (m - intOf i).toNat)
  case atStart => exact ⟨0, by omega, rfl, World.ownsRow_nil _ _ _ _, hB0⟩
  case round =>
    obtain ⟨k, hk, rfl, ho, hb⟩ := hrel
    by_cases hlt : k < m
    · have hji : (k : Int) < (m : Int) := by omega
      obtain ⟨ad, a, b, rfl, had, hmk, ca, cb⟩ := (h.below hb).mov_at hlt
      have hst := mv_take (s := s) hmk
      have HS := Lib.hid hst
      clear hst
      by_cases e : a = s
      · subst e
        rw [if_pos rfl] at HS
        have hlk := mv_len M a k
        have hcn := cell_one_new (wr.alloc (.cells #[.int .i64 a, .int .i64 b] 54)) (.int .i64 b) 3
        rw [World.size_alloc] at hcn
        go_wp2_with (at_builtin; refine wpList_append_own _ rfl _ _ 22 rfl w.heap.size 3 i0 (.int .i64 0) 1 8 Tryd.underlying22 hi hz0 hz1 hz2 rfl (by decide) _ _ _ rfl ((ho.alloc _).alloc _) ⟨wr.heap.size + 1, 0, none⟩ 1 1 [.int .i64 b] rfl rfl hcn (by simp [Value.oneCell']) (by unfold maxLen; omega) (by omega) (by have := hb.size; simp; omega) ?_; intro v3 w3 o3 g3 _)
        have b3 : Below w.heap.size w w3 := ((hb.alloc hb.size _).alloc (by have := hb.size; simp; omega) _).grown g3 (by have := hb.size; simp; omega) (fun q e => (ho.lt q e).1)
        rw [← ints_snoc, ← HS.out] at o3
        have o4 : w3.ownsRow w.heap.size 3 1 v3 (mv (M.take (k + 1)) a).length (ints (mv (M.take (k + 1)) a)) := by
          have e := HS.out
          have e2 : (mv (M.take (k + 1)) a).length = (mv (M.take k) a).length + 1 := by rw [e]; simp
          rw [e2]
          exact o3
        clear o3
        go_roundw
        case rel => exact ⟨k + 1, by omega, by go_num, o4, b3⟩
        case measure => simp [intOf]; omega
      · rw [if_neg e] at HS
        go_wp2_with fail
        go_roundw
        case rel => exact ⟨k + 1, by omega, by go_num, by rw [HS.out]; exact ho.alloc _, hb.alloc hb.size _⟩
        case measure => simp [intOf]; omega
    · obtain rfl : k = m := by omega
      have hji : ¬ (k : Int) < (k : Int) := by omega
      rw [List.take_of_length_le (by omega)] at ho
      go_wp2_with fail
      go_ret
      exact ⟨_, rfl, ho, hb⟩
end Go.Proofs.YtiajlglnefiemaaDoor
