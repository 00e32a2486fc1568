/- Life cycles: Valid. Conditions: the lists are short. -/
import Derived.Test.YtiajlglnefiemaaDoorLa
set_option linter.unusedSimpArgs false
set_option linter.unusedVariables false
namespace Go.Proofs.YtiajlglnefiemaaDoor
open Go.RowKit

/-- is there a move that leads out of the states? -/
def anyBad (n : Nat) (M : List (Int × Int)) : Bool := M.any (badM n)
theorem anyBad_iff (n : Nat) (M : List (Int × Int)) : anyBad n M = true ↔ ∃ p, p ∈ M ∧ badM n p = true := by unfold anyBad; rw [List.any_eq_true]
set_option maxRecDepth 100000 in
set_option maxHeartbeats 4000000 in
theorem index2_any (B : Option Addr) (m d : Nat) (M : List (Int × Int)) (n g : Nat) (w : World) (h : Reads w w.heap.size 2 B m (movsV M)) (hg : Blk w g 3 #[.int .i64 (n : Int)]) (hm : m ≤ 1000000) :
    Calls Tryd.prog 106 #[.slice B m d, .func (.func 94) #[] #[.pointer (some ⟨g, 0, none⟩)]] w fun E W' => (∃ i : Int, E = .returned (.int .i64 i) ∧ (0 ≤ i ↔ anyBad n M = true)) ∧ Below w.heap.size w W' := by
  have hml := h.mov_len
  go_enter Tryd.func106, Tryd.ntmps106
  go_wp2_with fail
  go_loopw [8] (fun i wr => ∃ k : Nat, k ≤ m ∧ i = .int .i64 (k : Int) ∧ (∀ j p, j < k → M[j]? = some p → badM n p = false) ∧ Below w.heap.size w wr) (fun i _ => (m - intOf i).toNat)
  case atStart => exact ⟨0, by omega, rfl, fun j p hj => by omega, Below.refl _ _⟩
  case round =>
    obtain ⟨k, hk, rfl, hno, hb⟩ := hrel
    have HN := Lib.hid hno
    clear hno
    by_cases hlt : k < m
    · have hji : (k : Int) < (m : Int) := by omega
      obtain ⟨ad, a, b, rfl, had, hmk, ca, cb⟩ := (h.below hb).mov_at hlt
      have hgb := hg.below hb hg.lt
      have hbad := fun W (h : Blk W g 3 #[.int .i64 (n : Int)]) => bad_any a b n g W h
      have HB := Lib.hid hbad
      clear hbad
      cases hv : badM n (a, b)
      · rw [hv] at HB
        go_wp2_with fail
        refine (HB.out _ hgb).mono ?_
        rintro E w2 ⟨rfl, b2⟩
        have hb2 := below_next hb b2
        go_wp2_with fail
        go_roundw
        case rel =>
          refine ⟨k + 1, by omega, by go_num, fun j p hj hp => ?_, hb2⟩
          by_cases e : j = k
          · subst e
            rw [hmk] at hp
            injection hp with hp
            rw [← hp]
            exact hv
          · exact HN.out j p (by omega) hp
        case measure => simp [intOf]; omega
      · rw [hv] at HB
        go_wp2_with fail
        refine (HB.out _ hgb).mono ?_
        rintro E w2 ⟨rfl, b2⟩
        have hb2 := below_next hb b2
        go_wp2_with fail
        go_ret
        refine ⟨⟨(k : Int), rfl, ⟨fun _ => ?_, fun _ => by omega⟩⟩, hb2⟩
        exact (anyBad_iff _ _).2 ⟨(a, b), List.mem_of_getElem? hmk, hv⟩
    · have hji : ¬ (k : Int) < (m : Int) := by omega
      go_wp2_with fail
      go_ret
      refine ⟨⟨-1, rfl, ⟨fun h => by omega, fun ha => ?_⟩⟩, hb⟩
      obtain ⟨p, hp, hpv⟩ := (anyBad_iff _ _).1 ha
      obtain ⟨j, hj, e⟩ := List.getElem_of_mem hp
      have := HN.out j p (by omega) (by rw [List.getElem?_eq_getElem hj, e])
      rw [this] at hpv
      cases hpv
set_option maxRecDepth 100000 in
set_option maxHeartbeats 4000000 in
theorem contains2_any (B : Option Addr) (m d : Nat) (M : List (Int × Int)) (n g : Nat) (w : World) (h : Reads w w.heap.size 2 B m (movsV M)) (hg : Blk w g 3 #[.int .i64 (n : Int)]) (hm : m ≤ 1000000) :
    Calls Tryd.prog 93 #[.slice B m d, .func (.func 94) #[] #[.pointer (some ⟨g, 0, none⟩)]] w fun E W' => E = .returned (.bool (anyBad n M)) ∧ Below w.heap.size w W' := by
  have hx := index2_any B m d M n g w h hg hm
  have HX := Lib.hid hx
  clear hx
  go_enter Tryd.func93, Tryd.ntmps93
  go_wp2_with fail
  refine HX.out.mono ?_
  rintro E w2 ⟨⟨i, rfl, hi⟩, b2⟩
  go_wp2_with fail
  go_ret
  exact ⟨rfl, b2⟩
/-- the error of a life cycle -/
def lifeE (n : Nat) (M : List (Int × Int)) : Int := if 12 < n ∨ 32 < M.length then 4 else if n = 0 ∨ anyBad n M = true then 1 else 0
set_option maxRecDepth 100000 in
set_option maxHeartbeats 4000000 in
theorem lifeValid_any (nm : ByteArray) (A : Option Addr) (n c : Nat) (B : Option Addr) (m d : Nat) (M : List (Int × Int)) (w : World) (h : Reads w w.heap.size 2 B m (movsV M)) (hn : n ≤ 1000000) (hm : m ≤ 1000000) :
    Calls Tryd.prog 65 #[lifeV nm A n c B m d] w fun E W' => E = .returned (.int .i64 (lifeE n M)) ∧ Below w.heap.size w W' := by
  have hml := h.mov_len
  have hB := ((Below.refl w.heap.size w).alloc (Nat.le_refl _) (.cells #[.string nm, .slice A n c, .slice B m d] 50)).alloc (by simp) (.cells #[.int .i64 (n : Int)] 3)
  by_cases h1 : (12 : Int) < (n : Int)
  · rw [show lifeE n M = 4 from by unfold lifeE; rw [if_pos (by omega)]]
    go_enter Tryd.func65, Tryd.ntmps65
    go_wp2_with fail
    go_ret
    exact ⟨rfl, hB⟩
  · by_cases h2 : (32 : Int) < (m : Int)
    · rw [show lifeE n M = 4 from by unfold lifeE; rw [if_pos (by omega)]]
      go_enter Tryd.func65, Tryd.ntmps65
      go_wp2_with fail
      go_ret
      exact ⟨rfl, hB⟩
    · by_cases h3 : n = 0
      · rw [show lifeE n M = 1 from by unfold lifeE; rw [if_neg (by omega), if_pos (.inl h3)]]
        subst h3
        go_enter Tryd.func65, Tryd.ntmps65
        go_wp2_with fail
        go_ret
        exact ⟨rfl, hB⟩
      · have h4 : ¬ (n : Int) = 0 := by omega
        have h5 : ((n : Int) == 0) = false := by simpa using h4
        have hg : Blk ((w.alloc (.cells #[.string nm, .slice A n c, .slice B m d] 50)).alloc (.cells #[.int .i64 (n : Int)] 3)) (w.heap.size + 1) 3 #[.int .i64 (n : Int)] := Blk.new' (by simp)
        have hcn := contains2_any B m d M n (w.heap.size + 1) _ ((h.below hB).more hB.size) hg hm
        have hmf : ∀ (fn : Fn) (first cap : Array Value) (w : World), (Instr.makeFunc fn first cap).run Tryd.prog w = .ok (.func fn first cap) w := fun _ _ _ _ => rfl
        cases hv : anyBad n M
        · rw [show lifeE n M = 0 from by unfold lifeE; rw [if_neg (by omega), if_neg (by rw [hv]; simp; omega)]]
          rw [hv] at hcn
          have HC := Lib.hid hcn
          clear hcn
          go_enter Tryd.func65, Tryd.ntmps65
          go_wp2_with fail
          refine HC.out.mono ?_
          rintro E w2 ⟨rfl, b2⟩
          go_wp2_with fail
          go_ret
          exact ⟨rfl, below_next hB b2⟩
        · rw [show lifeE n M = 1 from by unfold lifeE; rw [if_neg (by omega), if_pos (.inr hv)]]
          rw [hv] at hcn
          have HC := Lib.hid hcn
          clear hcn
          go_enter Tryd.func65, Tryd.ntmps65
          go_wp2_with fail
          refine HC.out.mono ?_
          rintro E w2 ⟨rfl, b2⟩
          go_wp2_with fail
          go_ret
          exact ⟨rfl, below_next hB b2⟩
end Go.Proofs.YtiajlglnefiemaaDoor
