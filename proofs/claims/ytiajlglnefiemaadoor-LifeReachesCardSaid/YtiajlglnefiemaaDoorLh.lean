/- Two pairs of numbers compared. No condition. -/
import Derived.Test.YtiajlglnefiemaaDoorLb
set_option linter.unusedSimpArgs false
set_option linter.unusedVariables false
namespace Go.Proofs.YtiajlglnefiemaaDoor
open Go.RowKit
theorem loop_all (w : World) (b : Nat → Bool) (body : Nat → Option Bool × Unit → Sem (ForInStep (Option Bool × Unit))) : ∀ (L : List Nat), (∀ i ∈ L, ∀ s, (body i s).run Tryd.prog w = .ok (if b i then .yield (none, ()) else .done (some false, ())) w) →
    (forIn L (none, ()) body).run Tryd.prog w = .ok (if L.all b then (none, ()) else (some false, ())) w
  | [], _ => by simp [Sem.run_pure]
  | i :: L, h => by
    rw [List.forIn_cons, Sem.run_bind, h i (by simp)]
    cases hb : b i with
    | true => simp [hb, loop_all w b body L fun j hj => h j (by simp [hj])]
    | false => simp [hb, Sem.run_pure]
set_option maxRecDepth 100000 in
set_option maxHeartbeats 4000000 in
theorem eq_pair (a b x y : Int) (w : World) : (Op.equalIn 10000 54 (.agg #[.int .i64 a, .int .i64 b]) (.agg #[.int .i64 x, .int .i64 y])).run Tryd.prog w = .ok (decide ((a, b) = (x, y))) w := by
  have u5 := Tryd.underlying3
  have a5 := Tryd.isAgg3
  have z5 := Tryd.sizeOf3
  rw [show (10000 : Nat) = 9999 + 1 from rfl, Op.equalIn]
  simp only [Sem.run_bind, run_underlying Tryd.underlying54, Result.andThen_ok, z5]
  simp only [Std.Legacy.Range.forIn_eq_forIn_range', Std.Legacy.Range.size, Nat.sub_zero, Nat.add_sub_cancel, Nat.div_one]
  rw [loop_all w (fun i => ([a, b] : List Int)[i]?.getD 0 == ([x, y] : List Int)[i]?.getD 0)]
  · simp only [Result.andThen_ok]
    by_cases h : (a, b) = (x, y)
    · rw [decide_eq_true h]
      injection h with h1 h2
      subst h1 h2
      simp [Sem.run_pure, List.all_eq_true]
    · have hf : ((List.range' 0 2).all fun i => ([a, b] : List Int)[i]?.getD 0 == ([x, y] : List Int)[i]?.getD 0) = false := by
        rw [Bool.eq_false_iff]
        intro hall
        rw [List.all_eq_true] at hall
        apply h
        have e0 : a = x := by simpa using hall 0 (by simp)
        have e1 : b = y := by simpa using hall 1 (by simp)
        rw [e0, e1]
      rw [hf, decide_eq_false h]; simp [Sem.run_pure]
  · intro i hi s
    simp only [List.range'_succ, List.range'_zero, List.mem_cons, List.not_mem_nil, or_false] at hi
    rcases hi with rfl | rfl
    · go_simp
      by_cases e : a = x
      · simp [e]
      · simp [e]
    · go_simp
      by_cases e : b = y
      · simp [e]
      · simp [e]
end Go.Proofs.YtiajlglnefiemaaDoor
