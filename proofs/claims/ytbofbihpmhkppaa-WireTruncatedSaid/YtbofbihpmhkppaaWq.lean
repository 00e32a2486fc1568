/- Comparing two digests in memory says whether their sixteen bytes are equal; it leaves the world as it was. No condition. -/
import Derived.Test.YtbofbihpmhkppaaWo
namespace Go.Proofs.Ytbofbihpmhkppaa
open Go.RowKit
theorem nat_ne {a b : UInt8} (h : ¬ a = b) : ¬ ((a.toNat : Nat) : Int) = ((b.toNat : Nat) : Int) := by
  intro e
  exact h (UInt8.toNat_inj.1 (by omega))
theorem loop_all (w : World) (b : Nat → Bool) (body : Nat → Option Bool × Unit → Sem (ForInStep (Option Bool × Unit))) : ∀ (L : List Nat), (∀ i ∈ L, ∀ s, (body i s).run Try.prog w = .ok (if b i then .yield (none, ()) else .done (some false, ())) w) →
    (forIn L (none, ()) body).run Try.prog w = .ok (if L.all b then (none, ()) else (some false, ())) w
  | [], _ => by simp [Sem.run_pure]
  | i :: L, h => by
    rw [List.forIn_cons, Sem.run_bind, h i (by simp)]
    cases hb : b i with
    | true => simp [hb, loop_all w b body L fun j hj => h j (by simp [hj])]
    | false => simp [hb, Sem.run_pure]
set_option maxRecDepth 100000 in
set_option maxHeartbeats 4000000 in
theorem eq_dig (x0 x1 x2 x3 x4 x5 x6 x7 x8 x9 x10 x11 x12 x13 x14 x15 y0 y1 y2 y3 y4 y5 y6 y7 y8 y9 y10 y11 y12 y13 y14 y15 : UInt8) (w : World) : (Op.equalIn 10000 79 (.agg #[.int .u8 ((x0.toNat : Nat) : Int), .int .u8 ((x1.toNat : Nat) : Int), .int .u8 ((x2.toNat : Nat) : Int), .int .u8 ((x3.toNat : Nat) : Int), .int .u8 ((x4.toNat : Nat) : Int), .int .u8 ((x5.toNat : Nat) : Int), .int .u8 ((x6.toNat : Nat) : Int), .int .u8 ((x7.toNat : Nat) : Int), .int .u8 ((x8.toNat : Nat) : Int), .int .u8 ((x9.toNat : Nat) : Int), .int .u8 ((x10.toNat : Nat) : Int), .int .u8 ((x11.toNat : Nat) : Int), .int .u8 ((x12.toNat : Nat) : Int), .int .u8 ((x13.toNat : Nat) : Int), .int .u8 ((x14.toNat : Nat) : Int), .int .u8 ((x15.toNat : Nat) : Int)]) (.agg #[.int .u8 ((y0.toNat : Nat) : Int), .int .u8 ((y1.toNat : Nat) : Int), .int .u8 ((y2.toNat : Nat) : Int), .int .u8 ((y3.toNat : Nat) : Int), .int .u8 ((y4.toNat : Nat) : Int), .int .u8 ((y5.toNat : Nat) : Int), .int .u8 ((y6.toNat : Nat) : Int), .int .u8 ((y7.toNat : Nat) : Int), .int .u8 ((y8.toNat : Nat) : Int), .int .u8 ((y9.toNat : Nat) : Int), .int .u8 ((y10.toNat : Nat) : Int), .int .u8 ((y11.toNat : Nat) : Int), .int .u8 ((y12.toNat : Nat) : Int), .int .u8 ((y13.toNat : Nat) : Int), .int .u8 ((y14.toNat : Nat) : Int), .int .u8 ((y15.toNat : Nat) : Int)])).run Try.prog w = .ok (decide (([x0, x1, x2, x3, x4, x5, x6, x7, x8, x9, x10, x11, x12, x13, x14, x15] : List UInt8) = [y0, y1, y2, y3, y4, y5, y6, y7, y8, y9, y10, y11, y12, y13, y14, y15])) w := by
  have u5 := Try.underlying5
  have a5 := Try.isAgg5
  have z5 := Try.sizeOf5
  rw [show (10000 : Nat) = 9999 + 1 from rfl, Op.equalIn]
  simp only [Sem.run_bind, run_underlying Try.underlying79, Result.andThen_ok, z5]
  simp only [Std.Legacy.Range.forIn_eq_forIn_range', Std.Legacy.Range.size, Nat.sub_zero, Nat.add_sub_cancel, Nat.div_one]
  rw [loop_all w (fun i => ([x0, x1, x2, x3, x4, x5, x6, x7, x8, x9, x10, x11, x12, x13, x14, x15] : List UInt8)[i]?.getD 0 == ([y0, y1, y2, y3, y4, y5, y6, y7, y8, y9, y10, y11, y12, y13, y14, y15] : List UInt8)[i]?.getD 0)]
  · simp only [Result.andThen_ok]
    by_cases h : ([x0, x1, x2, x3, x4, x5, x6, x7, x8, x9, x10, x11, x12, x13, x14, x15] : List UInt8) = [y0, y1, y2, y3, y4, y5, y6, y7, y8, y9, y10, y11, y12, y13, y14, y15]
    · rw [h]; simp [Sem.run_pure, List.all_eq_true]
    · have hf : ((List.range' 0 16).all fun i => ([x0, x1, x2, x3, x4, x5, x6, x7, x8, x9, x10, x11, x12, x13, x14, x15] : List UInt8)[i]?.getD 0 == ([y0, y1, y2, y3, y4, y5, y6, y7, y8, y9, y10, y11, y12, y13, y14, y15] : List UInt8)[i]?.getD 0) = false := by
        rw [Bool.eq_false_iff]
        intro hall
        rw [List.all_eq_true] at hall
        apply h
        have e0 : x0 = y0 := by simpa using hall 0 (by simp)
        have e1 : x1 = y1 := by simpa using hall 1 (by simp)
        have e2 : x2 = y2 := by simpa using hall 2 (by simp)
        have e3 : x3 = y3 := by simpa using hall 3 (by simp)
        have e4 : x4 = y4 := by simpa using hall 4 (by simp)
        have e5 : x5 = y5 := by simpa using hall 5 (by simp)
        have e6 : x6 = y6 := by simpa using hall 6 (by simp)
        have e7 : x7 = y7 := by simpa using hall 7 (by simp)
        have e8 : x8 = y8 := by simpa using hall 8 (by simp)
        have e9 : x9 = y9 := by simpa using hall 9 (by simp)
        have e10 : x10 = y10 := by simpa using hall 10 (by simp)
        have e11 : x11 = y11 := by simpa using hall 11 (by simp)
        have e12 : x12 = y12 := by simpa using hall 12 (by simp)
        have e13 : x13 = y13 := by simpa using hall 13 (by simp)
        have e14 : x14 = y14 := by simpa using hall 14 (by simp)
        have e15 : x15 = y15 := by simpa using hall 15 (by simp)
        rw [e0, e1, e2, e3, e4, e5, e6, e7, e8, e9, e10, e11, e12, e13, e14, e15]
      rw [hf, decide_eq_false h]; simp [Sem.run_pure]
  · intro i hi s
    simp only [List.range'_succ, List.range'_zero, List.mem_cons, List.not_mem_nil, or_false] at hi
    rcases hi with rfl | rfl | rfl | rfl | rfl | rfl | rfl | rfl | rfl | rfl | rfl | rfl | rfl | rfl | rfl | rfl
    · go_simp
      by_cases e : x0 = y0
      · simp [e]
      · have h2 := nat_ne e
        simp [e, h2]
    · go_simp
      by_cases e : x1 = y1
      · simp [e]
      · have h2 := nat_ne e
        simp [e, h2]
    · go_simp
      by_cases e : x2 = y2
      · simp [e]
      · have h2 := nat_ne e
        simp [e, h2]
    · go_simp
      by_cases e : x3 = y3
      · simp [e]
      · have h2 := nat_ne e
        simp [e, h2]
    · go_simp
      by_cases e : x4 = y4
      · simp [e]
      · have h2 := nat_ne e
        simp [e, h2]
    · go_simp
      by_cases e : x5 = y5
      · simp [e]
      · have h2 := nat_ne e
        simp [e, h2]
    · go_simp
      by_cases e : x6 = y6
      · simp [e]
      · have h2 := nat_ne e
        simp [e, h2]
    · go_simp
      by_cases e : x7 = y7
      · simp [e]
      · have h2 := nat_ne e
        simp [e, h2]
    · go_simp
      by_cases e : x8 = y8
      · simp [e]
      · have h2 := nat_ne e
        simp [e, h2]
    · go_simp
      by_cases e : x9 = y9
      · simp [e]
      · have h2 := nat_ne e
        simp [e, h2]
    · go_simp
      by_cases e : x10 = y10
      · simp [e]
      · have h2 := nat_ne e
        simp [e, h2]
    · go_simp
      by_cases e : x11 = y11
      · simp [e]
      · have h2 := nat_ne e
        simp [e, h2]
    · go_simp
      by_cases e : x12 = y12
      · simp [e]
      · have h2 := nat_ne e
        simp [e, h2]
    · go_simp
      by_cases e : x13 = y13
      · simp [e]
      · have h2 := nat_ne e
        simp [e, h2]
    · go_simp
      by_cases e : x14 = y14
      · simp [e]
      · have h2 := nat_ne e
        simp [e, h2]
    · go_simp
      by_cases e : x15 = y15
      · simp [e]
      · have h2 := nat_ne e
        simp [e, h2]
end Go.Proofs.Ytbofbihpmhkppaa
