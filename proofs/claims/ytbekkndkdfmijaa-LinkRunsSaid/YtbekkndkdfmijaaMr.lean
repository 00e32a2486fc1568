/- LinkRuns: the state at the beginning. No condition. -/
import Derived.Test.YtbekkndkdfmijaaMq
set_option linter.unusedSimpArgs false
set_option linter.unusedVariables false
namespace Go.Proofs.Ytbekkndkdfmijaa
open Go.RowKit Go

theorem ref_new (w : World) (B n key : Nat) : RefAt (w.alloc (.cells #[.int .i64 (n : Int), .int .u64 (key : Int), .slice none 0 0, .int .i64 0, .int .i64 0, .slice none 0 0, .bool false, .int .i64 0] 31)) B w.heap.size (.slice none 0 0) (.slice none 0 0) [] [] [] (newE n key) :=
  ⟨Blk.new w 31 _, ⟨[], World.ownsRow_nil _ _ _ _, Rws.nil_ _⟩, ⟨[], World.ownsRow_nil _ _ _ _, Rws.nil_ _, rfl⟩, rfl, Nat.le_refl _, List.nodup_nil, fun k => rfl⟩
theorem endR_new {n key : Nat} (h : 1 ≤ n ∧ n ≤ 16) (i : Nat) : EndR key (newE n key) [] i :=
  ⟨rfl, h.1, h.2, rfl, Nat.le_refl _, by simp, fun m hm => (by cases hm), Nat.zero_le _, Nat.zero_le _, fun s b hs => (by cases hs)⟩
theorem mid_start {w W : World} {col : Nat → Nat} {eb key : Nat} {g h : Nat → Nat} {V : Nat → Nat} (S0 : Sys w col W eb g h 0 fun k => newE (V k) key) {a0 a1 : Int} (h0 : a0 = (V 0 : Int)) (h1 : a1 = (V 1 : Int)) :
    ∃ col', Mid w col' (((W.alloc (.cells #[.int .i64 a0, .int .u64 (key : Int), .slice none 0 0, .int .i64 0, .int .i64 0, .slice none 0 0, .bool false, .int .i64 0] 31)).alloc (.cells #[.int .i64 a1, .int .u64 (key : Int), .slice none 0 0, .int .i64 0, .int .i64 0, .slice none 0 0, .bool false, .int .i64 0] 31)).alloc (.cells #[.pointer (some ⟨W.heap.size, 0, none⟩), .pointer (some ⟨W.heap.size + 1, 0, none⟩)] 26))
      eb g h (W.heap.size + 2) (fun k => W.heap.size + k) 0 (fun k => newE (V k) key) (fun k => newE (V k) key) (fun _ => []) [] [] (.slice none 0 0) (.slice none 0 0) := by
  subst h0 h1
  have hb := S0.bel.size
  have R0 := ref_new W w.heap.size (V 0) key
  have e1 : (W.alloc (.cells #[.int .i64 (V 0 : Int), .int .u64 (key : Int), .slice none 0 0, .int .i64 0, .int .i64 0, .slice none 0 0, .bool false, .int .i64 0] 31)).heap.size = W.heap.size + 1 := by simp
  have b1 : Below W.heap.size W (W.alloc (.cells #[.int .i64 (V 0 : Int), .int .u64 (key : Int), .slice none 0 0, .int .i64 0, .int .i64 0, .slice none 0 0, .bool false, .int .i64 0] 31)) := (Below.refl _ W).alloc (Nat.le_refl _) _
  have s1 := S0.other (Chg.of_ok b1 2) (by omega) (by omega)
  have c0 : RefOk w (recol col W.heap.size 2) (W.alloc (.cells #[.int .i64 (V 0 : Int), .int .u64 (key : Int), .slice none 0 0, .int .i64 0, .int .i64 0, .slice none 0 0, .bool false, .int .i64 0] 31)) 2 W.heap.size [] 0 (newE (V 0) key) :=
    ⟨_, _, [], [], R0, Nat.le_refl _, fun i hi => by
      have e : i = W.heap.size := by
        rcases hi with h | h | h
        · exact h
        · cases h
        · cases h
      subst e
      exact ⟨recol_new (Nat.le_refl _), hb⟩⟩
  generalize W.alloc (.cells #[.int .i64 (V 0 : Int), .int .u64 (key : Int), .slice none 0 0, .int .i64 0, .int .i64 0, .slice none 0 0, .bool false, .int .i64 0] 31) = W1 at *
  have R1 := ref_new W1 w.heap.size (V 1) key
  have e2 : (W1.alloc (.cells #[.int .i64 (V 1 : Int), .int .u64 (key : Int), .slice none 0 0, .int .i64 0, .int .i64 0, .slice none 0 0, .bool false, .int .i64 0] 31)).heap.size = W1.heap.size + 1 := by simp
  have b2 : Below W1.heap.size W1 (W1.alloc (.cells #[.int .i64 (V 1 : Int), .int .u64 (key : Int), .slice none 0 0, .int .i64 0, .int .i64 0, .slice none 0 0, .bool false, .int .i64 0] 31)) := (Below.refl _ W1).alloc (Nat.le_refl _) _
  have s2 := s1.other (Chg.of_ok b2 3) (by omega) (by omega)
  have c02 := c0.other (Chg.of_ok b2 3) (by omega)
  have c1 : RefOk w (recol (recol col W.heap.size 2) W1.heap.size 3) (W1.alloc (.cells #[.int .i64 (V 1 : Int), .int .u64 (key : Int), .slice none 0 0, .int .i64 0, .int .i64 0, .slice none 0 0, .bool false, .int .i64 0] 31)) 3 W1.heap.size [] 0 (newE (V 1) key) :=
    ⟨_, _, [], [], R1, Nat.le_refl _, fun i hi => by
      have e : i = W1.heap.size := by
        rcases hi with h | h | h
        · exact h
        · cases h
        · cases h
      subst e
      exact ⟨recol_new (Nat.le_refl _), by omega⟩⟩
  generalize W1.alloc (.cells #[.int .i64 (V 1 : Int), .int .u64 (key : Int), .slice none 0 0, .int .i64 0, .int .i64 0, .slice none 0 0, .bool false, .int .i64 0] 31) = W2 at *
  have b3 : Below W2.heap.size W2 (W2.alloc (.cells #[.pointer (some ⟨W.heap.size, 0, none⟩), .pointer (some ⟨W.heap.size + 1, 0, none⟩)] 26)) := (Below.refl _ W2).alloc (Nat.le_refl _) _
  have k3 := Blk.new W2 26 #[.pointer (some ⟨W.heap.size, 0, none⟩), .pointer (some ⟨W.heap.size + 1, 0, none⟩)]
  have s3 := s2.other (Chg.of_ok b3 8) (by omega) (by omega)
  have c03 := c02.other (Chg.of_ok b3 8) (by omega)
  have c13 := c1.other (Chg.of_ok b3 8) (by omega)
  have ez : W2.heap.size = W.heap.size + 2 := by omega
  rw [e1] at c13
  refine ⟨_, s3, ?_, ?_, fun k hk => ?_, RowAt.nil_ _ _ _ _, IntsAt.nil_ _ _ _ _⟩
  · rw [← ez]
    exact k3
  · rw [← ez]
    exact recol_new (Nat.le_refl _)
  · match k, hk with
    | 0, _ => exact c03
    | 1, _ => rw [e1] ; exact c13
end Go.Proofs.Ytbekkndkdfmijaa
