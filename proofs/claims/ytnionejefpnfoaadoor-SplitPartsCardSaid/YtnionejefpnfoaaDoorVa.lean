/- The walks of package split: Valid; own of the law. Conditions: the ranges that each theorem states. -/
import Derived.Test.YtnionejefpnfoaaDoorWb
import Derived.Test.YtnionejefpnfoaaDoorHm
import Derived.BigQuiet
set_option linter.unusedSimpArgs false
set_option linter.unusedVariables false
namespace Go.Proofs.YtnionejefpnfoaaDoor
open Go.RowKit

/-- the cells of a split -/
abbrev spC (s : ByteArray) (A : Option Addr) (n c : Nat) (T N lo hi : Int) : Array Value := #[.string s, .slice A n c, .int .i64 T, .int .i64 N, .int .i64 lo, .int .i64 hi]
abbrev spV (s : ByteArray) (A : Option Addr) (n c : Nat) (T N lo hi : Int) : Value := .agg (spC s A n c T N lo hi)
/-- a split that Valid accepts -/
structure SOk (s : ByteArray) (n : Nat) (T N lo hi : Int) : Prop where
  text : s.size ≤ 32
  path : n ≤ 6
  n0 : 0 ≤ N
  n1 : N ≤ 65536
  lo0 : -1048576 ≤ lo
  hi1 : hi ≤ 1048576
  le : lo ≤ hi
  t0 : N * lo ≤ T
  t1 : T ≤ N * hi
theorem info24 : (Tryd.prog.info? 24).map (·.size) = some 6 := by kernel_rfl
theorem info29 : (Tryd.prog.info? 28).map (·.size) = some 6 := by kernel_rfl
theorem info42 : (Tryd.prog.info? 53).map (·.size) = some 3 := by kernel_rfl
theorem mul_small {a b : Int} (h0 : 0 ≤ a) (h1 : a ≤ 65536) (h2 : -1048576 ≤ b) (h3 : b ≤ 1048576) : -68719476736 ≤ a * b ∧ a * b ≤ 68719476736 := by
  constructor
  · have h4 : a * (-1048576) ≤ a * b := Int.mul_le_mul_of_nonneg_left h2 h0
    omega
  · have h4 : a * b ≤ a * 1048576 := Int.mul_le_mul_of_nonneg_left h3 h0
    omega
theorem wrap_small {x : Int} (h0 : -9223372036854775808 ≤ x) (h1 : x ≤ 9223372036854775807) : IntKind.i64.wrap x = x := by rw [IntKind.wrap_i64]; omega
set_option maxRecDepth 100000 in
set_option maxHeartbeats 2000000 in
theorem validS_ok {s : ByteArray} {n : Nat} {T N lo hi : Int} (h : SOk s n T N lo hi) (A : Option Addr) (c : Nat) (w : World) :
    Calls Tryd.prog 7 #[spV s A n c T N lo hi] w fun E W' => E = .returned (.int .i64 0) ∧ Below w.heap.size w W' := by
  have hB := (Below.refl w.heap.size w).alloc (Nat.le_refl _) (.cells (spC s A n c T N lo hi) 28)
  obtain ⟨m0, m1⟩ := mul_small h.n0 h.n1 h.lo0 (Int.le_trans h.le h.hi1)
  obtain ⟨m2, m3⟩ := mul_small h.n0 h.n1 (Int.le_trans h.lo0 h.le) h.hi1
  have q1 : IntKind.i64.wrap (N * lo) = N * lo := wrap_small (by omega) (by omega)
  have q2 : IntKind.i64.wrap (N * hi) = N * hi := wrap_small (by omega) (by omega)
  have e1 := h.le
  have g1 : decide (65536 < N) = false := decide_eq_false (by have := h.n1; omega)
  have g2 : decide (lo < -1048576) = false := decide_eq_false (by have := h.lo0; omega)
  have g3 : decide (1048576 < hi) = false := decide_eq_false (by have := h.hi1; omega)
  have g4 : decide ((32 : Int) < (s.size : Int)) = false := decide_eq_false (by have := h.text; omega)
  have g5 : decide ((6 : Int) < (n : Int)) = false := decide_eq_false (by have := h.path; omega)
  have g6 : decide (N < 0) = false := decide_eq_false (by have := h.n0; omega)
  have g7 : decide (hi < lo) = false := decide_eq_false (by omega)
  have g8 : decide (T < N * lo) = false := decide_eq_false (by have := h.t0; omega)
  have g9 : decide (N * hi < T) = false := decide_eq_false (by have := h.t1; omega)
  have mn := fun ts t W => run_min_int2 (P := Tryd.prog) (w := W) ts t .i64 .i64 lo hi
  have mx := fun ts t W => run_max_int2 (P := Tryd.prog) (w := W) ts t .i64 .i64 lo hi
  rw [show (if hi < lo then hi else lo) = lo by rw [if_neg (by omega)]] at mn
  rw [show (if hi > lo then hi else lo) = hi by split <;> omega] at mx
  go_enter Tryd.func7, Tryd.ntmps7
  go_wp2_with fail
  go_ret
  exact ⟨rfl, hB⟩
set_option maxRecDepth 100000 in
set_option maxHeartbeats 2000000 in
theorem validS_none (w : World) :
    Calls Tryd.prog 7 #[spV ⟨#[]⟩ none 0 0 7 0 0 9] w fun E W' => E = .returned (.int .i64 5) ∧ Below w.heap.size w W' := by
  have hB := (Below.refl w.heap.size w).alloc (Nat.le_refl _) (.cells (spC ⟨#[]⟩ none 0 0 7 0 0 9) 28)
  have mn := fun ts t W => run_min_int2 (P := Tryd.prog) (w := W) ts t .i64 .i64 0 9
  have mx := fun ts t W => run_max_int2 (P := Tryd.prog) (w := W) ts t .i64 .i64 0 9
  rw [show (if (9 : Int) < 0 then (9 : Int) else 0) = 0 by decide] at mn
  rw [show (if (9 : Int) > 0 then (9 : Int) else 0) = 9 by decide] at mx
  go_enter Tryd.func7, Tryd.ntmps7
  go_wp2_with fail
  go_ret
  exact ⟨rfl, hB⟩
set_option maxRecDepth 100000 in
set_option maxHeartbeats 2000000 in
theorem own_any (s : ByteArray) (A : Option Addr) (n c : Nat) (T N lo hi : Int) (w : World) :
    Calls Tryd.prog 6 #[spV s A n c T N lo hi] w fun E W' => E = .returned (spV s A n c T N lo hi) ∧ Below w.heap.size w W' := by
  have k0 := Blk.new w 24 (spC s A n c T N lo hi)
  have b0 := (Below.refl w.heap.size w).alloc (Nat.le_refl _) (.cells (spC s A n c T N lo hi) 24)
  have hz : (w.alloc (.cells (spC s A n c T N lo hi) 24)).heap.size = w.heap.size + 1 := by simp
  go_enter Tryd.func6, Tryd.ntmps6
  go_wp2_with fail
  have k1 : Blk ((w.alloc (.cells (spC s A n c T N lo hi) 24)).alloc (.cells (spC s A n c T N lo hi) 28)) (w.heap.size + 1) 28 (spC s A n c T N lo hi) := by rw [← hz]; exact Blk.new _ 28 _
  refine ret_row (g := w.heap.size + 1) (cs := spC s A n c T N lo hi) (t := 28) Tryd.results6 rfl k1 rfl Tryd.underlying28 info29 rfl ?_
  exact ⟨rfl, b0.alloc b0.size _⟩
/-- a node -/
abbrev nodC (a n t : Int) : Array Value := #[.int .i64 a, .int .i64 n, .int .i64 t]
abbrev nodV (a n t : Int) : Value := .agg (nodC a n t)
/-- two results, the first of which lies in a block -/
theorem ret_row_tmp {P : Program} {fn : Func} {R : Ending → World → Prop} {a : Act} {w : World} {g : Nat} {t : TypeId} {cs : Array Value} {k j : Tmp} {ty : TypeId} {d : TypeDesc} {v : Value} (hr : fn.results = #[.cell k ty, .tmp j]) (hx : a.tmps.getD k undef = .pointer (some ⟨g, 0, none⟩))
    (hB : Blk w g t cs) (hd : (match d with | .struct _ | .array _ _ => true | _ => false) = true) (hu : P.underlying ty = some d) (hi : (P.info? ty).map (·.size) = some cs.size) (hv : a.tmps.getD j undef = v) (hdef : a.defers = [])
    (hR : R (.returned (.tuple #[.agg cs, v])) w) : bodyPost P fn R .ret a w := by
  refine bodyPost_ret (v := .tuple #[.agg cs, v]) ?_ hdef hR
  have := run_loadVar_row (P := P) w g t ty cs (0, 0) d hB hu (by cases d <;> first | rfl | exact hd) hi
  simp only [results, hr]
  have hx2 : a.tmps[k]?.getD undef = .pointer (some ⟨g, 0, none⟩) := by rw [← Array.getD_eq_getD_getElem?]; exact hx
  have hv2 : a.tmps[j]?.getD undef = v := by rw [← Array.getD_eq_getD_getElem?]; exact hv
  simp [hx2, hv2, asAddr, this]
/-- two results that lie in blocks -/
theorem ret_row_row {P : Program} {fn : Func} {R : Ending → World → Prop} {a : Act} {w : World} {g g' : Nat} {t t' : TypeId} {cs cs' : Array Value} {k j : Tmp} {ty ty' : TypeId} {d d' : TypeDesc} (hr : fn.results = #[.cell k ty, .cell j ty']) (hx : a.tmps.getD k undef = .pointer (some ⟨g, 0, none⟩)) (hx' : a.tmps.getD j undef = .pointer (some ⟨g', 0, none⟩))
    (hB : Blk w g t cs) (hB' : Blk w g' t' cs') (hd : (match d with | .struct _ | .array _ _ => true | _ => false) = true) (hd' : (match d' with | .struct _ | .array _ _ => true | _ => false) = true) (hu : P.underlying ty = some d) (hu' : P.underlying ty' = some d') (hi : (P.info? ty).map (·.size) = some cs.size) (hi' : (P.info? ty').map (·.size) = some cs'.size) (hdef : a.defers = [])
    (hR : R (.returned (.tuple #[.agg cs, .agg cs'])) w) : bodyPost P fn R .ret a w := by
  refine bodyPost_ret (v := .tuple #[.agg cs, .agg cs']) ?_ hdef hR
  have h1 := run_loadVar_row (P := P) w g t ty cs (0, 0) d hB hu (by cases d <;> first | rfl | exact hd) hi
  have h2 := run_loadVar_row (P := P) w g' t' ty' cs' (0, 0) d' hB' hu' (by cases d' <;> first | rfl | exact hd') hi'
  simp only [results, hr]
  have hx2 : a.tmps[k]?.getD undef = .pointer (some ⟨g, 0, none⟩) := by rw [← Array.getD_eq_getD_getElem?]; exact hx
  have hx3 : a.tmps[j]?.getD undef = .pointer (some ⟨g', 0, none⟩) := by rw [← Array.getD_eq_getD_getElem?]; exact hx'
  simp [hx2, hx3, asAddr, h1, h2]
set_option maxRecDepth 100000 in
set_option maxHeartbeats 2000000 in
/-- going down where there is one part, or none -/
theorem down_one (s : ByteArray) (A : Option Addr) (n c : Nat) (T N lo hi : Int) (f : Value) (w : World) (hN : N ≤ 1) :
    Calls Tryd.prog 25 #[spV s A n c T N lo hi, f] w fun E W' => E = .returned (.tuple #[nodV 0 N T, .int .i64 0]) ∧ Below w.heap.size w W' := by
  have b0 := (Below.refl w.heap.size w).alloc (Nat.le_refl _) (.cells (spC s A n c T N lo hi) 28)
  have hz : (w.alloc (.cells (spC s A n c T N lo hi) 28)).heap.size = w.heap.size + 1 := by simp
  have hN1 : ¬ (1 : Int) < N := by omega
  have hz2 : ((w.alloc (.cells (spC s A n c T N lo hi) 28)).alloc (.cells (nodC 0 0 0) 53)).heap.size = w.heap.size + 2 := by simp
  have k1 : Blk (((w.alloc (.cells (spC s A n c T N lo hi) 28)).alloc (.cells (nodC 0 0 0) 53)).alloc (.cells (nodC 0 N T) 53)) (w.heap.size + 1) 53 (nodC 0 0 0) := by rw [← hz]; exact (Blk.new _ 53 _).alloc _
  have k2 : Blk (((w.alloc (.cells (spC s A n c T N lo hi) 28)).alloc (.cells (nodC 0 0 0) 53)).alloc (.cells (nodC 0 N T) 53)) (w.heap.size + 2) 53 (nodC 0 N T) := by rw [← hz2]; exact Blk.new _ 53 _
  have b2 : Below w.heap.size w (((w.alloc (.cells (spC s A n c T N lo hi) 28)).alloc (.cells (nodC 0 0 0) 53)).alloc (.cells (nodC 0 N T) 53)) := (b0.alloc b0.size _).alloc (by rw [hz2]; omega) _
  go_enter Tryd.func25, Tryd.ntmps25
  go_wp2_with fail
  generalize ((w.alloc (.cells (spC s A n c T N lo hi) 28)).alloc (.cells (nodC 0 0 0) 53)).alloc (.cells (nodC 0 N T) 53) = w3 at *
  go_loopw [7] (fun v wr => v = .int .i64 0 ∧ wr = w3) (fun _ _ => 0)
  case atStart => exact ⟨rfl, rfl⟩
  case round =>
    obtain ⟨rfl, rfl⟩ := hrel
    have c1 : wr.cell? ⟨w.heap.size + 2, 1, none⟩ = some (.int .i64 N) := k2.at_ rfl
    obtain ⟨C, hC⟩ : ∃ C, C = nodC 0 N T := ⟨_, rfl⟩
    have G1 : Hid ((Tryd.prog.info? 53).map (·.size) = some C.size) := Lib.hid (by rw [hC]; exact info42)
    have G2 : Hid ((nodC 0 0 0).size = C.size) := Lib.hid (by rw [hC]; rfl)
    have G3 : Hid (C.all (·.oneCell') = true) := Lib.hid (by rw [hC]; simp [Value.oneCell'])
    rw [← hC] at k2
    have HC := Lib.hid hC
    clear hC
    go_wp2_with (first
      | (with_reducible refine wpList_load_row rfl 53 _ rfl (w.heap.size + 2) rfl 53 C (0, 0) _ k2.heap_ Tryd.underlying53 rfl G1.out ?_)
      | (with_reducible refine wpList_store_row rfl 53 _ _ rfl (w.heap.size + 1) C rfl rfl 53 (nodC 0 0 0) k1.heap_ G1.out G2.out G3.out ?_))
    refine ret_row_tmp (g := w.heap.size + 1) (cs := C) (t := 53) (v := .int .i64 0) Tryd.results25 rfl (k1.row C) rfl Tryd.underlying53 G1.out rfl rfl ?_
    exact ⟨by rw [HC.out], below_setRow b2 (show w.heap.size ≤ w.heap.size + 1 by omega) C⟩
end Go.Proofs.YtnionejefpnfoaaDoor
