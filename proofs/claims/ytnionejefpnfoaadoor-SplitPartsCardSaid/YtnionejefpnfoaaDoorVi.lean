/- The walks of to, Part, Before and Find over any halves. Conditions: the ranges that the theorems state. -/
import Derived.Test.YtnionejefpnfoaaDoorVh
import Derived.BigQuiet
set_option linter.unusedSimpArgs false
set_option linter.unusedVariables false
namespace Go.Proofs.YtnionejefpnfoaaDoor
open Go.RowKit Go.Shelf Go

def pTo (k : Int) (y z : Nd) (b : Int) : Bool := decide (k < (z.1 : Int))
def pFind (x : Int) (y z : Nd) (b : Int) : Bool := decide (x < b + y.2.2)
set_option maxRecDepth 100000 in
set_option maxHeartbeats 2000000 in
theorem toTest_any (a1 n1 t1 a2 n2 t2 b k : Int) (g : Nat) (W : World) (hg : Blk W g 3 #[.int .i64 k]) :
    Calls Tryd.prog 32 (#[nodV a1 n1 t1, nodV a2 n2 t2, .int .i64 b] ++ #[.pointer (some ⟨g, 0, none⟩)]) W fun E W' => E = .returned (.bool (decide (k < a2))) ∧ Below W.heap.size W W' := by
  have hz : (W.alloc (.cells (nodC a1 n1 t1) 53)).heap.size = W.heap.size + 1 := by simp
  have k1 := (hg.alloc (.cells (nodC a1 n1 t1) 53)).alloc (.cells (nodC a2 n2 t2) 53)
  have k2 : Blk ((W.alloc (.cells (nodC a1 n1 t1) 53)).alloc (.cells (nodC a2 n2 t2) 53)) (W.heap.size + 1) 53 (nodC a2 n2 t2) := Blk.new' hz.symm
  have bb : Below W.heap.size W ((W.alloc (.cells (nodC a1 n1 t1) 53)).alloc (.cells (nodC a2 n2 t2) 53)) := ((Below.refl W.heap.size W).alloc (Nat.le_refl _) _).alloc (by rw [hz]; omega) _
  have c1 : ((W.alloc (.cells (nodC a1 n1 t1) 53)).alloc (.cells (nodC a2 n2 t2) 53)).cell? ⟨g, 0, none⟩ = some (.int .i64 k) := k1.at_ rfl
  have c2 : ((W.alloc (.cells (nodC a1 n1 t1) 53)).alloc (.cells (nodC a2 n2 t2) 53)).cell? ⟨W.heap.size + 1, 0, none⟩ = some (.int .i64 a2) := k2.at_ rfl
  clear hg k1 k2
  go_enter Tryd.func32, Tryd.ntmps32
  go_wp2_with fail
  go_ret
  exact ⟨rfl, bb⟩
set_option maxRecDepth 100000 in
set_option maxHeartbeats 2000000 in
theorem findTest_any (a1 n1 t1 a2 n2 t2 b k : Int) (g : Nat) (W : World) (hg : Blk W g 3 #[.int .i64 k]) (hb : IntKind.i64.wrap (b + t1) = b + t1) :
    Calls Tryd.prog 26 (#[nodV a1 n1 t1, nodV a2 n2 t2, .int .i64 b] ++ #[.pointer (some ⟨g, 0, none⟩)]) W fun E W' => E = .returned (.bool (decide (k < b + t1))) ∧ Below W.heap.size W W' := by
  have hz : (W.alloc (.cells (nodC a1 n1 t1) 53)).heap.size = W.heap.size + 1 := by simp
  have k1 := (hg.alloc (.cells (nodC a1 n1 t1) 53)).alloc (.cells (nodC a2 n2 t2) 53)
  have k2 : Blk ((W.alloc (.cells (nodC a1 n1 t1) 53)).alloc (.cells (nodC a2 n2 t2) 53)) W.heap.size 53 (nodC a1 n1 t1) := (Blk.new W 53 _).alloc _
  have bb : Below W.heap.size W ((W.alloc (.cells (nodC a1 n1 t1) 53)).alloc (.cells (nodC a2 n2 t2) 53)) := ((Below.refl W.heap.size W).alloc (Nat.le_refl _) _).alloc (by rw [hz]; omega) _
  have c1 : ((W.alloc (.cells (nodC a1 n1 t1) 53)).alloc (.cells (nodC a2 n2 t2) 53)).cell? ⟨g, 0, none⟩ = some (.int .i64 k) := k1.at_ rfl
  have c2 : ((W.alloc (.cells (nodC a1 n1 t1) 53)).alloc (.cells (nodC a2 n2 t2) 53)).cell? ⟨W.heap.size, 2, none⟩ = some (.int .i64 t1) := k2.at_ rfl
  clear hg k1 k2
  go_enter Tryd.func26, Tryd.ntmps26
  go_wp2_with fail
  go_ret
  exact ⟨rfl, bb⟩
section
variable {s : ByteArray} {A : Option Addr} {n c : Nat} {l : List Int} {w : World} {T lo hi : Int} {m : Nat} {D : Nat → Nat → Int → Int} {I : Nat → Nat → Int → Prop}
set_option maxRecDepth 100000 in
set_option maxHeartbeats 4000000 in
theorem to_any (h : Net s A n l w) (H : Halved s A n c l T (m : Int) lo hi D I) (hI : I 0 m T) (hT : ∀ a m t, I a m t → -68719476736 ≤ t ∧ t ≤ 68719476736) (k : Int) :
    Calls Tryd.prog 23 #[spV s A n c T (m : Int) lo hi, .int .i64 k] w fun E W' => E = .returned (.tuple #[nodV (desc D (pTo k) 0 m T 0).1.1 (desc D (pTo k) 0 m T 0).1.2.1 (desc D (pTo k) 0 m T 0).1.2.2, .int .i64 (desc D (pTo k) 0 m T 0).2]) ∧ Below w.heap.size w W' := by
  have z1 : (w.alloc (.cells (spC s A n c T (m : Int) lo hi) 28)).heap.size = w.heap.size + 1 := by simp
  have z2 : ((w.alloc (.cells (spC s A n c T (m : Int) lo hi) 28)).alloc (.cells #[.int .i64 k] 3)).heap.size = w.heap.size + 2 := by simp
  have k1 : Blk (((w.alloc (.cells (spC s A n c T (m : Int) lo hi) 28)).alloc (.cells #[.int .i64 k] 3)).alloc (.cells (nodC 0 0 0) 53)) w.heap.size 28 (spC s A n c T (m : Int) lo hi) := ((Blk.new w 28 _).alloc _).alloc _
  have k2 : Blk (((w.alloc (.cells (spC s A n c T (m : Int) lo hi) 28)).alloc (.cells #[.int .i64 k] 3)).alloc (.cells (nodC 0 0 0) 53)) (w.heap.size + 1) 3 #[.int .i64 k] := (Blk.new' z1.symm).alloc _
  have k3 : Blk (((w.alloc (.cells (spC s A n c T (m : Int) lo hi) 28)).alloc (.cells #[.int .i64 k] 3)).alloc (.cells (nodC 0 0 0) 53)) (w.heap.size + 2) 53 (nodC 0 0 0) := Blk.new' z2.symm
  have b3 : Below w.heap.size w (((w.alloc (.cells (spC s A n c T (m : Int) lo hi) 28)).alloc (.cells #[.int .i64 k] 3)).alloc (.cells (nodC 0 0 0) 53)) := (((Below.refl w.heap.size w).alloc (Nat.le_refl _) _).alloc (by rw [z1]; omega) _).alloc (by rw [z2]; omega) _
  have HD := Lib.hid (down_any (h.below b3) H hI hT 32 #[.pointer (some ⟨w.heap.size + 1, 0, none⟩)] (enters_of Tryd.func32 (by kernel_rfl) rfl) (pTo k) (fun y z b W hW _ _ _ => toTest_any _ _ _ _ _ _ b k (w.heap.size + 1) W (k2.thru hW)))
  generalize desc D (pTo k) 0 m T 0 = R at *
  have d0 : (((w.alloc (.cells (spC s A n c T (m : Int) lo hi) 28)).alloc (.cells #[.int .i64 k] 3)).alloc (.cells (nodC 0 0 0) 53)).cell? ⟨w.heap.size, 0, none⟩ = some (.string s) := k1.at_ rfl
  have d1 : (((w.alloc (.cells (spC s A n c T (m : Int) lo hi) 28)).alloc (.cells #[.int .i64 k] 3)).alloc (.cells (nodC 0 0 0) 53)).cell? ⟨w.heap.size, 1, none⟩ = some (.slice A n c) := k1.at_ rfl
  have d2 : (((w.alloc (.cells (spC s A n c T (m : Int) lo hi) 28)).alloc (.cells #[.int .i64 k] 3)).alloc (.cells (nodC 0 0 0) 53)).cell? ⟨w.heap.size, 2, none⟩ = some (.int .i64 T) := k1.at_ rfl
  have d3 : (((w.alloc (.cells (spC s A n c T (m : Int) lo hi) 28)).alloc (.cells #[.int .i64 k] 3)).alloc (.cells (nodC 0 0 0) 53)).cell? ⟨w.heap.size, 3, none⟩ = some (.int .i64 (m : Int)) := k1.at_ rfl
  have d4 : (((w.alloc (.cells (spC s A n c T (m : Int) lo hi) 28)).alloc (.cells #[.int .i64 k] 3)).alloc (.cells (nodC 0 0 0) 53)).cell? ⟨w.heap.size, 4, none⟩ = some (.int .i64 lo) := k1.at_ rfl
  have d5 : (((w.alloc (.cells (spC s A n c T (m : Int) lo hi) 28)).alloc (.cells #[.int .i64 k] 3)).alloc (.cells (nodC 0 0 0) 53)).cell? ⟨w.heap.size, 5, none⟩ = some (.int .i64 hi) := k1.at_ rfl
  clear k1 k2 z1 z2 H hT hI
  go_enter Tryd.func23, Tryd.ntmps23
  go_wp2_with fail
  refine HD.out.mono ?_
  rintro E w4 ⟨rfl, b4⟩
  have m3 := k3.thru b4
  have B4 := below_next b3 b4
  have f0 := m3.frozen 0
  have f1 := m3.frozen 1
  have f2 := m3.frozen 2
  have x0 : w4.cell? ⟨w.heap.size + 2, 0, none⟩ = some (.int .i64 0) := m3.at_ rfl
  have x1 : w4.cell? ⟨w.heap.size + 2, 1, none⟩ = some (.int .i64 0) := m3.at_ rfl
  have x2 : w4.cell? ⟨w.heap.size + 2, 2, none⟩ = some (.int .i64 0) := m3.at_ rfl
  clear b4 k3 b3 d0 d1 d2 d3 d4 d5
  go_wp2_with fail
  have g1 := ((m3.set_ 0 (.int .i64 (R.1.1 : Int))).set_ 1 (.int .i64 (R.1.2.1 : Int))).set_ 2 (.int .i64 R.1.2.2)
  have g2 : Blk (((w4.setCell ⟨w.heap.size + 2, 0, none⟩ (.int .i64 (R.1.1 : Int))).setCell ⟨w.heap.size + 2, 1, none⟩ (.int .i64 (R.1.2.1 : Int))).setCell ⟨w.heap.size + 2, 2, none⟩ (.int .i64 R.1.2.2)) (w.heap.size + 2) 53 (nodC R.1.1 R.1.2.1 R.1.2.2) := g1
  refine ret_row_tmp (g := w.heap.size + 2) (t := 53) (v := .int .i64 R.2) Tryd.results23 rfl g2 rfl Tryd.underlying53 info42 rfl rfl ?_
  exact ⟨rfl, ((B4.setCell (Nat.le_add_right _ 2) _).setCell (Nat.le_add_right _ 2) _).setCell (Nat.le_add_right _ 2) _⟩
set_option maxRecDepth 100000 in
set_option maxHeartbeats 4000000 in
theorem part_any (h : Net s A n l w) (hO : SOk s n T (m : Int) lo hi) (H : Halved s A n c l T (m : Int) lo hi D I) (hI : I 0 m T) (hT : ∀ a m t, I a m t → -68719476736 ≤ t ∧ t ≤ 68719476736) (k : Int) (hk0 : 0 ≤ k) (hk1 : k < (m : Int)) :
    Calls Tryd.prog 13 #[spV s A n c T (m : Int) lo hi, .int .i64 k] w fun E W' => E = .returned (.tuple #[.int .i64 (desc D (pTo k) 0 m T 0).1.2.2, .int .i64 0]) ∧ Below w.heap.size w W' := by
  have HV := Lib.hid (fun W => validS_ok hO A c W)
  have HT := Lib.hid (fun W hW => to_any (h.below (w := w) (w' := W) hW) H hI hT k)
  have k0 := Blk.new w 28 (spC s A n c T (m : Int) lo hi)
  have b0 := (Below.refl w.heap.size w).alloc (Nat.le_refl _) (.cells (spC s A n c T (m : Int) lo hi) 28)
  generalize desc D (pTo k) 0 m T 0 = R at *
  have g0 : ¬ k < 0 := by omega
  have g1 : ¬ (m : Int) ≤ k := by omega
  clear H hT hI hO h hk0
  go_enter Tryd.func13, Tryd.ntmps13
  go_wp2_with fail
  refine (HV.out _).mono ?_
  rintro E w1 ⟨rfl, b1⟩
  have k1 := k0.thru b1
  have B1 := below_next b0 b1
  have d0 : w1.cell? ⟨w.heap.size, 0, none⟩ = some (.string s) := k1.at_ rfl
  have d1 : w1.cell? ⟨w.heap.size, 1, none⟩ = some (.slice A n c) := k1.at_ rfl
  have d2 : w1.cell? ⟨w.heap.size, 2, none⟩ = some (.int .i64 T) := k1.at_ rfl
  have d3 : w1.cell? ⟨w.heap.size, 3, none⟩ = some (.int .i64 (m : Int)) := k1.at_ rfl
  have d4 : w1.cell? ⟨w.heap.size, 4, none⟩ = some (.int .i64 lo) := k1.at_ rfl
  have d5 : w1.cell? ⟨w.heap.size, 5, none⟩ = some (.int .i64 hi) := k1.at_ rfl
  clear k0 b0 b1
  go_wp2_with fail
  refine (HT.out _ B1).mono ?_
  rintro E w2 ⟨rfl, b2⟩
  have B2 := below_next B1 b2
  clear d0 d1 d2 d3 d4 d5 k1 b2
  go_wp2_with fail
  go_ret2
  exact ⟨rfl, B2.alloc B2.size _⟩
set_option maxRecDepth 100000 in
set_option maxHeartbeats 4000000 in
theorem before_any (h : Net s A n l w) (hO : SOk s n T (m : Int) lo hi) (H : Halved s A n c l T (m : Int) lo hi D I) (hI : I 0 m T) (hT : ∀ a m t, I a m t → -68719476736 ≤ t ∧ t ≤ 68719476736) (k : Int) (hk0 : 0 ≤ k) (hk1 : k < (m : Int)) :
    Calls Tryd.prog 15 #[spV s A n c T (m : Int) lo hi, .int .i64 k] w fun E W' => E = .returned (.tuple #[.int .i64 (desc D (pTo k) 0 m T 0).2, .int .i64 0]) ∧ Below w.heap.size w W' := by
  have HV := Lib.hid (fun W => validS_ok hO A c W)
  have HT := Lib.hid (fun W hW => to_any (h.below (w := w) (w' := W) hW) H hI hT k)
  have k0 := Blk.new w 28 (spC s A n c T (m : Int) lo hi)
  have b0 := (Below.refl w.heap.size w).alloc (Nat.le_refl _) (.cells (spC s A n c T (m : Int) lo hi) 28)
  generalize desc D (pTo k) 0 m T 0 = R at *
  have g0 : ¬ k < 0 := by omega
  have g1 : ¬ (m : Int) < k := by omega
  have g2 : (k == (m : Int)) = false := by
    have : ¬ k = (m : Int) := by omega
    simpa using this
  clear H hT hI hO h hk0 hk1
  go_enter Tryd.func15, Tryd.ntmps15
  go_wp2_with fail
  refine (HV.out _).mono ?_
  rintro E w1 ⟨rfl, b1⟩
  have k1 := k0.thru b1
  have B1 := below_next b0 b1
  have d0 : w1.cell? ⟨w.heap.size, 0, none⟩ = some (.string s) := k1.at_ rfl
  have d1 : w1.cell? ⟨w.heap.size, 1, none⟩ = some (.slice A n c) := k1.at_ rfl
  have d2 : w1.cell? ⟨w.heap.size, 2, none⟩ = some (.int .i64 T) := k1.at_ rfl
  have d3 : w1.cell? ⟨w.heap.size, 3, none⟩ = some (.int .i64 (m : Int)) := k1.at_ rfl
  have d4 : w1.cell? ⟨w.heap.size, 4, none⟩ = some (.int .i64 lo) := k1.at_ rfl
  have d5 : w1.cell? ⟨w.heap.size, 5, none⟩ = some (.int .i64 hi) := k1.at_ rfl
  clear k0 b0 b1
  go_wp2_with fail
  refine (HT.out _ B1).mono ?_
  rintro E w2 ⟨rfl, b2⟩
  have B2 := below_next B1 b2
  clear d0 d1 d2 d3 d4 d5 k1 b2
  go_wp2_with fail
  go_ret2
  exact ⟨rfl, B2.alloc B2.size _⟩
set_option maxRecDepth 100000 in
set_option maxHeartbeats 4000000 in
theorem before_all (hO : SOk s n T (m : Int) lo hi) :
    Calls Tryd.prog 15 #[spV s A n c T (m : Int) lo hi, .int .i64 (m : Int)] w fun E W' => E = .returned (.tuple #[.int .i64 T, .int .i64 0]) ∧ Below w.heap.size w W' := by
  have HV := Lib.hid (fun W => validS_ok hO A c W)
  have k0 := Blk.new w 28 (spC s A n c T (m : Int) lo hi)
  have b0 := (Below.refl w.heap.size w).alloc (Nat.le_refl _) (.cells (spC s A n c T (m : Int) lo hi) 28)
  clear hO
  go_enter Tryd.func15, Tryd.ntmps15
  go_wp2_with fail
  refine (HV.out _).mono ?_
  rintro E w1 ⟨rfl, b1⟩
  have k1 := k0.thru b1
  have B1 := below_next b0 b1
  have d2 : w1.cell? ⟨w.heap.size, 2, none⟩ = some (.int .i64 T) := k1.at_ rfl
  have d3 : w1.cell? ⟨w.heap.size, 3, none⟩ = some (.int .i64 (m : Int)) := k1.at_ rfl
  clear k0 b0 b1
  go_wp2_with fail
  go_ret2
  exact ⟨rfl, B1⟩
set_option maxRecDepth 100000 in
set_option maxHeartbeats 4000000 in
theorem find_any (h : Net s A n l w) (hO : SOk s n T (m : Int) lo hi) (H : Halved s A n c l T (m : Int) lo hi D I) (hI : I 0 m T) (hT : ∀ a m t, I a m t → -68719476736 ≤ t ∧ t ≤ 68719476736) (hlo : 0 ≤ lo) (x : Int) (hx0 : 0 ≤ x) (hx1 : x < T)
    (hR : -4503599627370496 ≤ (desc D (pFind x) 0 m T 0).2 ∧ (desc D (pFind x) 0 m T 0).2 ≤ 4503599627370496) :
    Calls Tryd.prog 17 #[spV s A n c T (m : Int) lo hi, .int .i64 x] w fun E W' => E = .returned (.tuple #[.int .i64 ((desc D (pFind x) 0 m T 0).1.1 : Int), .int .i64 (x - (desc D (pFind x) 0 m T 0).2), .int .i64 0]) ∧ Below w.heap.size w W' := by
  have hT0 := (hT 0 m T hI)
  have HV := Lib.hid (fun W => validS_ok hO A c W)
  have z1 : (w.alloc (.cells (spC s A n c T (m : Int) lo hi) 28)).heap.size = w.heap.size + 1 := by simp
  have k0 : Blk ((w.alloc (.cells (spC s A n c T (m : Int) lo hi) 28)).alloc (.cells #[.int .i64 x] 3)) w.heap.size 28 (spC s A n c T (m : Int) lo hi) := (Blk.new w 28 _).alloc _
  have k9 : Blk ((w.alloc (.cells (spC s A n c T (m : Int) lo hi) 28)).alloc (.cells #[.int .i64 x] 3)) (w.heap.size + 1) 3 #[.int .i64 x] := Blk.new' z1.symm
  have b0 : Below w.heap.size w ((w.alloc (.cells (spC s A n c T (m : Int) lo hi) 28)).alloc (.cells #[.int .i64 x] 3)) := ((Below.refl w.heap.size w).alloc (Nat.le_refl _) _).alloc (by rw [z1]; omega) _
  have HDN : Hid (∀ W, Below w.heap.size w W → Blk W (w.heap.size + 1) 3 #[.int .i64 x] → _) := Lib.hid (fun W hW hg => down_any (h.below (w := w) (w' := W) hW) H hI hT 26 #[.pointer (some ⟨w.heap.size + 1, 0, none⟩)] (enters_of Tryd.func26 (by kernel_rfl) rfl) (pFind x)
    (fun y z b W2 hW2 hy _ hb => findTest_any _ _ _ _ _ _ b x (w.heap.size + 1) W2 (hg.thru hW2) (by have := hT _ _ _ hy; exact wrap_small (by omega) (by omega))))
  generalize desc D (pFind x) 0 m T 0 = R at *
  have g0 : ¬ lo < 0 := by omega
  have g1 : ¬ x < 0 := by omega
  have g2 : ¬ T ≤ x := by omega
  have hw : IntKind.i64.wrap (x - R.2) = x - R.2 := wrap_small (by omega) (by omega)
  clear H hT hI hO h hx0 hx1 hlo z1 hR hT0
  go_enter Tryd.func17, Tryd.ntmps17
  go_wp2_with fail
  refine (HV.out _).mono ?_
  rintro E w1 ⟨rfl, b1⟩
  have k1 := k0.thru b1
  have k8 := k9.thru b1
  have B1 := below_next b0 b1
  have d0 : w1.cell? ⟨w.heap.size, 0, none⟩ = some (.string s) := k1.at_ rfl
  have d1 : w1.cell? ⟨w.heap.size, 1, none⟩ = some (.slice A n c) := k1.at_ rfl
  have d2 : w1.cell? ⟨w.heap.size, 2, none⟩ = some (.int .i64 T) := k1.at_ rfl
  have d3 : w1.cell? ⟨w.heap.size, 3, none⟩ = some (.int .i64 (m : Int)) := k1.at_ rfl
  have d4 : w1.cell? ⟨w.heap.size, 4, none⟩ = some (.int .i64 lo) := k1.at_ rfl
  have d5 : w1.cell? ⟨w.heap.size, 5, none⟩ = some (.int .i64 hi) := k1.at_ rfl
  have d6 : w1.cell? ⟨w.heap.size + 1, 0, none⟩ = some (.int .i64 x) := k8.at_ rfl
  clear k0 b0 b1 k9
  go_wp2_with fail
  refine (HDN.out _ B1 k8).mono ?_
  rintro E w2 ⟨rfl, b2⟩
  have B2 := below_next B1 b2
  have k7 := k8.thru b2
  have B3 := B2.alloc B2.size (.cells (nodC R.1.1 R.1.2.1 R.1.2.2) 53)
  have k6 := k7.alloc (.cells (nodC R.1.1 R.1.2.1 R.1.2.2) 53)
  have k5 := Blk.new w2 53 (nodC R.1.1 R.1.2.1 R.1.2.2)
  have e0 : (w2.alloc (.cells (nodC R.1.1 R.1.2.1 R.1.2.2) 53)).cell? ⟨w.heap.size + 1, 0, none⟩ = some (.int .i64 x) := k6.at_ rfl
  have e1 : (w2.alloc (.cells (nodC R.1.1 R.1.2.1 R.1.2.2) 53)).cell? ⟨w2.heap.size, 0, none⟩ = some (.int .i64 (R.1.1 : Int)) := k5.at_ rfl
  have e2 : (w2.alloc (.cells (nodC R.1.1 R.1.2.1 R.1.2.2) 53)).drew.cell? ⟨w.heap.size + 1, 0, none⟩ = some (.int .i64 x) := k6.drew.at_ rfl
  have e3 : (w2.alloc (.cells (nodC R.1.1 R.1.2.1 R.1.2.2) 53)).drew.cell? ⟨w2.heap.size, 0, none⟩ = some (.int .i64 (R.1.1 : Int)) := k5.drew.at_ rfl
  clear d0 d1 d2 d3 d4 d5 d6 k1 k7 k8 b2 B1 B2
  go_upto_region 9 with fail
  go_quiet (fail)
  go_wp2_with fail
  go_ret3
  exact ⟨rfl, below_drewN' B3 _⟩
end
end Go.Proofs.YtnionejefpnfoaaDoor
