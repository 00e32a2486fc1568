/- The walk of the law LifeReaches. Conditions: the round constants lie in their variable. -/
import Derived.Test.YtiajlglnefiemaaDoorSx
import Derived.Test.YtiajlglnefiemaaDoorSg
import Derived.BigRegion
import Derived.Deep.RegionHeld3
set_option linter.unusedSimpArgs false
set_option linter.unusedVariables false
namespace Go.Proofs.YtiajlglnefiemaaDoor
open Go.RowKit

theorem own_slice2 {w : World} {base : Nat} {e : TypeId} {n : Nat} {v : Value} {xs : List Value} (h : w.ownsRow base e 1 v n xs) : ∃ A c, v = .slice A n c ∧ n ≤ c ∧ c ≤ 9223372036854775807 ∧ Reads w w.heap.size 1 A n xs := by
  obtain ⟨A, c, rfl, h1, -, -⟩ := own_slice h
  refine ⟨A, c, rfl, h1, ?_, Reads.of_own h⟩
  rcases h.2 with ⟨e, -⟩ | ⟨g, cap, cur, e, -, -, -, hc, -⟩
  · injection e with e1 e2 e3
    omega
  · injection e with e1 e2 e3
    unfold maxLen at hc
    omega
theorem cell_alloc {w : World} {p : Addr} {v : Value} {o : Obj} (h : w.cell? p = some v) : (w.alloc o).cell? p = some v := (World.cell?_alloc_lt w o p (World.block_lt_of_cell? _ _ h)).trans h
/-- life cycle i of a row of life cycles -/
def LAt (W : World) (C : Array Value) (i : Nat) : Prop := ∃ nm A n c B m d M, C[i * 3]? = some (.string nm) ∧ C[i * 3 + 1]? = some (.slice A n c) ∧ C[i * 3 + 2]? = some (.slice B m d) ∧ Reads W W.heap.size 2 B m (movsV M) ∧ n ≤ 1000000 ∧ m ≤ 1000000
theorem LAt.below {W W' : World} {C : Array Value} {i : Nat} (h : LAt W C i) (hb : Below W.heap.size W W') : LAt W' C i := by
  obtain ⟨nm, A, n, c, B, m, d, M, h1, h2, h3, h4, h5, h6⟩ := h
  exact ⟨nm, A, n, c, B, m, d, M, h1, h2, h3, (h4.below hb).more hb.size, h5, h6⟩
set_option maxRecDepth 100000 in
set_option maxHeartbeats 8000000 in
theorem lifeReaches_any (A : Option Addr) (n c : Nat) (l : List Int) (at_ how by_ lo hi : Int) (D : Option Addr) (k ck : Nat) (st : List Int) (w : World) (_hnc : n ≤ c) (hm : n ≤ maxLen) (hl : Reads w w.heap.size 1 A n (ints l)) (hI : ∀ x ∈ l, I64 x) (hat : I64 at_) (hhow : I64 how) (hby : I64 by_) (hlo : I64 lo) (hhi : I64 hi)
    (hkc : k ≤ ck) (hkm : k ≤ maxLen) (hst : Reads w w.heap.size 1 D k (ints st)) (hSI : ∀ x ∈ st, I64 x)
    (hK : Consts w) (h0 : 0 < w.heap.size) :
    Calls Tryd.prog 10 #[.slice A n c, .int .i64 at_, .int .i64 how, .int .i64 by_, .int .i64 lo, .int .i64 hi, .slice D k ck] w fun e W' => e = .returned (.bool true) ∧ Below w.heap.size w W' := by
  have a1 := fun W => around_any lo 12 W hlo.1 hlo.2 (by omega) (by omega)
  have a2 := fun W => around_any hi 6 W hhi.1 hhi.2 (by omega) (by omega)
  have a3 := fun W => around_any hi 5 W hhi.1 hhi.2 (by omega) (by omega)
  have b1 := around_lt lo 12 (by omega)
  have b2 := around_lt hi 6 (by omega)
  have b3 := around_lt hi 5 (by omega)
  generalize around lo 12 = r1 at *
  generalize around hi 6 = r2 at *
  generalize around hi 5 = r3 at *
  have AR1 := Lib.hid a1
  have AR2 := Lib.hid a2
  have AR3 := Lib.hid a3
  clear a1 a2 a3
  go_enter Tryd.func10, Tryd.ntmps10
  go_wp2_with fail
  refine (made_life2 A n c l w hl hI hm).mono ?_
  rintro E w1 ⟨nm, A', n', c', B, m, d, M, xs, rfl, hr, hE, hn6, c1, hx, h1, hnc', hmd⟩
  clear hl
  obtain ⟨hn1, hn12, hm0, -⟩ := lifeE_ok hE
  have hm32 : m ≤ 32 := by have := hr.mov_len; omega
  have L3 := Blk.new w1 50 #[.string nm, .slice A' n' c', .slice B m d]
  have m3 := hr.alloc (Nat.le_refl _) (.cells #[.string nm, .slice A' n' c', .slice B m d] 50)
  have x3 := hx.alloc (Nat.le_refl _) (.cells #[.string nm, .slice A' n' c', .slice B m d] 50)
  have b4 := c1.alloc c1.size (.cells #[.string nm, .slice A' n' c', .slice B m d] 50)
  have z3 : w1.heap.size < (w1.alloc (.cells #[.string nm, .slice A' n' c', .slice B m d] 50)).heap.size := by simp
  go_wp2_with fail
  generalize w1.alloc (.cells #[.string nm, .slice A' n' c', .slice B m d] 50) = w2 at *
  generalize w1.heap.size = gL at *
  have m3' := m3.more (Nat.le_of_lt z3)
  have x3' := x3.more (Nat.le_of_lt z3)
  clear m3 x3 hr hx c1 hI
  have hbt := bent_life nm A' n' c' B m d M xs at_ how by_ w2.drew m3' x3' h1 (by omega) hm32 hat hhow hby
  have HB := Lib.hid hbt
  have p0 : w2.cell? ⟨gL, 0, none⟩ = some (.string nm) := L3.at_ rfl
  have p1 : w2.cell? ⟨gL, 1, none⟩ = some (.slice A' n' c') := L3.at_ rfl
  have p2 : w2.cell? ⟨gL, 2, none⟩ = some (.slice B m d) := L3.at_ rfl
  clear hbt
  go_region_held3 (fun W => W.cell? ⟨gL, 0, none⟩ = some (.string nm) ∧ W.cell? ⟨gL, 1, none⟩ = some (.slice A' n' c') ∧ W.cell? ⟨gL, 2, none⟩ = some (.slice B m d)) (first | exact ⟨p0, p1, p2⟩ | exact ⟨q0, q1, q2⟩ | exact ⟨cell_alloc q0, cell_alloc q1, cell_alloc q2⟩)
    (first | (go_at_call 34; refine HB.out.mono ?_; rintro E w3 ⟨nm2, A2, n2, c2, B2, m2, d2, M2, rfl, hr2, hn2, hm2, k3⟩; have L4 := L3.drew.thru k3; have q0 : w3.cell? ⟨gL, 0, none⟩ = some (.string nm) := L4.at_ rfl; have q1 : w3.cell? ⟨gL, 1, none⟩ = some (.slice A' n' c') := L4.at_ rfl; have q2 : w3.cell? ⟨gL, 2, none⟩ = some (.slice B m d) := L4.at_ rfl))
  have hr4 := (m3'.drew.below k3).alloc k3.size (.cells #[.string nm, .slice A' n' c', .slice B m d, .string nm2, .slice A2 n2 c2, .slice B2 m2 d2, .string ⟨#[]⟩, .slice none 0 0, .slice none 0 0] 50)
  have hr5 := hr2.alloc (Nat.le_refl _) (.cells #[.string nm, .slice A' n' c', .slice B m d, .string nm2, .slice A2 n2 c2, .slice B2 m2 d2, .string ⟨#[]⟩, .slice none 0 0, .slice none 0 0] 50)
  have k4 := Blk.new w3 50 #[.string nm, .slice A' n' c', .slice B m d, .string nm2, .slice A2 n2 c2, .slice B2 m2 d2, .string ⟨#[]⟩, .slice none 0 0, .slice none 0 0]
  have c4 := (below_next (below_drewN' b4 1) k3).alloc (below_next (below_drewN' b4 1) k3).size (.cells #[.string nm, .slice A' n' c', .slice B m d, .string nm2, .slice A2 n2 c2, .slice B2 m2 d2, .string ⟨#[]⟩, .slice none 0 0, .slice none 0 0] 50)
  have z4 : w3.heap.size < (w3.alloc (.cells #[.string nm, .slice A' n' c', .slice B m d, .string nm2, .slice A2 n2 c2, .slice B2 m2 d2, .string ⟨#[]⟩, .slice none 0 0, .slice none 0 0] 50)).heap.size := by simp
  have hs3 : w2.heap.size ≤ w3.heap.size := k3.size
  clear L3 L4 m3' x3' b4 k3 p0 p1 p2 q0 q1 q2 hr2
  generalize w3.alloc (.cells #[.string nm, .slice A' n' c', .slice B m d, .string nm2, .slice A2 n2 c2, .slice B2 m2 d2, .string ⟨#[]⟩, .slice none 0 0, .slice none 0 0] 50) = w4 at *
  have hLA : ∀ i, i < 3 → LAt w4 #[.string nm, .slice A' n' c', .slice B m d, .string nm2, .slice A2 n2 c2, .slice B2 m2 d2, .string ⟨#[]⟩, .slice none 0 0, .slice none 0 0] i := by
    intro i hi
    have : i = 0 ∨ i = 1 ∨ i = 2 := by omega
    rcases this with rfl | rfl | rfl
    · exact ⟨nm, A', n', c', B, m, d, M, rfl, rfl, rfl, hr4.more (by omega), by omega, by omega⟩
    · exact ⟨nm2, A2, n2, c2, B2, m2, d2, M2, rfl, rfl, rfl, hr5.more (by omega), by omega, by omega⟩
    · exact ⟨⟨#[]⟩, none, 0, 0, none, 0, 0, [], rfl, rfl, rfl, Reads.nil_ _ _ _ _, by omega, by omega⟩
  clear hr4 hr5 hE hnc' hmd hn1 hn12 hm0 hm32 hn6 h1
  generalize (#[.string nm, .slice A' n' c', .slice B m d, .string nm2, .slice A2 n2 c2, .slice B2 m2 d2, .string ⟨#[]⟩, .slice none 0 0, .slice none 0 0] : Array Value) = CL at *
  generalize w3.heap.size = gC at *
  go_wp2_with fail
  refine (AR1.out _).mono ?_
  rintro E w5 ⟨rfl, rfl⟩
  go_wp2_with fail
  refine (AR2.out _).mono ?_
  rintro E w6 ⟨rfl, rfl⟩
  go_wp2_with fail
  refine (AR3.out _).mono ?_
  rintro E w7 ⟨rfl, rfl⟩
  have hw1 : IntKind.i64.wrap (r1 + r2) = r1 + r2 := by rw [IntKind.wrap_i64]; omega
  have hw2 : IntKind.i64.wrap (998 + r3) = 998 + r3 := by rw [IntKind.wrap_i64]; omega
  go_wp2_with fail
  have hCB : ∀ q, q < 4 → ∃ x y, (#[.int .i64 r1, .int .i64 (r1 + r2), .int .i64 lo, .int .i64 hi, .int .i64 r1, .int .i64 (998 + r3), .int .i64 (-1), .int .i64 3] : Array Value)[q * 2]? = some (.int .i64 x) ∧ (#[.int .i64 r1, .int .i64 (r1 + r2), .int .i64 lo, .int .i64 hi, .int .i64 r1, .int .i64 (998 + r3), .int .i64 (-1), .int .i64 3] : Array Value)[q * 2 + 1]? = some (.int .i64 y) := by
    intro q hq
    have : q = 0 ∨ q = 1 ∨ q = 2 ∨ q = 3 := by omega
    rcases this with rfl | rfl | rfl | rfl <;> exact ⟨_, _, rfl, rfl⟩
  generalize (#[.int .i64 r1, .int .i64 (r1 + r2), .int .i64 lo, .int .i64 hi, .int .i64 r1, .int .i64 (998 + r3), .int .i64 (-1), .int .i64 3] : Array Value) = CB at *
  have k5 := Blk.new w7 54 CB
  have kC := k4.alloc (.cells CB 54)
  have c5 := c4.alloc c4.size (.cells CB 54)
  have z5 : w7.heap.size < (w7.alloc (.cells CB 54)).heap.size := by simp
  have hLA5 : ∀ i, i < 3 → LAt (w7.alloc (.cells CB 54)) CL i := fun i hi => (hLA i hi).below ((Below.refl _ _).alloc (Nat.le_refl _) _)
  clear hLA k4 c4 AR1 AR2 AR3 hw1 hw2 b1 b2 b3 HB
  generalize w7.alloc (.cells CB 54) = w8 at *
  generalize w7.heap.size = gB at *
  refine (take_any D k ck 10 st w8 ((hst.below c5).more c5.size) hkc hkm (by omega)).mono ?_
  rintro E w9 ⟨v, rfl, hown, b9⟩
  obtain ⟨D9, ck9, rfl, hc9, hcm9, hr9⟩ := own_slice2 hown
  have hk9 := k5.thru b9
  have hC9 := kC.thru b9
  have c9 := below_next c5 b9
  have hLA9 : ∀ i, i < 3 → LAt w9 CL i := fun i hi => (hLA5 i hi).below b9
  clear hst hown k5 kC c5 hLA5 b9 hat hhow hby hlo hhi hSI hkc hkm hs3 hn2 hm2
  generalize st.take 10 = S9 at *
  have HLA := Lib.hid hLA9
  have HCB := Lib.hid hCB
  have HRS := Lib.hid hr9
  have CC := Lib.hid (And.intro hC9 hk9)
  have HC9 := Lib.hid c9
  clear hLA9 hCB hr9 hC9 hk9 c9
  go_wp2_with fail
  go_loopw [20] (fun i wr => ∃ i1 : Nat, i1 ≤ 3 ∧ i = .int .i64 (i1 : Int) ∧ Below w9.heap.size w9 wr) (fun i _ => (3 - intOf i).toNat)
  case atStart => exact ⟨0, by omega, rfl, Below.refl _ _⟩
  case round =>
    obtain ⟨i1, hi3, rfl, hb⟩ := hrel
    by_cases hlt : i1 < 3
    · have hji : (i1 : Int) < 3 := by omega
      obtain ⟨nm1, A1, n1, c1, B1, m1, d1, M1, e0, e1, e2, hM1, hn1, hm1⟩ := HLA.out i1 hlt
      have HE := Lib.hid (And.intro e0 (And.intro e1 e2))
      have HM := Lib.hid (fun (W : World) (hW : Below w9.heap.size w9 W) => (hM1.below hW).more hW.size)
      have HN := Lib.hid (And.intro hn1 hm1)
      clear e0 e1 e2 hM1 hn1 hm1
      go_wp2_with fail
      go_loopw [21] (fun i wr => ∃ q : Nat, q ≤ 4 ∧ i = .int .i64 (q : Int) ∧ Below w9.heap.size w9 wr) (fun i _ => (4 - intOf i).toNat)
      case atStart => exact ⟨0, by omega, rfl, hb⟩
      case round =>
        clear hb
        obtain ⟨q, hq4, rfl, hb⟩ := hrel
        by_cases hlq : q < 4
        · have hqi : (q : Int) < 4 := by omega
          obtain ⟨x, y, hx, hy⟩ := HCB.out q hlq
          have CS := Lib.hid (fun (W : World) (hW : Below w9.heap.size w9 W) =>
            (show W.cell? ⟨gC, i1 * 3, none⟩ = some (.string nm1) ∧ W.cell? ⟨gC, i1 * 3 + 1, none⟩ = some (.slice A1 n1 c1) ∧ W.cell? ⟨gC, i1 * 3 + 2, none⟩ = some (.slice B1 m1 d1) ∧ W.cell? ⟨gB, q * 2, none⟩ = some (.int .i64 x) ∧ W.cell? ⟨gB, q * 2 + 1, none⟩ = some (.int .i64 y) from
              let LC := CC.out.1.thru hW
              let LB := CC.out.2.thru hW
              ⟨LC.at_ HE.out.1, LC.at_ HE.out.2.1, LC.at_ HE.out.2.2, LB.at_ hx, LB.at_ hy⟩))
          have R1 := Lib.hid (fun (W : World) (hW : Below w9.heap.size w9 W) => reach_w nm1 A1 n1 c1 B1 m1 d1 M1 x y W (HM.out W hW) HN.out.1 HN.out.2)
          have R2 := Lib.hid (fun (W : World) (hW : Below w9.heap.size w9 W) => rReach_w nm1 A1 n1 c1 B1 m1 d1 M1 x y W (HM.out W hW) HN.out.1 HN.out.2)
          clear hx hy
          have s0 := CS.out wr hb
          have hbd : Below w9.heap.size w9 wr.drew := below_drewN' hb 1
          go_wp2_with fail
          go_region_held3 (fun W => W.cell? ⟨gC, i1 * 3, none⟩ = some (.string nm1) ∧ W.cell? ⟨gC, i1 * 3 + 1, none⟩ = some (.slice A1 n1 c1) ∧ W.cell? ⟨gC, i1 * 3 + 2, none⟩ = some (.slice B1 m1 d1) ∧ W.cell? ⟨gB, q * 2, none⟩ = some (.int .i64 x) ∧ W.cell? ⟨gB, q * 2 + 1, none⟩ = some (.int .i64 y))
            (first | exact s0 | exact s1 | exact s2 | exact s3)
            (first
              | (go_at_call 36; refine (R1.out wr.drew hbd).mono ?_; rintro E x1 ⟨C1, j1, cj1, rfl, rr1, hj1, bx1⟩; have hb1 := below_next hbd bx1; have s1 := CS.out x1 hb1)
              | (go_at_call 37; refine (R2.out x1 hb1).mono ?_; rintro E x2 ⟨C2, j2, cj2, rfl, rr2, hj2, bx2⟩; have hb2 := below_next hb1 bx2; have s2 := CS.out x2 hb2)
              | (go_at_call 35; have hs := sameBools_any C1 C2 j1 j2 cj1 cj2 _ _ x2.heap.size x2 ((rr1.below bx2).more bx2.size) rr2 hj1 hj2; rw [decide_eq_true rfl] at hs; refine hs.mono ?_; clear hs; rintro E x3 ⟨rfl, dq, rfl⟩; have hb3 := below_drewN' hb2 dq; have s3 := CS.out _ hb3))
          have HB3 := Lib.hid hb3
          go_wp2_with fail
          exact ⟨⟨q + 1, by omega, by go_num, HB3.out⟩, by simp [intOf]; omega⟩
        · obtain rfl : q = 4 := by omega
          have hqi : ¬ ((4 : Nat) : Int) < 4 := by omega
          have CS := Lib.hid (fun (W : World) (hW : Below w9.heap.size w9 W) =>
            (show W.cell? ⟨gC, i1 * 3, none⟩ = some (.string nm1) ∧ W.cell? ⟨gC, i1 * 3 + 1, none⟩ = some (.slice A1 n1 c1) ∧ W.cell? ⟨gC, i1 * 3 + 2, none⟩ = some (.slice B1 m1 d1) from
              let LC := CC.out.1.thru hW
              ⟨LC.at_ HE.out.1, LC.at_ HE.out.2.1, LC.at_ HE.out.2.2⟩))
          have R1 := Lib.hid (fun (W : World) (hW : Below w9.heap.size w9 W) => least_w nm1 A1 n1 c1 B1 m1 d1 M1 W (HM.out W hW) HN.out.1 HN.out.2)
          have R2 := Lib.hid (fun (W : World) (hW : Below w9.heap.size w9 W) => rLeast_w nm1 A1 n1 c1 B1 m1 d1 M1 W (HM.out W hW) HN.out.1 HN.out.2)
          have R3 := Lib.hid (fun (W : World) (hW : Below w9.heap.size w9 W) => is_any nm1 A1 n1 c1 B1 m1 d1 M1 D9 S9.length ck9 S9 W (HM.out W hW) ((HRS.out.below hW).more hW.size) HN.out.1 HN.out.2 hc9 hcm9)
          have R4 := Lib.hid (fun (W : World) (hW : Below w9.heap.size w9 W) => rIs_any nm1 A1 n1 c1 B1 m1 d1 M1 D9 S9.length ck9 S9 W (HM.out W hW) ((HRS.out.below hW).more hW.size) HN.out.1 HN.out.2 hc9 hcm9)
          generalize isB n1 M1 S9 = bo at *
          have s0 := CS.out wr hb
          have hbd : Below w9.heap.size w9 wr.drew := below_drewN' hb 1
          go_wp2_with fail
          go_region_held3 (fun W => W.cell? ⟨gC, i1 * 3, none⟩ = some (.string nm1) ∧ W.cell? ⟨gC, i1 * 3 + 1, none⟩ = some (.slice A1 n1 c1) ∧ W.cell? ⟨gC, i1 * 3 + 2, none⟩ = some (.slice B1 m1 d1))
            (first | exact s0 | exact s1 | exact s2 | exact s3 | exact s4 | exact s5)
            (first
              | (go_at_call 38; refine (R1.out wr.drew hbd).mono ?_; rintro E x1 ⟨C1, j1, cj1, rfl, rr1, hj1, bx1⟩; have hb1 := below_next hbd bx1; have s1 := CS.out x1 hb1)
              | (go_at_call 39; refine (R2.out x1 hb1).mono ?_; rintro E x2 ⟨C2, j2, cj2, rfl, rr2, hj2, bx2⟩; have hb2 := below_next hb1 bx2; have s2 := CS.out x2 hb2)
              | (go_at_call 18; have hs := sameInts_any C1 C2 j1 j2 cj1 cj2 _ _ x2.heap.size x2 ((rr1.below bx2).more bx2.size) rr2 hj1 hj2; rw [decide_eq_true rfl] at hs; refine hs.mono ?_; clear hs; rintro E x3 ⟨rfl, dq, rfl⟩; have hb3 := below_drewN' hb2 dq; have s3 := CS.out _ hb3)
              | (go_at_call 40; refine (R3.out _ hb3).mono ?_; rintro E x4 ⟨rfl, bx4⟩; have hb4 := below_next hb3 bx4; have s4 := CS.out x4 hb4)
              | (go_at_call 41; refine (R4.out x4 hb4).mono ?_; rintro E x5 ⟨rfl, bx5⟩; have hb5 := below_next hb4 bx5; have s5 := CS.out x5 hb5))
          have HB5 := Lib.hid hb5
          go_wp2_with fail
          exact ⟨⟨i1 + 1, by omega, by go_num, HB5.out⟩, by simp [intOf]; omega⟩
    · obtain rfl : i1 = 3 := by omega
      have hji : ¬ ((3 : Nat) : Int) < 3 := by omega
      have hb10 := below_next HC9.out hb
      have K10 := hK.below (hb10.mono h0)
      have h10 : 0 < wr.heap.size := Nat.lt_of_lt_of_le h0 hb10.size
      clear hb
      go_wp2_with fail
      refine (lifeLives_any _ K10 h10).mono ?_
      rintro E w7 ⟨rfl, b7⟩
      have b8 := below_next hb10 b7
      go_wp2_with fail
      go_ret
      exact ⟨rfl, b8⟩
end Go.Proofs.YtiajlglnefiemaaDoor
