/- The walk of halves. Conditions: the ranges that the theorem states; the draw is over one number or two. -/
import Derived.Test.YtnionejefpnfoaaDoorVa
import Derived.Test.YtnionejefpnfoaaDoorVb
import Derived.BigRegion
import Derived.Deep.CutBlock
import Derived.Deep.RegionHeld3
set_option linter.unusedSimpArgs false
set_option linter.unusedVariables false
namespace Go.Proofs.YtnionejefpnfoaaDoor
open Go.RowKit Go

theorem Ok.refl (w : World) : Ok w w := Below.refl _ _
theorem Ok.drewN {w W : World} (h : Ok w W) (n : Nat) : Ok w (W.drewN n) := below_drewN' h n
/-- a draw ahead -/
theorem Ok.pre {X W : World} (h : Ok X.drew W) : Ok X W := Below.trans (Below.refl _ X).drew h
theorem Blk.ok {W W' : World} {g : Nat} {t : TypeId} {cs : Array Value} (h : Blk W g t cs) (k : Ok W W') : Blk W' g t cs := h.below k h.lt
theorem reads_cells {W : World} {B n : Nat} {ad : Addr} {xs : List Value} (h : Reads W B 1 (some ad) n xs) : ∀ j u, xs[j]? = some u → W.cell? (ad.add j) = some u := fun j u hu => by
  have hl := h.1
  have hj : j < xs.length := (List.getElem?_eq_some_iff.1 hu).1
  obtain ⟨ad', e, -, hc⟩ := h.2 (by omega)
  cases e
  exact hc j u hu
/-- two numbers in a block of their own -/
theorem rd2 (W : World) (a b : Int) : Hid (Reads (W.alloc (.cells #[.int .i64 a, .int .i64 b] 3)) (W.alloc (.cells #[.int .i64 a, .int .i64 b] 3)).heap.size 1 (some ⟨W.heap.size, 0, none⟩) 2 (ints [a, b])) := by
  refine Lib.hid ⟨rfl, fun _ => ⟨_, rfl, by simp, fun j u hu => ?_⟩⟩
  rw [addr_add0]
  exact (Blk.new W 3 _).at_ (by simpa [ints] using hu)
/-- an append to a row of our own, in a region that draws its order -/
theorem append_i {o : Oper} {a : Act} {K : Act → World → Prop} {Q : Exit → Act → World → Prop} {w1 w2 W : World} {B N n c : Nat} {v : Value} {ad : Addr} {F G : List Int} (s x : Operand)
    (HO : Hid (w1.ownsRow B 3 1 v N (ints F))) (HL : Hid (Reads w2 w2.heap.size 1 (some ad) n (ints G))) (hN : Hid (N ≤ 1000)) (hn : Hid (n ≤ 1000)) (hB : Hid (B ≤ w1.heap.size))
    (ho : o.op = .call { callee := .builtin .append, args := #[s, x], argTypes := #[22, 22] }) (hs : a.eval s = v) (hx : a.eval x = .slice (some ad) n c) (k1 : Ok w1 W) (k2 : Ok w2 W)
    (h : ∀ A d w', Hid (Reads w' w'.heap.size 1 A (N + n) (ints (F ++ G))) → Below B W w' → K (a.put o.dst (.slice A (N + n) d)) w') : o.wp Tryd.prog a W K Q := by
  obtain ⟨i0, hi, hz0, hz1, hz2⟩ := info_parts info_i64
  have hL := (HL.out.below k2).more k2.size
  have hl := hL.int_len
  have h1 := hN.out
  have h2 := hn.out
  have h3 := hB.out
  have h4 := k1.size
  have hO := own_below HO.out k1
  refine wp_append_own W s x 22 ho B 3 i0 (.int .i64 0) 1 8 Tryd.underlying22 hi hz0 hz1 hz2 rfl (by decide) v N _ hs hO ad n c (ints G) hx (by simp [ints, hl]) (reads_cells hL) (ints_one G) (by unfold maxLen; omega) (by omega) (by omega) ?_
  intro v' w' ho' hg _
  rw [show ints F ++ ints G = ints (F ++ G) by simp [ints]] at ho'
  obtain ⟨A, d, rfl, hd, -, -⟩ := own_slice ho'
  exact h A d w' (Lib.hid (Reads.of_own ho')) ((Below.refl B W).grown hg (by omega) (fun b e => (hO.lt b e).1))
/-- the least and the greatest that the left node can have -/
def loB (lo hi t : Int) (m : Nat) : Int := max (((m / 2 : Nat) : Int) * lo) (t - ((m - m / 2 : Nat) : Int) * hi)
def hiB (lo hi t : Int) (m : Nat) : Int := min (((m / 2 : Nat) : Int) * hi) (t - ((m - m / 2 : Nat) : Int) * lo)
def leftV (s : ByteArray) (l : List Int) (lo hi : Int) (a m : Nat) (t : Int) : Int := drawV s (l ++ [(a : Int), (m : Int)]) (loB lo hi t m) (hiB lo hi t m)
theorem drawV_le (s : ByteArray) (l : List Int) {lo hi : Int} (hd : hi = lo ∨ hi = lo + 1) : lo ≤ drawV s l lo hi ∧ drawV s l lo hi ≤ hi := by
  rcases hd with rfl | rfl
  · rw [drawV_one]; omega
  · exact drawV_two s l lo
set_option maxRecDepth 100000 in
set_option maxHeartbeats 8000000 in
theorem halves_acc {s : ByteArray} {A : Option Addr} {n c : Nat} {l : List Int} {w : World} (h : Net s A n l w) (hs : s.size ≤ 32) (hn : n ≤ 6) (T N lo hi : Int) (a m : Nat) (t : Int)
    (ha : a ≤ 65536) (hm : m ≤ 65536) (h0 : -1048576 ≤ lo) (h1 : lo ≤ hi) (h2 : hi ≤ 1048576) (t0 : -68719476736 ≤ t) (t1 : t ≤ 68719476736) (hle : loB lo hi t m ≤ hiB lo hi t m) (hlt : hiB lo hi t m - loB lo hi t m < 1099511627776) (hwd : Acc s (l ++ [(a : Int), (m : Int)]) (hiB lo hi t m - loB lo hi t m + 1).toNat) :
    Calls Tryd.prog 30 #[spV s A n c T N lo hi, nodV (a : Int) (m : Int) t] w fun E W' => E = .returned (.tuple #[nodV (a : Int) ((m / 2 : Nat) : Int) (leftV s l lo hi a m t), nodV ((a : Int) + ((m / 2 : Nat) : Int)) ((m - m / 2 : Nat) : Int) (t - leftV s l lo hi a m t)]) ∧ Below w.heap.size w W' := by
  have hll := h.reads.int_len
  obtain ⟨m0, m1⟩ := mul_small (a := ((m / 2 : Nat) : Int)) (b := lo) (by omega) (by omega) h0 (by omega)
  obtain ⟨m2, m3⟩ := mul_small (a := ((m / 2 : Nat) : Int)) (b := hi) (by omega) (by omega) (by omega) h2
  obtain ⟨m4, m5⟩ := mul_small (a := ((m - m / 2 : Nat) : Int)) (b := lo) (by omega) (by omega) h0 (by omega)
  obtain ⟨m6, m7⟩ := mul_small (a := ((m - m / 2 : Nat) : Int)) (b := hi) (by omega) (by omega) (by omega) h2
  have bD := drawV_in s (l ++ [(a : Int), (m : Int)]) hle
  unfold leftV
  unfold loB hiB at *
  generalize hq : m - m / 2 = q at *
  generalize hp : m / 2 = p at *
  generalize hX1 : (p : Int) * lo = X1 at *
  generalize hX2 : (p : Int) * hi = X2 at *
  generalize hY1 : (q : Int) * hi = Y1 at *
  generalize hY2 : (q : Int) * lo = Y2 at *
  generalize hLB : max X1 (t - Y1) = LB at *
  generalize hHB : min X2 (t - Y2) = HB at *
  have e1 : (if t - Y1 > X1 then t - Y1 else X1) = LB := by rw [← hLB]; split <;> omega
  have e2 : (if t - Y2 < X2 then t - Y2 else X2) = HB := by rw [← hHB]; split <;> omega
  have lb : -1099511627776 ≤ LB := by omega
  have hb : HB ≤ 1099511627776 := by omega
  have w1 : IntKind.i64.wrap ((p : Int) * lo) = X1 := by rw [hX1]; exact wrap_small (by omega) (by omega)
  have w2 : IntKind.i64.wrap ((p : Int) * hi) = X2 := by rw [hX2]; exact wrap_small (by omega) (by omega)
  have w3 : IntKind.i64.wrap ((q : Int) * hi) = Y1 := by rw [hY1]; exact wrap_small (by omega) (by omega)
  have w4 : IntKind.i64.wrap ((q : Int) * lo) = Y2 := by rw [hY2]; exact wrap_small (by omega) (by omega)
  have w5 : IntKind.i64.wrap (t - Y1) = t - Y1 := wrap_small (by omega) (by omega)
  have w6 : IntKind.i64.wrap (t - Y2) = t - Y2 := wrap_small (by omega) (by omega)
  have w7 : (m : Int).tdiv 2 = (p : Int) := by rw [Int.tdiv_eq_ediv_of_nonneg (by omega)]; omega
  have w8 : IntKind.i64.wrap (p : Int) = (p : Int) := wrap_small (by omega) (by omega)
  have w9 : IntKind.i64.wrap ((m : Int) - (p : Int)) = (q : Int) := by rw [show (m : Int) - (p : Int) = (q : Int) by omega]; exact wrap_small (by omega) (by omega)
  have w10 : IntKind.i64.wrap ((a : Int) + (p : Int)) = (a : Int) + (p : Int) := wrap_small (by omega) (by omega)
  obtain ⟨D, hD⟩ : ∃ x, x = drawV s (l ++ [(a : Int), (m : Int)]) LB HB := ⟨_, rfl⟩
  rw [← hD] at bD ⊢
  have w11 : IntKind.i64.wrap (t - D) = t - D := wrap_small (by omega) (by omega)
  have HBT : Hid (∀ W B d, Net s B (n + 2) (l ++ [(a : Int), (m : Int)]) W → Calls Tryd.prog 28 #[.string s, .slice B (n + 2) d, .int .i64 LB, .int .i64 HB] W fun E W' => E = .returned (.tuple #[.int .i64 D, .int .i64 0]) ∧ Below W.heap.size W W') := Lib.hid (fun W B d hN => by
    rw [hD]
    exact between_acc hN (decide_eq_true ⟨by omega, by omega⟩) LB HB lb hb hle hlt hwd)
  have mx := fun ts ty W => run_max_int2 (P := Tryd.prog) (w := W) ts ty .i64 .i64 X1 (t - Y1)
  have mn := fun ts ty W => run_min_int2 (P := Tryd.prog) (w := W) ts ty .i64 .i64 X2 (t - Y2)
  rw [e1] at mx
  rw [e2] at mn
  have HLN := Lib.hid hll
  have HMX := Lib.hid mx
  have HMN := Lib.hid mn
  have HNM : Hid (∀ x ∈ l ++ [(a : Int), (m : Int)], I64 x) := Lib.hid (fun x hx => by
    rcases List.mem_append.1 hx with h3 | h3
    · exact h.nums x h3
    · simp at h3
      rcases h3 with rfl | rfl <;> (unfold I64; omega))
  have HWS := Lib.hid (And.intro w1 (And.intro w2 (And.intro w3 (And.intro w4 (And.intro w5 (And.intro w6 (And.intro w10 w11)))))))
  clear hX1 hX2 hY1 hY2 hLB hHB hD m0 m1 m2 m3 m4 m5 m6 m7 bD hle hlt hwd lb hb e1 e2 mx mn hp hq w1 w2 w3 w4 w5 w6 w10 w11 hll
  have z1 : (w.alloc (.cells (spC s A n c T N lo hi) 28)).heap.size = w.heap.size + 1 := by simp
  have z2 : ((w.alloc (.cells (spC s A n c T N lo hi) 28)).alloc (.cells (nodC a m t) 53)).heap.size = w.heap.size + 2 := by simp
  have z3 : (((w.alloc (.cells (spC s A n c T N lo hi) 28)).alloc (.cells (nodC a m t) 53)).alloc (.cells (nodC 0 0 0) 53)).heap.size = w.heap.size + 3 := by simp
  have k0 : Blk ((((w.alloc (.cells (spC s A n c T N lo hi) 28)).alloc (.cells (nodC a m t) 53)).alloc (.cells (nodC 0 0 0) 53)).alloc (.cells (nodC 0 0 0) 53)) w.heap.size 28 (spC s A n c T N lo hi) := (((Blk.new w 28 _).alloc _).alloc _).alloc _
  have k1 : Blk ((((w.alloc (.cells (spC s A n c T N lo hi) 28)).alloc (.cells (nodC a m t) 53)).alloc (.cells (nodC 0 0 0) 53)).alloc (.cells (nodC 0 0 0) 53)) (w.heap.size + 1) 53 (nodC a m t) := ((Blk.new' z1.symm).alloc _).alloc _
  have k2 : Blk ((((w.alloc (.cells (spC s A n c T N lo hi) 28)).alloc (.cells (nodC a m t) 53)).alloc (.cells (nodC 0 0 0) 53)).alloc (.cells (nodC 0 0 0) 53)) (w.heap.size + 2) 53 (nodC 0 0 0) := (Blk.new' z2.symm).alloc _
  have k3 : Blk ((((w.alloc (.cells (spC s A n c T N lo hi) 28)).alloc (.cells (nodC a m t) 53)).alloc (.cells (nodC 0 0 0) 53)).alloc (.cells (nodC 0 0 0) 53)) (w.heap.size + 3) 53 (nodC 0 0 0) := Blk.new' z3.symm
  have b0 : Below w.heap.size w ((((w.alloc (.cells (spC s A n c T N lo hi) 28)).alloc (.cells (nodC a m t) 53)).alloc (.cells (nodC 0 0 0) 53)).alloc (.cells (nodC 0 0 0) 53)) :=
    ((((Below.refl _ w).alloc (Nat.le_refl _) _).alloc (by rw [z1]; omega) _).alloc (by rw [z2]; omega) _).alloc (by rw [z3]; omega) _
  have zz : ((((w.alloc (.cells (spC s A n c T N lo hi) 28)).alloc (.cells (nodC a m t) 53)).alloc (.cells (nodC 0 0 0) 53)).alloc (.cells (nodC 0 0 0) 53)).heap.size = w.heap.size + 4 := by simp
  go_enter Tryd.func30, Tryd.ntmps30
  go_upto_region 1 with fail
  generalize (((w.alloc (.cells (spC s A n c T N lo hi) 28)).alloc (.cells (nodC a m t) 53)).alloc (.cells (nodC 0 0 0) 53)).alloc (.cells (nodC 0 0 0) 53) = w1 at *
  have hN1 : Net s A n l w1 := h.below b0
  have HS : Hid (∀ W, Ok w1 W → W.cell? ⟨w.heap.size, 1, none⟩ = some (.slice A n c) ∧ W.cell? ⟨w.heap.size + 1, 0, none⟩ = some (.int .i64 (a : Int)) ∧ W.cell? ⟨w.heap.size + 1, 1, none⟩ = some (.int .i64 (m : Int)) ∧ W.cell? ⟨w.heap.size + 1, 2, none⟩ = some (.int .i64 t)) :=
    Lib.hid (fun W hW => ⟨(k0.ok hW).at_ rfl, (k1.ok hW).at_ rfl, (k1.ok hW).at_ rfl, (k1.ok hW).at_ rfl⟩)
  have HS0 : Hid (∀ W, Ok w1 W → W.cell? ⟨w.heap.size, 0, none⟩ = some (.string s) ∧ W.cell? ⟨w.heap.size, 4, none⟩ = some (.int .i64 lo) ∧ W.cell? ⟨w.heap.size, 5, none⟩ = some (.int .i64 hi)) :=
    Lib.hid (fun W hW => ⟨(k0.ok hW).at_ rfl, (k0.ok hW).at_ rfl, (k0.ok hW).at_ rfl⟩)
  have HK := Lib.hid (And.intro k0 (And.intro k1 (And.intro k2 (And.intro k3 (And.intro b0 hN1)))))
  obtain ⟨c1, c2, c3, c4⟩ := HS.out w1 (Ok.refl _)
  clear k0 k1 k2 k3 b0 z1 z2 z3 hN1
  go_quiet (fail)
  have ok2 : Ok w1 (w1.drewN nq) := (Ok.refl _).drewN nq
  clear c1 c2 c3 c4
  generalize w1.drewN nq = w2 at *
  have HN2 : Hid (Net s A n l w1) := Lib.hid HK.out.2.2.2.2.2
  have HCL : Hid (∀ W, Ok w1 W → Calls Tryd.prog 36 #[.slice A n c] W fun e W' => ∃ v, Hid (W'.ownsRow w1.heap.size 3 1 v n (ints l)) ∧ e = .returned v ∧ Below W.heap.size W W') := Lib.hid (fun W hW => by
    have hR := (HN2.out.below hW).reads
    refine (clone_any A n c l W hR (by omega)).mono ?_
    rintro e W' ⟨v, rfl, ho, hb⟩
    rw [HLN.out] at ho
    exact ⟨v, Lib.hid (own_le ho (Below.size hW)), rfl, hb⟩)
  have HN9 : Hid (n ≤ 1000) := Lib.hid (by omega)
  have HN8 : Hid (2 ≤ 1000) := Lib.hid (by omega)
  have HS3 : Hid (∀ W, Ok w1 W → W.cell? ⟨w.heap.size, 1, none⟩ = some (.slice A n c) ∧ W.cell? ⟨w.heap.size + 1, 0, none⟩ = some (.int .i64 (a : Int)) ∧ W.cell? ⟨w.heap.size + 1, 1, none⟩ = some (.int .i64 (m : Int))) :=
    Lib.hid (fun W hW => ⟨(HS.out W hW).1, (HS.out W hW).2.1, (HS.out W hW).2.2.1⟩)
  obtain ⟨c1, c2, c3⟩ := HS3.out w2 ok2
  obtain ⟨d1, d2, d3⟩ := HS3.out w2.drew ok2.drew
  go_upto_region 2 with fail
  go_cut [8] from 20 to 28 (fun p8 wx => ∃ A' d, p8 = .slice A' (n + 2) d ∧ Hid (Reads wx wx.heap.size 1 A' (n + 2) (ints (l ++ [(a : Int), (m : Int)]))) ∧ Ok w1 wx)
  case first =>
    go_region_held3 (fun W => W.cell? ⟨w.heap.size, 1, none⟩ = some (.slice A n c) ∧ W.cell? ⟨w.heap.size + 1, 0, none⟩ = some (.int .i64 (a : Int)) ∧ W.cell? ⟨w.heap.size + 1, 1, none⟩ = some (.int .i64 (m : Int)))
      (first | (refine HS3.out _ ?_; (focus ((repeat (first | with_reducible assumption | with_reducible exact Ok.refl _ | with_reducible apply Ok.drew | with_reducible apply Ok.alloc | with_reducible apply Ok.drewN)); done))))
      (first
        | (go_at_call 36; (refine (HCL.out _ ?_).mono ?_); (focus ((repeat (first | with_reducible assumption | with_reducible exact Ok.refl _ | with_reducible apply Ok.drew | with_reducible apply Ok.alloc | with_reducible apply Ok.drewN)); done)); (rintro E w4 ⟨v4, HO4, rfl, hb4⟩); (have ok4 : Ok w1 w4 := Ok.step (by ((repeat (first | with_reducible assumption | with_reducible exact Ok.refl _ | with_reducible apply Ok.drew | with_reducible apply Ok.alloc | with_reducible apply Ok.drewN)); done)) hb4); (have ok45 := (show Ok _ w4 from hb4)); (have HB4 : Hid (w1.heap.size ≤ w4.heap.size) := Lib.hid (Below.size ok4)); (have ok44 := Ok.refl w4))
        | (rw [if_pos (by rfl)]; (refine append_i _ _ HO4 (rd2 _ (a : Int) (m : Int)) HN9 HN8 HB4 rfl rfl rfl ?_ ?_ ?_); (focus ((repeat (first | with_reducible assumption | with_reducible exact Ok.refl _ | with_reducible apply Ok.drew | with_reducible apply Ok.alloc | with_reducible apply Ok.drewN)); done)); (first | (focus ((repeat (first | with_reducible assumption | with_reducible exact Ok.refl _ | with_reducible apply Ok.drew | with_reducible apply Ok.alloc | with_reducible apply Ok.drewN)); done)) | (focus (refine Ok.pre ?_; ((repeat (first | with_reducible assumption | with_reducible exact Ok.refl _ | with_reducible apply Ok.drew | with_reducible apply Ok.alloc | with_reducible apply Ok.drewN)); done)))); (intro A8 d8 w8 HR8 hb8); (have ok8 : Ok w1 w8 := Below.trans (show Ok w1 _ from by ((repeat (first | with_reducible assumption | with_reducible exact Ok.refl _ | with_reducible apply Ok.drew | with_reducible apply Ok.alloc | with_reducible apply Ok.drewN)); done)) hb8)))
    all_goals
      go_wp2_with fail
      go_meet
      exact ⟨A8, d8, rfl, HR8, ok8⟩
  obtain ⟨A', d', rfl, HR8, ok3⟩ := hcut
  clear c1 c2 c3 d1 d2 d3 ok2
  obtain ⟨c1, c2, c3, c4⟩ := HS.out wc ok3
  obtain ⟨e1, e2, e3⟩ := HS0.out wc ok3
  have hNB : Net s A' (n + 2) (l ++ [(a : Int), (m : Int)]) wc := ⟨HR8.out, HNM.out, by omega, by omega, (HN2.out.below ok3).consts, (HN2.out.below ok3).pos⟩
  have HC := HBT.out _ _ d' hNB
  have HC := Lib.hid HC
  clear hNB
  obtain ⟨q1, q2, q3, q4, q5, q6, q7, q8⟩ := HWS.out
  have mx := HMX.out
  have mn := HMN.out
  go_wp2_with fail
  refine HC.out.mono ?_
  rintro E w4 ⟨rfl, b4⟩
  have ok4 : Ok w1 w4 := ok3.step b4
  clear c1 c2 c3 c4 e1 e2 e3 HC HR8 b4 ok3
  go_upto_region 4 with fail
  obtain ⟨k0, k1, k2, k3, -, -⟩ := HK.out
  have m1 := k1.ok ok4
  have m2 := k2.ok ok4
  have m3 := k3.ok ok4
  have c2 : w4.cell? ⟨w.heap.size + 1, 0, none⟩ = some (.int .i64 (a : Int)) := m1.at_ rfl
  have c4 : w4.cell? ⟨w.heap.size + 1, 2, none⟩ = some (.int .i64 t) := m1.at_ rfl
  have f20 := m2.frozen 0
  have f21 := m2.frozen 1
  have f22 := m2.frozen 2
  have f30 := m3.frozen 0
  have f31 := m3.frozen 1
  have f32 := m3.frozen 2
  have x20 : w4.cell? ⟨w.heap.size + 2, 0, none⟩ = some (.int .i64 0) := m2.at_ rfl
  have x21 : w4.cell? ⟨w.heap.size + 2, 1, none⟩ = some (.int .i64 0) := m2.at_ rfl
  have x22 : w4.cell? ⟨w.heap.size + 2, 2, none⟩ = some (.int .i64 0) := m2.at_ rfl
  have x30 : w4.cell? ⟨w.heap.size + 3, 0, none⟩ = some (.int .i64 0) := m3.at_ rfl
  have x31 : w4.cell? ⟨w.heap.size + 3, 1, none⟩ = some (.int .i64 0) := m3.at_ rfl
  have x32 : w4.cell? ⟨w.heap.size + 3, 2, none⟩ = some (.int .i64 0) := m3.at_ rfl
  clear k0 k1 k2 k3
  go_region
  have okk : Below w.heap.size w w4 := Below.trans HK.out.2.2.2.2.1 (Below.mono ok4 HK.out.2.2.2.2.1.size)
  have g2 := ((((((m2.set_ 0 (.int .i64 (a : Int))).set_ 1 (.int .i64 (p : Int))).set_ 2 (.int .i64 D)).far (p := ⟨w.heap.size + 3, 0, none⟩) (by simp) (.int .i64 ((a : Int) + (p : Int)))).far (p := ⟨w.heap.size + 3, 1, none⟩) (by simp) (.int .i64 (q : Int))).far (p := ⟨w.heap.size + 3, 2, none⟩) (by simp) (.int .i64 (t - D))).drew
  have g3 := ((((((m3.far (p := ⟨w.heap.size + 2, 0, none⟩) (by simp) (.int .i64 (a : Int))).far (p := ⟨w.heap.size + 2, 1, none⟩) (by simp) (.int .i64 (p : Int))).far (p := ⟨w.heap.size + 2, 2, none⟩) (by simp) (.int .i64 D)).set_ 0 (.int .i64 ((a : Int) + (p : Int)))).set_ 1 (.int .i64 (q : Int))).set_ 2 (.int .i64 (t - D))).drew
  have g4 : Below w.heap.size w ((((((w4.setCell ⟨w.heap.size + 2, 0, none⟩ (.int .i64 (a : Int))).setCell ⟨w.heap.size + 2, 1, none⟩ (.int .i64 (p : Int))).setCell ⟨w.heap.size + 2, 2, none⟩ (.int .i64 D)).setCell ⟨w.heap.size + 3, 0, none⟩ (.int .i64 ((a : Int) + (p : Int)))).setCell ⟨w.heap.size + 3, 1, none⟩ (.int .i64 (q : Int))).setCell ⟨w.heap.size + 3, 2, none⟩ (.int .i64 (t - D))).drew :=
    ((((((okk.setCell (Nat.le_add_right _ 2) _).setCell (Nat.le_add_right _ 2) _).setCell (Nat.le_add_right _ 2) _).setCell (Nat.le_add_right _ 3) _).setCell (Nat.le_add_right _ 3) _).setCell (Nat.le_add_right _ 3) _).drew
  generalize ((((((w4.setCell ⟨w.heap.size + 2, 0, none⟩ (.int .i64 (a : Int))).setCell ⟨w.heap.size + 2, 1, none⟩ (.int .i64 (p : Int))).setCell ⟨w.heap.size + 2, 2, none⟩ (.int .i64 D)).setCell ⟨w.heap.size + 3, 0, none⟩ (.int .i64 ((a : Int) + (p : Int)))).setCell ⟨w.heap.size + 3, 1, none⟩ (.int .i64 (q : Int))).setCell ⟨w.heap.size + 3, 2, none⟩ (.int .i64 (t - D))).drew = w9 at *
  have g2 : Blk w9 (w.heap.size + 2) 53 (nodC (a : Int) (p : Int) D) := g2
  have g3 : Blk w9 (w.heap.size + 3) 53 (nodC ((a : Int) + (p : Int)) (q : Int) (t - D)) := g3
  clear x20 x21 x22 x30 x31 x32 f20 f21 f22 f30 f31 f32 c2 c4 m1 m2 m3
  go_wp2_with fail
  refine ret_row_row (t := 53) (t' := 53) Tryd.results30 rfl rfl g2 g3 rfl rfl Tryd.underlying53 Tryd.underlying53 info42 info42 rfl ?_
  exact ⟨rfl, g4⟩
theorem halves_w {s : ByteArray} {A : Option Addr} {n c : Nat} {l : List Int} {w : World} (h : Net s A n l w) (hs : s.size ≤ 32) (hn : n ≤ 6) (T N lo hi : Int) (a m : Nat) (t : Int)
    (ha : a ≤ 65536) (hm : m ≤ 65536) (h0 : -1048576 ≤ lo) (h1 : lo ≤ hi) (h2 : hi ≤ 1048576) (t0 : -68719476736 ≤ t) (t1 : t ≤ 68719476736) (hle : loB lo hi t m ≤ hiB lo hi t m) (hlt : hiB lo hi t m - loB lo hi t m < 1099511627776) (hwd : wordN s (l ++ [(a : Int), (m : Int)]) 0 < 281474976710656 / (hiB lo hi t m - loB lo hi t m + 1).toNat * (hiB lo hi t m - loB lo hi t m + 1).toNat) :
    Calls Tryd.prog 30 #[spV s A n c T N lo hi, nodV (a : Int) (m : Int) t] w fun E W' => E = .returned (.tuple #[nodV (a : Int) ((m / 2 : Nat) : Int) (leftV s l lo hi a m t), nodV ((a : Int) + ((m / 2 : Nat) : Int)) ((m - m / 2 : Nat) : Int) (t - leftV s l lo hi a m t)]) ∧ Below w.heap.size w W' :=
  halves_acc h hs hn T N lo hi a m t ha hm h0 h1 h2 t0 t1 hle hlt (acc_first hwd)
theorem halves_any {s : ByteArray} {A : Option Addr} {n c : Nat} {l : List Int} {w : World} (h : Net s A n l w) (hs : s.size ≤ 32) (hn : n ≤ 6) (T N lo hi : Int) (a m : Nat) (t : Int)
    (ha : a ≤ 65536) (hm : m ≤ 65536) (h0 : -1048576 ≤ lo) (h1 : lo ≤ hi) (h2 : hi ≤ 1048576) (t0 : -68719476736 ≤ t) (t1 : t ≤ 68719476736) (hd : hiB lo hi t m = loB lo hi t m ∨ hiB lo hi t m = loB lo hi t m + 1) :
    Calls Tryd.prog 30 #[spV s A n c T N lo hi, nodV (a : Int) (m : Int) t] w fun E W' => E = .returned (.tuple #[nodV (a : Int) ((m / 2 : Nat) : Int) (leftV s l lo hi a m t), nodV ((a : Int) + ((m / 2 : Nat) : Int)) ((m - m / 2 : Nat) : Int) (t - leftV s l lo hi a m t)]) ∧ Below w.heap.size w W' :=
  halves_w h hs hn T N lo hi a m t ha hm h0 h1 h2 t0 t1 (by omega) (by omega) (word_few s _ (by omega))
end Go.Proofs.YtnionejefpnfoaaDoor
