/- What the functions of package split and of the reference answer of any split that is not valid, and of places that do not exist; the reference's answers of valid ones. In one text: Rf, Rg, Ht, Rh, Vw, Vx -/
import Derived.Test.YtnionejefpnfoaaDoorRz
import Derived.Test.YtnionejefpnfoaaDoorVc
import Derived.Test.YtnionejefpnfoaaDoorHs
import Derived.Test.YtnionejefpnfoaaDoorVi
import Derived.Test.YtnionejefpnfoaaDoorVa
set_option linter.unusedSimpArgs false
set_option linter.unusedVariables false
/- The reference's Valid, Below and Between of draws, where one of the first words is taken. Conditions: the round constants lie in their variables; the ranges that the theorems state. -/
namespace Go.Proofs.YtnionejefpnfoaaDoor
open Go.RowKit Go.Shelf Go

/-- what draws ask of the world, the reference's too -/
structure RN (s : ByteArray) (A : Option Addr) (n : Nat) (l : List Int) (w : World) : Prop where
  net : Net s A n l w
  rk : RConsts w
  r1 : 1 < w.heap.size
  few : n ≤ 1000
  text : s.size ≤ 1000
theorem RN.below {s : ByteArray} {A : Option Addr} {n : Nat} {l : List Int} {w w' : World} (h : RN s A n l w) (hb : Below w.heap.size w w') : RN s A n l w' :=
  ⟨h.net.below hb, h.rk.below (hb.mono h.r1), Nat.lt_of_lt_of_le h.r1 hb.size, h.few, h.text⟩
theorem RN.word {s : ByteArray} {A : Option Addr} {n c : Nat} {l : List Int} {w : World} (h : RN s A n l w) (t : Int) (ht : I64 t) :
    Calls Tryd.prog 43 #[.string s, .slice A n c, .int .i64 t] w fun e W' => e = .returned (.int .i64 (wordN s l t : Int)) ∧ Below w.heap.size w W' :=
  rWord_any s A n c l t w h.net.reads h.net.nums ht h.few h.text h.rk h.r1
set_option maxRecDepth 100000 in
set_option maxHeartbeats 2000000 in
theorem rDraw_valid (s : ByteArray) (A : Option Addr) (n c : Nat) (w : World) (hs : s.size ≤ 1000000) (hn : n ≤ 1000000) :
    Calls Tryd.prog 39 #[.string s, .slice A n c] w fun E W' => E = .returned (.bool (validB s n)) ∧ W' = w := by
  by_cases h1 : (s.size : Int) ≤ 32
  · by_cases h2 : (n : Int) ≤ 8
    · have e : validB s n = true := decide_eq_true ⟨by omega, by omega⟩
      rw [e]
      go_enter Tryd.func39, Tryd.ntmps39
      go_wp2_with fail
      go_ret
      exact ⟨rfl, rfl⟩
    · have e : validB s n = false := decide_eq_false (by omega)
      rw [e]
      go_enter Tryd.func39, Tryd.ntmps39
      go_wp2_with fail
      go_ret
      exact ⟨rfl, rfl⟩
  · have e : validB s n = false := decide_eq_false (by omega)
    rw [e]
    go_enter Tryd.func39, Tryd.ntmps39
    go_wp2_with fail
    go_ret
    exact ⟨rfl, rfl⟩
set_option maxRecDepth 100000 in
set_option maxHeartbeats 4000000 in
theorem rBelow_k {s : ByteArray} {A : Option Addr} {n c : Nat} {l : List Int} {w : World} (h : RN s A n l w) (N : Nat) (hN1 : 1 ≤ N) (hN2 : N ≤ 1099511627776) (K : Nat) (q0 : K ≤ 1000000)
    (q1 : ∀ j : Nat, j < K → 281474976710656 / N * N ≤ wordN s l (j : Int)) (q2 : wordN s l (K : Int) < 281474976710656 / N * N) :
    Calls Tryd.prog 40 #[.string s, .slice A n c, .int .i64 (N : Int)] w fun E W' => E = .returned (.int .i64 ((wordN s l (K : Int) % N : Nat) : Int)) ∧ Below w.heap.size w W' := by
  obtain ⟨L, hL⟩ : ∃ L : Nat, L = 281474976710656 / N * N := ⟨_, rfl⟩
  have hdm := Nat.div_add_mod 281474976710656 N
  rw [Nat.mul_comm, ← hL] at hdm
  rw [← hL] at q1 q2
  obtain ⟨R, hR⟩ : ∃ R : Nat, R = 281474976710656 % N := ⟨_, rfl⟩
  rw [← hR] at hdm
  have hRl : R < N := by rw [hR]; exact Nat.mod_lt _ (by omega)
  have e1 : (281474976710656 : Int).tmod (N : Int) = (R : Int) := by rw [hR]; rfl
  have e2 : IntKind.i64.wrap ((281474976710656 : Int).tmod (N : Int)) = (R : Int) := by rw [e1]; exact wrap_small (by omega) (by omega)
  have e3 : IntKind.i64.wrap (281474976710656 - (R : Int)) = (L : Int) := by rw [show 281474976710656 - (R : Int) = (L : Int) by omega]; exact wrap_small (by omega) (by omega)
  have hz : ¬ (N : Int) = 0 := by omega
  have hwk := wordN_lt s l (K : Int)
  have e4 : (((wordN s l (K : Int) : Nat) : Int)).tmod (N : Int) = ((wordN s l (K : Int) % N : Nat) : Int) := rfl
  have hml := Nat.mod_lt (wordN s l (K : Int)) (show 0 < N by omega)
  have e5 : IntKind.i64.wrap ((((wordN s l (K : Int) : Nat) : Int)).tmod (N : Int)) = ((wordN s l (K : Int) % N : Nat) : Int) := by rw [e4]; exact wrap_small (by omega) (by omega)
  have HW := Lib.hid (fun W (hW : Ok w W) t ht => (h.below hW).word (c := c) t ht)
  have HQ := Lib.hid (And.intro q1 q2)
  generalize hG : (wordN s l (K : Int) % N : Nat) = G at *
  clear hL hR h q1 q2 hG hml hdm hRl
  go_enter Tryd.func40, Tryd.ntmps40
  go_wp2_with fail
  go_loopw [9] (fun i wr => ∃ j : Nat, j ≤ K ∧ i = .int .i64 (j : Int) ∧ Ok w wr) (fun i _ => K - (intOf i).toNat)
  case atStart => exact ⟨0, by omega, rfl, Ok.refl w⟩
  case round =>
    obtain ⟨j, hj, rfl, okr⟩ := hrel
    go_wp2_with fail
    refine (HW.out _ okr (j : Int) (by unfold I64; omega)).mono ?_
    rintro E w1 ⟨rfl, b1⟩
    have ok1 := okr.step b1
    by_cases hlt : j < K
    · have g1 := HQ.out.1 j hlt
      have g2 : (L : Int) ≤ ((wordN s l (j : Int) : Nat) : Int) := by omega
      go_wp2_with fail
      go_roundw
      case rel => exact ⟨j + 1, by omega, by go_num, ok1⟩
      case measure => simp only [intOf]; omega
    · obtain rfl : j = K := by omega
      have g1 := HQ.out.2
      have g2 : ¬ (L : Int) ≤ ((wordN s l (j : Int) : Nat) : Int) := by omega
      go_wp2_with fail
      refine (HW.out _ ok1 (j : Int) (by unfold I64; omega)).mono ?_
      rintro E w2 ⟨rfl, b2⟩
      have ok2 := ok1.step b2
      go_wp2_with fail
      go_ret
      exact ⟨rfl, ok2⟩
set_option maxRecDepth 100000 in
set_option maxHeartbeats 4000000 in
theorem rBetween_acc {s : ByteArray} {A : Option Addr} {n c : Nat} {l : List Int} {w : World} (h : RN s A n l w) (hv : validB s n = true) (lo hi : Int) (h0 : -1099511627776 ≤ lo) (h1 : hi ≤ 1099511627776) (hle : lo ≤ hi) (hlt : hi - lo < 1099511627776) (hwd : Acc s l (hi - lo + 1).toNat) :
    Calls Tryd.prog 37 #[.string s, .slice A n c, .int .i64 lo, .int .i64 hi] w fun E W' => E = .returned (.tuple #[.int .i64 (drawV s l lo hi), .int .i64 0]) ∧ Below w.heap.size w W' := by
  have hva := fun W => rDraw_valid s A n c W (by have := h.text; omega) (by have := h.few; omega)
  obtain ⟨M, hM⟩ : ∃ M : Nat, M = (hi - lo + 1).toNat := ⟨_, rfl⟩
  have hM1 : 1 ≤ M ∧ M ≤ 1099511627776 := by omega
  have hMi : hi - lo + 1 = (M : Int) := by omega
  rw [← hM] at hwd
  obtain ⟨K, q0, q1, q2, q3⟩ := hwd.eq
  have HBL := Lib.hid (fun W (hW : Ok w W) => rBelow_k (c := c) (h.below hW) M hM1.1 hM1.2 K q0 q1 q2)
  have hx : drawV s l lo hi = lo + ((wordN s l (K : Int) % M : Nat) : Int) := by unfold drawV; rw [← hM, q3]
  have hml := Nat.mod_lt (wordN s l (K : Int)) (show 0 < M by omega)
  rw [hx]
  generalize (wordN s l (K : Int) % M : Nat) = G at *
  rw [hv] at hva
  have e1 : IntKind.i64.wrap (hi - lo) = hi - lo := wrap_small (by omega) (by omega)
  have e2 : IntKind.i64.wrap (hi - lo + 1) = (M : Int) := by rw [hMi]; exact wrap_small (by omega) (by omega)
  have e3 : IntKind.i64.wrap (lo + (G : Int)) = lo + (G : Int) := wrap_small (by omega) (by omega)
  have g1 : ¬ lo < -1099511627776 := by omega
  have g2 : ¬ 1099511627776 < hi := by omega
  have g3 : ¬ hi < lo := by omega
  have g4 : ¬ 1099511627776 ≤ hi - lo := by omega
  clear hwd q1 q2 q3 hM hx h hv
  go_enter Tryd.func37, Tryd.ntmps37
  go_wp2_with fail
  refine (hva _).mono ?_
  rintro E w1 ⟨rfl, rfl⟩
  go_wp2_with fail
  refine (HBL.out _ (Ok.refl _)).mono ?_
  rintro E w2 ⟨rfl, b2⟩
  go_wp2_with fail
  go_ret2
  exact ⟨rfl, b2⟩
end Go.Proofs.YtnionejefpnfoaaDoor
/- The reference's left total of a node. Conditions: the ranges that the theorem states; one of the first two words is taken. -/
namespace Go.Proofs.YtnionejefpnfoaaDoor
open Go.RowKit Go.Shelf Go

set_option maxRecDepth 100000 in
set_option maxHeartbeats 8000000 in
theorem rLeft_acc {s : ByteArray} {A : Option Addr} {n c : Nat} {l : List Int} {w : World} (h : RN s A n l w) (hs : s.size ≤ 32) (hn : n ≤ 6) (T N lo hi : Int) (a m : Nat) (t : Int)
    (ha : a ≤ 65536) (hm : m ≤ 65536) (h0 : -1048576 ≤ lo) (h1 : lo ≤ hi) (h2 : hi ≤ 1048576) (t0 : -68719476736 ≤ t) (t1 : t ≤ 68719476736) (hle : loB lo hi t m ≤ hiB lo hi t m) (hlt : hiB lo hi t m - loB lo hi t m < 1099511627776) (hwd : Acc s (l ++ [(a : Int), (m : Int)]) (hiB lo hi t m - loB lo hi t m + 1).toNat) :
    Calls Tryd.prog 31 #[spV s A n c T N lo hi, .int .i64 (a : Int), .int .i64 (m : Int), .int .i64 t] w fun E W' => E = .returned (.int .i64 (leftV s l lo hi a m t)) ∧ Below w.heap.size w W' := by
  have hll := h.net.reads.int_len
  obtain ⟨m0, m1⟩ := mul_small (a := ((m / 2 : Nat) : Int)) (b := lo) (by omega) (by omega) h0 (by omega)
  obtain ⟨m2, m3⟩ := mul_small (a := ((m / 2 : Nat) : Int)) (b := hi) (by omega) (by omega) (by omega) h2
  obtain ⟨m4, m5⟩ := mul_small (a := ((m - m / 2 : Nat) : Int)) (b := lo) (by omega) (by omega) h0 (by omega)
  obtain ⟨m6, m7⟩ := mul_small (a := ((m - m / 2 : Nat) : Int)) (b := hi) (by omega) (by omega) (by omega) h2
  have bD := drawV_in s (l ++ [(a : Int), (m : Int)]) hle
  unfold leftV
  unfold loB hiB at *
  generalize hq : m - m / 2 = q at *
  generalize hp : m / 2 = p at *
  generalize hX1 : (p : Int) * lo = X1 at *
  generalize hX2 : (p : Int) * hi = X2 at *
  generalize hY1 : (q : Int) * hi = Y1 at *
  generalize hY2 : (q : Int) * lo = Y2 at *
  generalize hLB : max X1 (t - Y1) = LB at *
  generalize hHB : min X2 (t - Y2) = HB at *
  have e1 : (if t - Y1 > X1 then t - Y1 else X1) = LB := by rw [← hLB]; split <;> omega
  have e2 : (if t - Y2 < X2 then t - Y2 else X2) = HB := by rw [← hHB]; split <;> omega
  have lb : -1099511627776 ≤ LB := by omega
  have hb : HB ≤ 1099511627776 := by omega
  have w1 : IntKind.i64.wrap ((p : Int) * lo) = X1 := by rw [hX1]; exact wrap_small (by omega) (by omega)
  have w2 : IntKind.i64.wrap ((p : Int) * hi) = X2 := by rw [hX2]; exact wrap_small (by omega) (by omega)
  have w3 : IntKind.i64.wrap ((q : Int) * hi) = Y1 := by rw [hY1]; exact wrap_small (by omega) (by omega)
  have w4 : IntKind.i64.wrap ((q : Int) * lo) = Y2 := by rw [hY2]; exact wrap_small (by omega) (by omega)
  have w5 : IntKind.i64.wrap (t - Y1) = t - Y1 := wrap_small (by omega) (by omega)
  have w6 : IntKind.i64.wrap (t - Y2) = t - Y2 := wrap_small (by omega) (by omega)
  have w7 : (m : Int).tdiv 2 = (p : Int) := by rw [Int.tdiv_eq_ediv_of_nonneg (by omega)]; omega
  have w8 : IntKind.i64.wrap (p : Int) = (p : Int) := wrap_small (by omega) (by omega)
  have w9 : IntKind.i64.wrap ((m : Int) - (p : Int)) = (q : Int) := by rw [show (m : Int) - (p : Int) = (q : Int) by omega]; exact wrap_small (by omega) (by omega)
  obtain ⟨D, hD⟩ : ∃ x, x = drawV s (l ++ [(a : Int), (m : Int)]) LB HB := ⟨_, rfl⟩
  rw [← hD] at bD ⊢
  have HBT : Hid (∀ W B d, RN s B (n + 2) (l ++ [(a : Int), (m : Int)]) W → Calls Tryd.prog 37 #[.string s, .slice B (n + 2) d, .int .i64 LB, .int .i64 HB] W fun E W' => E = .returned (.tuple #[.int .i64 D, .int .i64 0]) ∧ Below W.heap.size W W') := Lib.hid (fun W B d hN => by
    rw [hD]
    exact rBetween_acc hN (decide_eq_true ⟨by omega, by omega⟩) LB HB lb hb hle hlt hwd)
  have mx := fun ts ty W => run_max_int2 (P := Tryd.prog) (w := W) ts ty .i64 .i64 X1 (t - Y1)
  have mn := fun ts ty W => run_min_int2 (P := Tryd.prog) (w := W) ts ty .i64 .i64 X2 (t - Y2)
  rw [e1] at mx
  rw [e2] at mn
  have HLN := Lib.hid hll
  have HNM : Hid (∀ x ∈ l ++ [(a : Int), (m : Int)], I64 x) := Lib.hid (fun x hx => by
    rcases List.mem_append.1 hx with h3 | h3
    · exact h.net.nums x h3
    · simp at h3
      rcases h3 with rfl | rfl <;> (unfold I64; omega))
  have HWS := Lib.hid (And.intro w1 (And.intro w2 (And.intro w3 (And.intro w4 (And.intro w5 w6)))))
  have HMX := Lib.hid (And.intro mx mn)
  clear hX1 hX2 hY1 hY2 hLB hHB hD m0 m1 m2 m3 m4 m5 m6 m7 bD hle hlt hwd lb hb e1 e2 mx mn hp hq w1 w2 w3 w4 w5 w6 hll
  obtain ⟨i0, hi0, hz0, hz1, hz2⟩ := info_parts info_i64
  have k0 := Blk.new w 24 (spC s A n c T N lo hi)
  have ok0 := (Ok.refl w).alloc (.cells (spC s A n c T N lo hi) 24)
  have hN1 := h.below ok0
  go_enter Tryd.func31, Tryd.ntmps31
  go_upto_region 3 with fail
  generalize w.alloc (.cells (spC s A n c T N lo hi) 24) = W1 at *
  have HN1 := Lib.hid hN1
  have HI0 := Lib.hid (And.intro hi0 (And.intro hz0 (And.intro hz1 hz2)))
  have c1 : (W1.alloc (.cells #[] 3)).cell? ⟨w.heap.size, 1, none⟩ = some (.slice A n c) := (k0.alloc _).at_ rfl
  have hrd : Reads W1 W1.heap.size 1 A n (ints l) := hN1.net.reads
  clear hN1
  go_upto_region 4 with (first
    | (at_builtin; refine wpList_append_reads _ rfl _ _ 22 rfl W1.heap.size 3 i0 (.int .i64 0) 1 8 Tryd.underlying22 HI0.out.1 HI0.out.2.1 HI0.out.2.2.1 HI0.out.2.2.2 rfl (by decide) _ _ _ rfl (own_new W1 3 #[] _ (Nat.le_refl _) (by unfold maxLen; simp)) _ A n c (ints l) rfl (hrd.alloc (Nat.le_refl _) _) (ints_one _) (by unfold maxLen; simp; omega) (by simp; omega) (by simp) ?_; intro v1 V1 o1 g1; have b1 : Below W1.heap.size W1 V1 := ((Below.refl _ W1).alloc (Nat.le_refl _) _).grown g1 (by simp) (fun k e => by have e2 : some W1.heap.size = some k := e; injection e2 with e2; omega))
    | (at_builtin; refine wpList_append_reads _ rfl _ _ 22 rfl W1.heap.size 3 i0 (.int .i64 0) 1 8 Tryd.underlying22 HI0.out.1 HI0.out.2.1 HI0.out.2.2.1 HI0.out.2.2.2 rfl (by decide) _ _ _ rfl (o1.alloc _) _ (some ⟨V1.heap.size, 0, none⟩) 2 2 (ints [(a : Int), (m : Int)]) rfl (rd2 V1 (a : Int) (m : Int)).out (ints_one _) (by unfold maxLen; simp; omega) (by simp; omega) (by have := b1.size; simp; omega) ?_; intro v2 V2 o2 g2))
  have b2 : Below W1.heap.size W1 V2 := (b1.alloc b1.size _).grown g2 (by have := b1.size; simp; omega) (fun k e => (o1.lt k e).1)
  have o3 : V2.ownsRow W1.heap.size 3 1 v2 (n + 2) (ints (l ++ [(a : Int), (m : Int)])) := by
    have e : ([] : List Value) ++ ints l ++ ints [(a : Int), (m : Int)] = ints (l ++ [(a : Int), (m : Int)]) := by simp [ints]
    rw [← e]
    simpa using o2
  obtain ⟨A2, c2, rfl, hr2⟩ := own_reads1 o3
  have hN2 := HN1.out.below b2
  have HC := Lib.hid (HBT.out V2 A2 c2 ⟨⟨hr2, HNM.out, by omega, hN2.net.text, hN2.net.consts, hN2.net.pos⟩, hN2.rk, hN2.r1, by omega, by omega⟩)
  have k2 := k0.thru b2
  have ok2 := ok0.step b2
  have x0 : V2.cell? ⟨w.heap.size, 0, none⟩ = some (.string s) := k2.at_ rfl
  have x4 : V2.cell? ⟨w.heap.size, 4, none⟩ = some (.int .i64 lo) := k2.at_ rfl
  have x5 : V2.cell? ⟨w.heap.size, 5, none⟩ = some (.int .i64 hi) := k2.at_ rfl
  obtain ⟨q1, q2, q3, q4, q5, q6⟩ := HWS.out
  obtain ⟨mx, mn⟩ := HMX.out
  clear o1 o2 o3 g1 g2 b1 b2 hr2 c1 hrd k0 ok0 hN2
  go_wp2_with fail
  refine HC.out.mono ?_
  rintro E V3 ⟨rfl, b3⟩
  have ok3 := ok2.step b3
  go_wp2_with fail
  go_ret
  exact ⟨rfl, ok3⟩
end Go.Proofs.YtnionejefpnfoaaDoor
/- Append of what a slice reads, in a region that draws its order. No condition; nothing of the program stands here but a type. -/
namespace Go.Proofs.YtnionejefpnfoaaDoor
open Go.RowKit Go.Shelf Go

/-- append of what a slice reads, in a region that draws its order -/
theorem wp_append_rd {o : Oper} {a : Act} {K : Act → World → Prop} {Q : Exit → Act → World → Prop} (w : World) (s x : Operand) (t : TypeId) (ho : o.op = .call { callee := .builtin .append, args := #[s, x], argTypes := #[t, t] })
    (base : Nat) (e : TypeId) (i : TypeInfo) (z : Value) (size bytes : Nat) (ht : Tryd.prog.underlying t = some (.slice e)) (hi : Tryd.prog.info? e = some i) (hz : i.zero = some z) (hsize : i.size = size) (hby : i.bytes = bytes) (hzs : z.cells.size = size) (hsz : 0 < size)
    (v : Value) (n : Nat) (xs : List Value) (hs : a.eval s = v) (hown : w.ownsRow base e size v n xs) (B : Nat) (A : Option Addr) (m c : Nat) (news : List Value) (hx : a.eval x = .slice A m c) (hr : Reads w B size A m news) (h1 : ∀ u ∈ news, u.oneCell' = true)
    (h63 : n + m ≤ maxLen) (hbytes : (n + m) * bytes ≤ 140737488355328) (hbase : base ≤ w.heap.size)
    (h : ∀ v' w', w'.ownsRow base e size v' (n + m) (xs ++ news) → w.grownBy w' v.ownBlock → K (a.put o.dst v') w') : o.wp Tryd.prog a w K Q := by
  obtain ⟨v', w', hrun, h2, h3⟩ := run_append_reads (P := Tryd.prog) w base t o.type e i z size bytes ht hi hz hsize hby hzs hsz v n xs hown B A m c news hr h1 h63 hbytes hbase
  unfold Oper.wp
  simp [execOp, ho, resolve, invoke, builtin, hs, hx, hrun, Result.andThen, Oper.upon]
  exact h v' w' h2 h3
theorem reads_far {w w' : World} {g n : Nat} {l : List Int} {row : Option Nat} (h : Reads w w.heap.size 1 (some ⟨g, 0, none⟩) n (ints l)) (hg : w.grownBy w' row) (hne : row ≠ some g) : Reads w' w'.heap.size 1 (some ⟨g, 0, none⟩) n (ints l) := by
  refine ⟨h.1, fun h0 => ?_⟩
  obtain ⟨ad, e, hb, hc⟩ := h.2 h0
  cases e
  refine ⟨_, rfl, Nat.lt_of_lt_of_le hb hg.size, fun j u hu => ?_⟩
  rw [← hc j u hu, addr_add0]
  exact World.cell?_of_block (hg.block g hb (fun e => hne e.symm))
end Go.Proofs.YtnionejefpnfoaaDoor
/- The reference's recursions over the nodes of a split: parts, one, find. Conditions: the ranges that the theorems state. -/
namespace Go.Proofs.YtnionejefpnfoaaDoor
open Go.RowKit Go.Shelf Go

/-- nodes whose left totals are D's, by the reference too -/
structure RHalved (s : ByteArray) (A : Option Addr) (n c : Nat) (l : List Int) (T N lo hi : Int) (D : Nat → Nat → Int → Int) (I : Nat → Nat → Int → Prop) : Prop where
  few : ∀ a m t, I a m t → a ≤ 65536 ∧ m ≤ 65536 ∧ -68719476736 ≤ t ∧ t ≤ 68719476736
  walk : ∀ a m t, I a m t → 2 ≤ m → ∀ W, RN s A n l W → Calls Tryd.prog 31 #[spV s A n c T N lo hi, .int .i64 (a : Int), .int .i64 (m : Int), .int .i64 t] W fun E W' => E = .returned (.int .i64 (D a m t)) ∧ Below W.heap.size W W'
  left : ∀ a m t, I a m t → 2 ≤ m → I a (m / 2) (D a m t)
  right : ∀ a m t, I a m t → 2 ≤ m → I (a + m / 2) (m - m / 2) (t - D a m t)
/-- the sum before is small -/
theorem desc_small {s : ByteArray} {A : Option Addr} {n c : Nat} {l : List Int} {T N lo hi : Int} {D : Nat → Nat → Int → Int} {I : Nat → Nat → Int → Prop} (H : RHalved s A n c l T N lo hi D I) (p : Nd → Nd → Int → Bool) (m : Nat) : ∀ (a : Nat) (t b : Int), I a m t →
    -((m : Int) * 68719476736) ≤ (desc D p a m t b).2 - b ∧ (desc D p a m t b).2 - b ≤ (m : Int) * 68719476736 := by
  induction m using Nat.strongRecOn with
  | ind m ih =>
    intro a t b hI
    by_cases h2 : 2 ≤ m
    · have hl := H.left a m t hI h2
      have hr := H.right a m t hI h2
      have hf := (H.few _ _ _ hl).2.2
      by_cases hp : p (a, m / 2, D a m t) (a + m / 2, m - m / 2, t - D a m t) b = true
      · rw [desc_left h2 hp]
        have := ih (m / 2) (by omega) a _ b hl
        omega
      · rw [desc_right h2 (by simpa using hp)]
        have := ih (m - m / 2) (by omega) _ _ (b + D a m t) hr
        omega
    · rw [desc_end D p a m t b (by omega)]
      simp only
      omega
section
variable {s : ByteArray} {A : Option Addr} {n c : Nat} {l : List Int} {T N lo hi : Int} {D : Nat → Nat → Int → Int} {I : Nat → Nat → Int → Prop}
set_option maxRecDepth 100000 in
set_option maxHeartbeats 8000000 in
theorem one_any (H : RHalved s A n c l T N lo hi D I) (k : Int) (hk : -9223372036854775808 ≤ k ∧ k ≤ 9223372036854775807) (m : Nat) : ∀ (a : Nat) (t b : Int), I a m t → 1 ≤ m → ∀ w, RN s A n l w →
    Calls Tryd.prog 24 #[spV s A n c T N lo hi, .int .i64 (a : Int), .int .i64 (m : Int), .int .i64 t, .int .i64 k] w fun E W' => E = .returned (.tuple #[.int .i64 (desc D (pTo k) a m t b).1.2.2, .int .i64 ((desc D (pTo k) a m t b).2 - b)]) ∧ Below w.heap.size w W' := by
  induction m using Nat.strongRecOn with
  | ind m ih =>
    intro a t b hI h1 w hN
    have k0 := Blk.new w 24 (spC s A n c T N lo hi)
    have ok0 := (Ok.refl w).alloc (.cells (spC s A n c T N lo hi) 24)
    by_cases h2 : 2 ≤ m
    · obtain ⟨f1, f2, f3, f4⟩ := H.few a m t hI
      have hl := H.left a m t hI h2
      have hr := H.right a m t hI h2
      have fl := H.few _ _ _ hl
      have HW := Lib.hid (fun W (hW : Ok w W) => H.walk a m t hI h2 W (hN.below hW))
      have HL := Lib.hid (fun W (hW : Ok w W) => ih (m / 2) (by omega) a (D a m t) b hl (by omega) W (hN.below hW))
      have HR := Lib.hid (fun W (hW : Ok w W) => ih (m - m / 2) (by omega) (a + m / 2) (t - D a m t) (b + D a m t) hr (by omega) W (hN.below hW))
      have HDL : Hid (k < ((a + m / 2 : Nat) : Int) → desc D (pTo k) a m t b = desc D (pTo k) a (m / 2) (D a m t) b) := Lib.hid fun e => desc_left h2 (by unfold pTo; exact decide_eq_true e)
      have HDR : Hid (¬ k < ((a + m / 2 : Nat) : Int) → desc D (pTo k) a m t b = desc D (pTo k) (a + m / 2) (m - m / 2) (t - D a m t) (b + D a m t)) := Lib.hid fun e => desc_right h2 (by unfold pTo; exact decide_eq_false e)
      have HSM := Lib.hid (desc_small H (pTo k) (m - m / 2) (a + m / 2) (t - D a m t) (b + D a m t) hr)
      generalize D a m t = x at *
      have hm1 : ¬ (m : Int) = 1 := by omega
      have hm1b : ((m : Int) == 1) = false := by simpa using hm1
      have w7 : (m : Int).tdiv 2 = ((m / 2 : Nat) : Int) := by rw [Int.tdiv_eq_ediv_of_nonneg (by omega)]; omega
      have w8 : IntKind.i64.wrap ((m / 2 : Nat) : Int) = ((m / 2 : Nat) : Int) := wrap_small (by omega) (by omega)
      have w9 : IntKind.i64.wrap ((m : Int) - ((m / 2 : Nat) : Int)) = ((m - m / 2 : Nat) : Int) := by rw [show (m : Int) - ((m / 2 : Nat) : Int) = ((m - m / 2 : Nat) : Int) by omega]; exact wrap_small (by omega) (by omega)
      have w10 : IntKind.i64.wrap ((a : Int) + ((m / 2 : Nat) : Int)) = ((a + m / 2 : Nat) : Int) := by rw [show (a : Int) + ((m / 2 : Nat) : Int) = ((a + m / 2 : Nat) : Int) by omega]; exact wrap_small (by omega) (by omega)
      have w11 : IntKind.i64.wrap (t - x) = t - x := wrap_small (by omega) (by omega)
      have hb := Lib.hid (And.intro f2 (And.intro fl.2.2.1 fl.2.2.2))
      clear hI hN ih H hl hr fl f1 f3 f4
      generalize hml : m / 2 = ml at *
      generalize hmr : m - ml = mr at *
      generalize hal : a + ml = al at *
      by_cases hka : k < (al : Int)
      · rw [HDL.out (by omega)]
        go_enter Tryd.func24, Tryd.ntmps24
        go_wp2_with fail
        refine (HW.out _ ok0).mono ?_
        rintro E w1 ⟨rfl, b1⟩
        have ok1 := ok0.step b1
        have k1 := k0.thru b1
        clear k0 ok0 b1
        have x0 : w1.cell? ⟨w.heap.size, 0, none⟩ = some (.string s) := k1.at_ rfl
        have x1 : w1.cell? ⟨w.heap.size, 1, none⟩ = some (.slice A n c) := k1.at_ rfl
        have x2 : w1.cell? ⟨w.heap.size, 2, none⟩ = some (.int .i64 T) := k1.at_ rfl
        have x3 : w1.cell? ⟨w.heap.size, 3, none⟩ = some (.int .i64 N) := k1.at_ rfl
        have x4 : w1.cell? ⟨w.heap.size, 4, none⟩ = some (.int .i64 lo) := k1.at_ rfl
        have x5 : w1.cell? ⟨w.heap.size, 5, none⟩ = some (.int .i64 hi) := k1.at_ rfl
        go_wp2_with fail
        refine (HL.out _ ok1).mono ?_
        rintro E w2 ⟨rfl, b2⟩
        have ok2 := ok1.step b2
        go_wp2_with fail
        go_ret2
        exact ⟨rfl, ok2⟩
      · rw [HDR.out (by omega)]
        have hsm := HSM.out
        obtain ⟨g1, g2, g3⟩ := hb.out
        generalize desc D (pTo k) al mr (t - x) (b + x) = R at *
        have w12 : IntKind.i64.wrap (R.2 - (b + x) + x) = R.2 - b := by rw [show R.2 - (b + x) + x = R.2 - b by omega]; exact wrap_small (by omega) (by omega)
        go_enter Tryd.func24, Tryd.ntmps24
        go_wp2_with fail
        refine (HW.out _ ok0).mono ?_
        rintro E w1 ⟨rfl, b1⟩
        have ok1 := ok0.step b1
        have k1 := k0.thru b1
        clear k0 ok0 b1
        have x0 : w1.cell? ⟨w.heap.size, 0, none⟩ = some (.string s) := k1.at_ rfl
        have x1 : w1.cell? ⟨w.heap.size, 1, none⟩ = some (.slice A n c) := k1.at_ rfl
        have x2 : w1.cell? ⟨w.heap.size, 2, none⟩ = some (.int .i64 T) := k1.at_ rfl
        have x3 : w1.cell? ⟨w.heap.size, 3, none⟩ = some (.int .i64 N) := k1.at_ rfl
        have x4 : w1.cell? ⟨w.heap.size, 4, none⟩ = some (.int .i64 lo) := k1.at_ rfl
        have x5 : w1.cell? ⟨w.heap.size, 5, none⟩ = some (.int .i64 hi) := k1.at_ rfl
        go_wp2_with fail
        refine (HR.out _ ok1).mono ?_
        rintro E w2 ⟨rfl, b2⟩
        have ok2 := ok1.step b2
        go_wp2_with fail
        go_ret2
        exact ⟨rfl, ok2⟩
    · obtain rfl : m = 1 := by omega
      rw [desc_end D _ a 1 t b (by omega)]
      clear hI hN ih H
      go_enter Tryd.func24, Tryd.ntmps24
      go_wp2_with fail
      go_ret2
      exact ⟨by simp, ok0⟩
set_option maxRecDepth 100000 in
set_option maxHeartbeats 8000000 in
theorem findR_any (H : RHalved s A n c l T N lo hi D I) (z : Int) (hz : -1099511627776 ≤ z ∧ z ≤ 1099511627776) (m : Nat) : ∀ (a : Nat) (t b : Int), I a m t → 1 ≤ m → (-((65536 - m : Int) * 68719476736) ≤ b ∧ b ≤ (65536 - m : Int) * 68719476736) → ∀ w, RN s A n l w →
    Calls Tryd.prog 27 #[spV s A n c T N lo hi, .int .i64 (a : Int), .int .i64 (m : Int), .int .i64 t, .int .i64 (z - b)] w fun E W' => E = .returned (.tuple #[.int .i64 ((desc D (pFind z) a m t b).1.1 : Int), .int .i64 (z - (desc D (pFind z) a m t b).2)]) ∧ Below w.heap.size w W' := by
  induction m using Nat.strongRecOn with
  | ind m ih =>
    intro a t b hI h1 hb w hN
    have k0 := Blk.new w 24 (spC s A n c T N lo hi)
    have ok0 := (Ok.refl w).alloc (.cells (spC s A n c T N lo hi) 24)
    by_cases h2 : 2 ≤ m
    · obtain ⟨f1, f2, f3, f4⟩ := H.few a m t hI
      have hl := H.left a m t hI h2
      have hr := H.right a m t hI h2
      have fl := H.few _ _ _ hl
      have HW := Lib.hid (fun W (hW : Ok w W) => H.walk a m t hI h2 W (hN.below hW))
      have HL := Lib.hid (fun W (hW : Ok w W) => ih (m / 2) (by omega) a (D a m t) b hl (by omega) (by omega) W (hN.below hW))
      have HR := Lib.hid (fun W (hW : Ok w W) => ih (m - m / 2) (by omega) (a + m / 2) (t - D a m t) (b + D a m t) hr (by omega) (by omega) W (hN.below hW))
      have HDL : Hid (z - b < D a m t → desc D (pFind z) a m t b = desc D (pFind z) a (m / 2) (D a m t) b) := Lib.hid fun e => desc_left h2 (by unfold pFind; exact decide_eq_true (show z < b + D a m t by omega))
      have HDR : Hid (¬ z - b < D a m t → desc D (pFind z) a m t b = desc D (pFind z) (a + m / 2) (m - m / 2) (t - D a m t) (b + D a m t)) := Lib.hid fun e => desc_right h2 (by unfold pFind; exact decide_eq_false (show ¬ z < b + D a m t by omega))
      generalize D a m t = x at *
      have hm1 : ¬ (m : Int) = 1 := by omega
      have hm1b : ((m : Int) == 1) = false := by simpa using hm1
      have w7 : (m : Int).tdiv 2 = ((m / 2 : Nat) : Int) := by rw [Int.tdiv_eq_ediv_of_nonneg (by omega)]; omega
      have w8 : IntKind.i64.wrap ((m / 2 : Nat) : Int) = ((m / 2 : Nat) : Int) := wrap_small (by omega) (by omega)
      have w9 : IntKind.i64.wrap ((m : Int) - ((m / 2 : Nat) : Int)) = ((m - m / 2 : Nat) : Int) := by rw [show (m : Int) - ((m / 2 : Nat) : Int) = ((m - m / 2 : Nat) : Int) by omega]; exact wrap_small (by omega) (by omega)
      have w10 : IntKind.i64.wrap ((a : Int) + ((m / 2 : Nat) : Int)) = ((a + m / 2 : Nat) : Int) := by rw [show (a : Int) + ((m / 2 : Nat) : Int) = ((a + m / 2 : Nat) : Int) by omega]; exact wrap_small (by omega) (by omega)
      have w11 : IntKind.i64.wrap (t - x) = t - x := wrap_small (by omega) (by omega)
      have w12 : IntKind.i64.wrap (z - b - x) = z - (b + x) := by rw [show z - b - x = z - (b + x) by omega]; exact wrap_small (by omega) (by omega)
      clear hI hN ih H hl hr fl f1 f3 f4 hz hb
      generalize hml : m / 2 = ml at *
      generalize hmr : m - ml = mr at *
      generalize hal : a + ml = al at *
      by_cases hka : z - b < x
      · rw [HDL.out (by omega)]
        go_enter Tryd.func27, Tryd.ntmps27
        go_wp2_with fail
        refine (HW.out _ ok0).mono ?_
        rintro E w1 ⟨rfl, b1⟩
        have ok1 := ok0.step b1
        have k1 := k0.thru b1
        clear k0 ok0 b1
        have x0 : w1.cell? ⟨w.heap.size, 0, none⟩ = some (.string s) := k1.at_ rfl
        have x1 : w1.cell? ⟨w.heap.size, 1, none⟩ = some (.slice A n c) := k1.at_ rfl
        have x2 : w1.cell? ⟨w.heap.size, 2, none⟩ = some (.int .i64 T) := k1.at_ rfl
        have x3 : w1.cell? ⟨w.heap.size, 3, none⟩ = some (.int .i64 N) := k1.at_ rfl
        have x4 : w1.cell? ⟨w.heap.size, 4, none⟩ = some (.int .i64 lo) := k1.at_ rfl
        have x5 : w1.cell? ⟨w.heap.size, 5, none⟩ = some (.int .i64 hi) := k1.at_ rfl
        go_wp2_with fail
        refine (HL.out _ ok1).mono ?_
        rintro E w2 ⟨rfl, b2⟩
        have ok2 := ok1.step b2
        go_wp2_with fail
        go_ret2
        exact ⟨rfl, ok2⟩
      · rw [HDR.out (by omega)]
        go_enter Tryd.func27, Tryd.ntmps27
        go_wp2_with fail
        refine (HW.out _ ok0).mono ?_
        rintro E w1 ⟨rfl, b1⟩
        have ok1 := ok0.step b1
        have k1 := k0.thru b1
        clear k0 ok0 b1
        have x0 : w1.cell? ⟨w.heap.size, 0, none⟩ = some (.string s) := k1.at_ rfl
        have x1 : w1.cell? ⟨w.heap.size, 1, none⟩ = some (.slice A n c) := k1.at_ rfl
        have x2 : w1.cell? ⟨w.heap.size, 2, none⟩ = some (.int .i64 T) := k1.at_ rfl
        have x3 : w1.cell? ⟨w.heap.size, 3, none⟩ = some (.int .i64 N) := k1.at_ rfl
        have x4 : w1.cell? ⟨w.heap.size, 4, none⟩ = some (.int .i64 lo) := k1.at_ rfl
        have x5 : w1.cell? ⟨w.heap.size, 5, none⟩ = some (.int .i64 hi) := k1.at_ rfl
        go_wp2_with fail
        refine (HR.out _ ok1).mono ?_
        rintro E w2 ⟨rfl, b2⟩
        have ok2 := ok1.step b2
        go_wp2_with fail
        go_ret2
        exact ⟨rfl, ok2⟩
    · obtain rfl : m = 1 := by omega
      rw [desc_end D _ a 1 t b (by omega)]
      clear hI hN ih H
      go_enter Tryd.func27, Tryd.ntmps27
      go_wp2_with fail
      go_ret2
      exact ⟨rfl, ok0⟩
set_option maxRecDepth 100000 in
set_option maxHeartbeats 16000000 in
theorem partsR_any (H : RHalved s A n c l T N lo hi D I) (m : Nat) : ∀ (a : Nat) (t : Int), I a m t → ∀ w, RN s A n l w →
    Calls Tryd.prog 22 #[spV s A n c T N lo hi, .int .i64 (a : Int), .int .i64 (m : Int), .int .i64 t] w fun E W' => ∃ v, E = .returned v ∧ W'.ownsRow w.heap.size 3 1 v m (ints (parts D a m t)) ∧ Below w.heap.size w W' := by
  induction m using Nat.strongRecOn with
  | ind m ih =>
    intro a t hI w hN
    have k0 := Blk.new w 24 (spC s A n c T N lo hi)
    have ok0 := (Ok.refl w).alloc (.cells (spC s A n c T N lo hi) 24)
    by_cases h2 : 2 ≤ m
    · obtain ⟨f1, f2, f3, f4⟩ := H.few a m t hI
      have hl := H.left a m t hI h2
      have hr := H.right a m t hI h2
      have fl := H.few _ _ _ hl
      have HW := Lib.hid (fun W (hW : Ok w W) => H.walk a m t hI h2 W (hN.below hW))
      have HL := Lib.hid (fun W (hW : Ok w W) => ih (m / 2) (by omega) a (D a m t) hl W (hN.below hW))
      have HR := Lib.hid (fun W (hW : Ok w W) => ih (m - m / 2) (by omega) (a + m / 2) (t - D a m t) hr W (hN.below hW))
      have HX := Lib.hid (parts_two D a m t h2)
      generalize D a m t = x at *
      have hm1 : ¬ (m : Int) = 1 := by omega
      have hm1b : ((m : Int) == 1) = false := by simpa using hm1
      have hm0 : ¬ (m : Int) = 0 := by omega
      have hm0b : ((m : Int) == 0) = false := by simpa using hm0
      have w7 : (m : Int).tdiv 2 = ((m / 2 : Nat) : Int) := by rw [Int.tdiv_eq_ediv_of_nonneg (by omega)]; omega
      have w8 : IntKind.i64.wrap ((m / 2 : Nat) : Int) = ((m / 2 : Nat) : Int) := wrap_small (by omega) (by omega)
      have w9 : IntKind.i64.wrap ((m : Int) - ((m / 2 : Nat) : Int)) = ((m - m / 2 : Nat) : Int) := by rw [show (m : Int) - ((m / 2 : Nat) : Int) = ((m - m / 2 : Nat) : Int) by omega]; exact wrap_small (by omega) (by omega)
      have w10 : IntKind.i64.wrap ((a : Int) + ((m / 2 : Nat) : Int)) = ((a + m / 2 : Nat) : Int) := by rw [show (a : Int) + ((m / 2 : Nat) : Int) = ((a + m / 2 : Nat) : Int) by omega]; exact wrap_small (by omega) (by omega)
      have w11 : IntKind.i64.wrap (t - x) = t - x := wrap_small (by omega) (by omega)
      have hmm : m / 2 + (m - m / 2) = m := by omega
      clear hI hN ih H hl hr fl f1 f3 f4
      generalize hml : m / 2 = ml at *
      generalize hmr : m - ml = mr at *
      generalize hal : a + ml = al at *
      generalize parts D a ml x = LS at *
      generalize parts D al mr (t - x) = RS at *
      have HML := Lib.hid hmm
      obtain ⟨i0, hi0, hz0, hz1, hz2⟩ := info_parts info_i64
      go_enter Tryd.func22, Tryd.ntmps22
      go_wp2_with fail
      refine (HW.out _ ok0).mono ?_
      rintro E w1 ⟨rfl, b1⟩
      have ok1 := ok0.step b1
      have k1 := k0.thru b1
      clear k0 ok0 b1
      have x0 : w1.drew.cell? ⟨w.heap.size, 0, none⟩ = some (.string s) := k1.drew.at_ rfl
      have x1 : w1.drew.cell? ⟨w.heap.size, 1, none⟩ = some (.slice A n c) := k1.drew.at_ rfl
      have x2 : w1.drew.cell? ⟨w.heap.size, 2, none⟩ = some (.int .i64 T) := k1.drew.at_ rfl
      have x3 : w1.drew.cell? ⟨w.heap.size, 3, none⟩ = some (.int .i64 N) := k1.drew.at_ rfl
      have x4 : w1.drew.cell? ⟨w.heap.size, 4, none⟩ = some (.int .i64 lo) := k1.drew.at_ rfl
      have x5 : w1.drew.cell? ⟨w.heap.size, 5, none⟩ = some (.int .i64 hi) := k1.drew.at_ rfl
      go_upto_region 6 with fail
      refine wp_region_but (fun W => Ok w W ∧ W.cell? ⟨w.heap.size, 0, none⟩ = some (.string s) ∧ W.cell? ⟨w.heap.size, 1, none⟩ = some (.slice A n c) ∧ W.cell? ⟨w.heap.size, 2, none⟩ = some (.int .i64 T) ∧ W.cell? ⟨w.heap.size, 3, none⟩ = some (.int .i64 N) ∧ W.cell? ⟨w.heap.size, 4, none⟩ = some (.int .i64 lo) ∧ W.cell? ⟨w.heap.size, 5, none⟩ = some (.int .i64 hi)) [20] (by kernel_rfl) ⟨ok1.drew, x0, x1, x2, x3, x4, x5⟩ fun hS0 => ?_
      refine wpBut_take 0 (v := spV s A n c T N lo hi) rfl (by kernel_rfl) (fun _ _ _ h => h) ⟨by rfl, fun W hW => ?_⟩ hS0 ?_
      · obtain ⟨s9, s0, s1, s2, s3, s4, s5⟩ := hW
        go_simp
      simp only [Act.put, List.setIfInBounds_toArray, List.set_cons_zero, List.set_cons_succ]
      refine wpBut_pure 1 (v := .int .i64 (a : Int)) rfl (by kernel_rfl) (fun _ _ _ h => h) ⟨by rfl, fun W => ?_⟩ (fun _ => hS0) ?_
      · go_simp
      simp only [Act.put, List.setIfInBounds_toArray, List.set_cons_zero, List.set_cons_succ]
      refine wpBut_pure 2 (v := .int .i64 (m : Int)) rfl (by kernel_rfl) (fun _ _ _ h => h) ⟨by rfl, fun W => ?_⟩ (fun _ => hS0) ?_
      · go_simp
      simp only [Act.put, List.setIfInBounds_toArray, List.set_cons_zero, List.set_cons_succ]
      refine wpBut_pure 3 (v := .int .i64 (ml : Int)) rfl (by kernel_rfl) (fun _ _ _ h => h) ⟨by rfl, fun W => ?_⟩ (fun _ => hS0) ?_
      · go_simp
      simp only [Act.put, List.setIfInBounds_toArray, List.set_cons_zero, List.set_cons_succ]
      refine wpBut_pure 4 (v := .int .i64 x) rfl (by kernel_rfl) (fun _ _ _ h => h) ⟨by rfl, fun W => ?_⟩ (fun _ => hS0) ?_
      · go_simp
      simp only [Act.put, List.setIfInBounds_toArray, List.set_cons_zero, List.set_cons_succ]
      refine wpBut_take 6 (v := spV s A n c T N lo hi) rfl (by kernel_rfl) (fun _ _ _ h => h) ⟨by rfl, fun W hW => ?_⟩ hS0 ?_
      · obtain ⟨s9, s0, s1, s2, s3, s4, s5⟩ := hW
        go_simp
      simp only [Act.put, List.setIfInBounds_toArray, List.set_cons_zero, List.set_cons_succ]
      refine wpBut_pure 7 (v := .int .i64 (a : Int)) rfl (by kernel_rfl) (fun _ _ _ h => h) ⟨by rfl, fun W => ?_⟩ (fun _ => hS0) ?_
      · go_simp
      simp only [Act.put, List.setIfInBounds_toArray, List.set_cons_zero, List.set_cons_succ]
      refine wpBut_pure 8 (v := .int .i64 (m : Int)) rfl (by kernel_rfl) (fun _ _ _ h => h) ⟨by rfl, fun W => ?_⟩ (fun _ => hS0) ?_
      · go_simp
      simp only [Act.put, List.setIfInBounds_toArray, List.set_cons_zero, List.set_cons_succ]
      refine wpBut_pure 9 (v := .int .i64 (ml : Int)) rfl (by kernel_rfl) (fun _ _ _ h => h) ⟨by rfl, fun W => ?_⟩ (fun _ => hS0) ?_
      · go_simp
      simp only [Act.put, List.setIfInBounds_toArray, List.set_cons_zero, List.set_cons_succ]
      refine wpBut_pure 10 (v := .int .i64 (al : Int)) rfl (by kernel_rfl) (fun _ _ _ h => h) ⟨by rfl, fun W => ?_⟩ (fun _ => hS0) ?_
      · go_simp
      simp only [Act.put, List.setIfInBounds_toArray, List.set_cons_zero, List.set_cons_succ]
      refine wpBut_pure 11 (v := .int .i64 (m : Int)) rfl (by kernel_rfl) (fun _ _ _ h => h) ⟨by rfl, fun W => ?_⟩ (fun _ => hS0) ?_
      · go_simp
      simp only [Act.put, List.setIfInBounds_toArray, List.set_cons_zero, List.set_cons_succ]
      refine wpBut_pure 12 (v := .int .i64 (m : Int)) rfl (by kernel_rfl) (fun _ _ _ h => h) ⟨by rfl, fun W => ?_⟩ (fun _ => hS0) ?_
      · go_simp
      simp only [Act.put, List.setIfInBounds_toArray, List.set_cons_zero, List.set_cons_succ]
      refine wpBut_pure 13 (v := .int .i64 (ml : Int)) rfl (by kernel_rfl) (fun _ _ _ h => h) ⟨by rfl, fun W => ?_⟩ (fun _ => hS0) ?_
      · go_simp
      simp only [Act.put, List.setIfInBounds_toArray, List.set_cons_zero, List.set_cons_succ]
      refine wpBut_pure 14 (v := .int .i64 (mr : Int)) rfl (by kernel_rfl) (fun _ _ _ h => h) ⟨by rfl, fun W => ?_⟩ (fun _ => hS0) ?_
      · go_simp
      simp only [Act.put, List.setIfInBounds_toArray, List.set_cons_zero, List.set_cons_succ]
      refine wpBut_pure 15 (v := .int .i64 t) rfl (by kernel_rfl) (fun _ _ _ h => h) ⟨by rfl, fun W => ?_⟩ (fun _ => hS0) ?_
      · go_simp
      simp only [Act.put, List.setIfInBounds_toArray, List.set_cons_zero, List.set_cons_succ]
      refine wpBut_pure 16 (v := .int .i64 x) rfl (by kernel_rfl) (fun _ _ _ h => h) ⟨by rfl, fun W => ?_⟩ (fun _ => hS0) ?_
      · go_simp
      simp only [Act.put, List.setIfInBounds_toArray, List.set_cons_zero, List.set_cons_succ]
      refine wpBut_pure 17 (v := .int .i64 (t - x)) rfl (by kernel_rfl) (fun _ _ _ h => h) ⟨by rfl, fun W => ?_⟩ (fun _ => hS0) ?_
      · go_simp
      simp only [Act.put, List.setIfInBounds_toArray, List.set_cons_zero, List.set_cons_succ]
      clear x0 x1 x2 x3 x4 x5
      refine wpBut_one 5 rfl (by kernel_rfl) fun K hK => ?_
      go_simp
      go_at_call 22
      refine (HL.out _ ok1.drew).mono ?_
      rintro E2 w2 ⟨v2, rfl, o2, b2⟩
      have k2 := k1.drew.thru b2
      have ok2 := Ok.step ok1.drew b2
      refine hK.out _ _ ⟨ok2, k2.at_ rfl, k2.at_ rfl, k2.at_ rfl, k2.at_ rfl, k2.at_ rfl, k2.at_ rfl⟩ fun hS2 => ?_
      clear hK K
      refine wpBut_one 18 rfl (by kernel_rfl) fun K hK => ?_
      go_simp
      go_at_call 22
      refine (HR.out _ ok2).mono ?_
      rintro E3 w3 ⟨v3, rfl, o3, b3⟩
      have k3 := k2.thru b3
      have ok3 := Ok.step ok2 b3
      refine hK.out _ _ ⟨ok3, k3.at_ rfl, k3.at_ rfl, k3.at_ rfl, k3.at_ rfl, k3.at_ rfl, k3.at_ rfl⟩ fun hS3 => ?_
      clear hK K
      have o2' := own_le (own_below o2 b3) (Below.size ok1.drew)
      have o3' := own_le o3 (Below.size ok2)
      obtain ⟨Ar, cr, e3, -⟩ := own_reads1 o3
      subst e3
      have rr := Reads.of_own o3'
      refine wpBut_one 19 rfl (by kernel_rfl) fun K hK => ?_
      rw [if_pos (by rfl)]
      refine wp_append_rd _ _ _ 22 rfl w.heap.size 3 i0 (.int .i64 0) 1 8 Tryd.underlying22 hi0 hz0 hz1 hz2 rfl (by decide) _ ml (ints LS) rfl o2' w3.heap.size Ar mr cr (ints RS) rfl rr (ints_one RS) (by unfold maxLen; omega) (by omega) (Below.size ok3) ?_
      intro v4 w4 o4 g4
      have k4 := k3.grown g4 (own_ne_blk o2' k3 (by decide))
      have ok4 : Ok w w4 := (show Below w.heap.size w _ from ok3).grown g4 (Below.size ok3) (fun r e => (o2'.lt r e).1)
      refine hK.out _ _ ⟨ok4, k4.at_ rfl, k4.at_ rfl, k4.at_ rfl, k4.at_ rfl, k4.at_ rfl, k4.at_ rfl⟩ fun hS4 => ?_
      clear hK K
      simp only [Act.put, List.setIfInBounds_toArray, List.set_cons_zero, List.set_cons_succ]
      refine wpBut_seq 20 (g := 0) (by decide) (by decide) (by rfl) (by kernel_rfl) ?_
      simp only [List.drop_succ_cons, List.drop_zero]
      go_wp2_with fail
      go_ret
      refine ⟨_, rfl, ?_, ok4⟩
      rw [HX.out, ← HML.out]
      rw [show ints LS ++ ints RS = ints (LS ++ RS) by simp [ints]] at o4
      exact o4
    · by_cases h1 : m = 1
      · subst h1
        rw [parts_one]
        clear hI hN ih H
        go_enter Tryd.func22, Tryd.ntmps22
        go_wp2_with fail
        go_ret
        refine ⟨_, rfl, ?_, ok0.alloc _⟩
        have hz : (w.alloc (.cells (spC s A n c T N lo hi) 24)).heap.size = w.heap.size + 1 := by simp
        have ho := own_new (w.alloc (.cells (spC s A n c T N lo hi) 24)) 3 #[.int .i64 t] w.heap.size (Below.size ok0) (by unfold maxLen; simp)
        rw [hz] at ho
        exact ho
      · obtain rfl : m = 0 := by omega
        rw [parts_none]
        clear hI hN ih H
        go_enter Tryd.func22, Tryd.ntmps22
        go_wp2_with fail
        go_ret
        exact ⟨_, rfl, ⟨rfl, .inl ⟨rfl, rfl⟩⟩, ok0⟩
end
end Go.Proofs.YtnionejefpnfoaaDoor
/- What Valid answers of any split, the package's and the reference's. Conditions: the numbers have 64 bits, the seed and the path are short. -/
namespace Go.Proofs.YtnionejefpnfoaaDoor
open Go.RowKit

/-- the numbers of a split have 64 bits, its seed and its path are short -/
structure SNum (s : ByteArray) (n : Nat) (T N lo hi : Int) : Prop where
  text : s.size ≤ 1000
  path : n ≤ 1000
  t : I64 T
  n : I64 N
  lo : I64 lo
  hi : I64 hi
def LimS (N lo hi : Int) : Prop := 65536 < N ∨ lo < -1048576 ∨ 1048576 < lo ∨ hi < -1048576 ∨ 1048576 < hi
def ArgS (sz n : Nat) (N lo hi : Int) : Prop := 32 < sz ∨ 6 < n ∨ N < 0 ∨ hi < lo
def RanS (T N lo hi : Int) : Prop := T < N * lo ∨ N * hi < T
open Classical in
/-- the error of a split -/
noncomputable def vS (sz n : Nat) (T N lo hi : Int) : Int := if LimS N lo hi then 4 else if ArgS sz n N lo hi then 1 else if RanS T N lo hi then 5 else 0
theorem vS_lim {sz n : Nat} {T N lo hi : Int} (h : LimS N lo hi) : vS sz n T N lo hi = 4 := by unfold vS; rw [if_pos h]
theorem vS_arg {sz n : Nat} {T N lo hi : Int} (h : ¬ LimS N lo hi) (h1 : ArgS sz n N lo hi) : vS sz n T N lo hi = 1 := by unfold vS; rw [if_neg h, if_pos h1]
theorem vS_ran {sz n : Nat} {T N lo hi : Int} (h : ¬ LimS N lo hi) (h1 : ¬ ArgS sz n N lo hi) (h2 : RanS T N lo hi) : vS sz n T N lo hi = 5 := by unfold vS; rw [if_neg h, if_neg h1, if_pos h2]
theorem vS_ok {sz n : Nat} {T N lo hi : Int} (h : ¬ LimS N lo hi) (h1 : ¬ ArgS sz n N lo hi) (h2 : ¬ RanS T N lo hi) : vS sz n T N lo hi = 0 := by unfold vS; rw [if_neg h, if_neg h1, if_neg h2]
theorem vS_zero {s : ByteArray} {n : Nat} {T N lo hi : Int} (h : vS s.size n T N lo hi = 0) : SOk s n T N lo hi := by
  unfold vS at h
  split at h
  · cases h
  · split at h
    · cases h
    · split at h
      · cases h
      · rename_i h1 h2 h3
        unfold LimS ArgS RanS at *
        exact ⟨by omega, by omega, by omega, by omega, by omega, by omega, by omega, by omega, by omega⟩
theorem vS_vals (sz n : Nat) (T N lo hi : Int) : vS sz n T N lo hi = 0 ∨ vS sz n T N lo hi = 1 ∨ vS sz n T N lo hi = 4 ∨ vS sz n T N lo hi = 5 := by
  unfold vS
  split
  · simp
  · split
    · simp
    · split <;> simp
set_option maxRecDepth 100000 in
set_option maxHeartbeats 16000000 in
theorem validS_any {s : ByteArray} {n : Nat} {T N lo hi : Int} (h : SNum s n T N lo hi) (A : Option Addr) (c : Nat) (w : World) :
    Calls Tryd.prog 7 #[spV s A n c T N lo hi] w fun E W' => E = .returned (.int .i64 (vS s.size n T N lo hi)) ∧ Below w.heap.size w W' := by
  have hB := (Below.refl w.heap.size w).alloc (Nat.le_refl _) (.cells (spC s A n c T N lo hi) 28)
  obtain ⟨b1, b2, b3, b4, b5, b6⟩ := h
  have mn := fun ts t W => run_min_int2 (P := Tryd.prog) (w := W) ts t .i64 .i64 lo hi
  have mx := fun ts t W => run_max_int2 (P := Tryd.prog) (w := W) ts t .i64 .i64 lo hi
  obtain ⟨mnv, hmn⟩ : ∃ x : Int, x = (if hi < lo then hi else lo) := ⟨_, rfl⟩
  obtain ⟨mxv, hmx⟩ : ∃ x : Int, x = (if hi > lo then hi else lo) := ⟨_, rfl⟩
  rw [← hmn] at mn
  rw [← hmx] at mx
  have e1 : (mnv = hi ∧ hi < lo) ∨ (mnv = lo ∧ lo ≤ hi) := by
    rw [hmn]
    split <;> omega
  have e2 : (mxv = hi ∧ lo < hi) ∨ (mxv = lo ∧ hi ≤ lo) := by
    rw [hmx]
    split <;> omega
  clear hmn hmx
  unfold I64 at b3 b4 b5 b6
  by_cases a1 : 65536 < N
  · have g1 : decide (65536 < N) = true := decide_eq_true a1
    rw [vS_lim (by unfold LimS; omega)]
    go_enter Tryd.func7, Tryd.ntmps7
    go_wp2_with fail
    go_ret
    exact ⟨rfl, hB⟩
  have g1 : decide (65536 < N) = false := decide_eq_false a1
  by_cases a2 : mnv < -1048576
  · have g2 : decide (mnv < -1048576) = true := decide_eq_true a2
    rw [vS_lim (by unfold LimS; omega)]
    go_enter Tryd.func7, Tryd.ntmps7
    go_wp2_with fail
    go_ret
    exact ⟨rfl, hB⟩
  have g2 : decide (mnv < -1048576) = false := decide_eq_false a2
  by_cases a3 : 1048576 < mxv
  · have g3 : decide (1048576 < mxv) = true := decide_eq_true a3
    rw [vS_lim (by unfold LimS; omega)]
    go_enter Tryd.func7, Tryd.ntmps7
    go_wp2_with fail
    go_ret
    exact ⟨rfl, hB⟩
  have g3 : decide (1048576 < mxv) = false := decide_eq_false a3
  by_cases a4 : (32 : Int) < (s.size : Int)
  · have g4 : decide ((32 : Int) < (s.size : Int)) = true := decide_eq_true a4
    rw [vS_arg (by unfold LimS; omega) (by unfold ArgS; omega)]
    go_enter Tryd.func7, Tryd.ntmps7
    go_wp2_with fail
    go_ret
    exact ⟨rfl, hB⟩
  have g4 : decide ((32 : Int) < (s.size : Int)) = false := decide_eq_false a4
  by_cases a5 : (6 : Int) < (n : Int)
  · have g5 : decide ((6 : Int) < (n : Int)) = true := decide_eq_true a5
    rw [vS_arg (by unfold LimS; omega) (by unfold ArgS; omega)]
    go_enter Tryd.func7, Tryd.ntmps7
    go_wp2_with fail
    go_ret
    exact ⟨rfl, hB⟩
  have g5 : decide ((6 : Int) < (n : Int)) = false := decide_eq_false a5
  by_cases a6 : N < 0
  · have g6 : decide (N < 0) = true := decide_eq_true a6
    rw [vS_arg (by unfold LimS; omega) (by unfold ArgS; omega)]
    go_enter Tryd.func7, Tryd.ntmps7
    go_wp2_with fail
    go_ret
    exact ⟨rfl, hB⟩
  have g6 : decide (N < 0) = false := decide_eq_false a6
  by_cases a7 : hi < lo
  · have g7 : decide (hi < lo) = true := decide_eq_true a7
    rw [vS_arg (by unfold LimS; omega) (by unfold ArgS; omega)]
    go_enter Tryd.func7, Tryd.ntmps7
    go_wp2_with fail
    go_ret
    exact ⟨rfl, hB⟩
  have g7 : decide (hi < lo) = false := decide_eq_false a7
  obtain ⟨m0, m1⟩ := mul_small (a := N) (b := lo) (by omega) (by omega) (by omega) (by omega)
  obtain ⟨m2, m3⟩ := mul_small (a := N) (b := hi) (by omega) (by omega) (by omega) (by omega)
  have q1 : IntKind.i64.wrap (N * lo) = N * lo := wrap_small (by omega) (by omega)
  have q2 : IntKind.i64.wrap (N * hi) = N * hi := wrap_small (by omega) (by omega)
  by_cases a8 : T < N * lo
  · have g8 : decide (T < N * lo) = true := decide_eq_true a8
    rw [vS_ran (by unfold LimS; omega) (by unfold ArgS; omega) (by unfold RanS; omega)]
    go_enter Tryd.func7, Tryd.ntmps7
    go_wp2_with fail
    go_ret
    exact ⟨rfl, hB⟩
  have g8 : decide (T < N * lo) = false := decide_eq_false a8
  by_cases a9 : N * hi < T
  · have g9 : decide (N * hi < T) = true := decide_eq_true a9
    rw [vS_ran (by unfold LimS; omega) (by unfold ArgS; omega) (by unfold RanS; omega)]
    go_enter Tryd.func7, Tryd.ntmps7
    go_wp2_with fail
    go_ret
    exact ⟨rfl, hB⟩
  have g9 : decide (N * hi < T) = false := decide_eq_false a9
  rw [vS_ok (by unfold LimS; omega) (by unfold ArgS; omega) (by unfold RanS; omega)]
  go_enter Tryd.func7, Tryd.ntmps7
  go_wp2_with fail
  go_ret
  exact ⟨rfl, hB⟩
set_option maxRecDepth 100000 in
set_option maxHeartbeats 16000000 in
theorem rValidS_any {s : ByteArray} {n : Nat} {T N lo hi : Int} (h : SNum s n T N lo hi) (A : Option Addr) (c : Nat) (w : World) :
    Calls Tryd.prog 8 #[spV s A n c T N lo hi] w fun E W' => E = .returned (.int .i64 (vS s.size n T N lo hi)) ∧ Below w.heap.size w W' := by
  have hB := (Below.refl w.heap.size w).alloc (Nat.le_refl _) (.cells (spC s A n c T N lo hi) 24)
  obtain ⟨b1, b2, b3, b4, b5, b6⟩ := h
  unfold I64 at b3 b4 b5 b6
  by_cases a1 : 65536 < N
  · have g1 : decide (65536 < N) = true := decide_eq_true a1
    rw [vS_lim (by unfold LimS; omega)]
    go_enter Tryd.func8, Tryd.ntmps8
    go_wp2_with fail
    go_ret
    exact ⟨rfl, hB⟩
  have g1 : decide (65536 < N) = false := decide_eq_false a1
  by_cases a2 : lo < -1048576
  · have g2 : decide (lo < -1048576) = true := decide_eq_true a2
    rw [vS_lim (by unfold LimS; omega)]
    go_enter Tryd.func8, Tryd.ntmps8
    go_wp2_with fail
    go_ret
    exact ⟨rfl, hB⟩
  have g2 : decide (lo < -1048576) = false := decide_eq_false a2
  by_cases a3 : 1048576 < lo
  · have g3 : decide (1048576 < lo) = true := decide_eq_true a3
    rw [vS_lim (by unfold LimS; omega)]
    go_enter Tryd.func8, Tryd.ntmps8
    go_wp2_with fail
    go_ret
    exact ⟨rfl, hB⟩
  have g3 : decide (1048576 < lo) = false := decide_eq_false a3
  by_cases a4 : hi < -1048576
  · have g4 : decide (hi < -1048576) = true := decide_eq_true a4
    rw [vS_lim (by unfold LimS; omega)]
    go_enter Tryd.func8, Tryd.ntmps8
    go_wp2_with fail
    go_ret
    exact ⟨rfl, hB⟩
  have g4 : decide (hi < -1048576) = false := decide_eq_false a4
  by_cases a5 : 1048576 < hi
  · have g5 : decide (1048576 < hi) = true := decide_eq_true a5
    rw [vS_lim (by unfold LimS; omega)]
    go_enter Tryd.func8, Tryd.ntmps8
    go_wp2_with fail
    go_ret
    exact ⟨rfl, hB⟩
  have g5 : decide (1048576 < hi) = false := decide_eq_false a5
  by_cases a6 : (32 : Int) < (s.size : Int)
  · have g6 : decide ((32 : Int) < (s.size : Int)) = true := decide_eq_true a6
    rw [vS_arg (by unfold LimS; omega) (by unfold ArgS; omega)]
    go_enter Tryd.func8, Tryd.ntmps8
    go_wp2_with fail
    go_ret
    exact ⟨rfl, hB⟩
  have g6 : decide ((32 : Int) < (s.size : Int)) = false := decide_eq_false a6
  by_cases a7 : (6 : Int) < (n : Int)
  · have g7 : decide ((6 : Int) < (n : Int)) = true := decide_eq_true a7
    rw [vS_arg (by unfold LimS; omega) (by unfold ArgS; omega)]
    go_enter Tryd.func8, Tryd.ntmps8
    go_wp2_with fail
    go_ret
    exact ⟨rfl, hB⟩
  have g7 : decide ((6 : Int) < (n : Int)) = false := decide_eq_false a7
  by_cases a8 : N < 0
  · have g8 : decide (N < 0) = true := decide_eq_true a8
    rw [vS_arg (by unfold LimS; omega) (by unfold ArgS; omega)]
    go_enter Tryd.func8, Tryd.ntmps8
    go_wp2_with fail
    go_ret
    exact ⟨rfl, hB⟩
  have g8 : decide (N < 0) = false := decide_eq_false a8
  by_cases a9 : hi < lo
  · have g9 : decide (hi < lo) = true := decide_eq_true a9
    rw [vS_arg (by unfold LimS; omega) (by unfold ArgS; omega)]
    go_enter Tryd.func8, Tryd.ntmps8
    go_wp2_with fail
    go_ret
    exact ⟨rfl, hB⟩
  have g9 : decide (hi < lo) = false := decide_eq_false a9
  obtain ⟨m0, m1⟩ := mul_small (a := N) (b := lo) (by omega) (by omega) (by omega) (by omega)
  obtain ⟨m2, m3⟩ := mul_small (a := N) (b := hi) (by omega) (by omega) (by omega) (by omega)
  have q1 : IntKind.i64.wrap (N * lo) = N * lo := wrap_small (by omega) (by omega)
  have q2 : IntKind.i64.wrap (N * hi) = N * hi := wrap_small (by omega) (by omega)
  by_cases a10 : T < N * lo
  · have g10 : decide (T < N * lo) = true := decide_eq_true a10
    rw [vS_ran (by unfold LimS; omega) (by unfold ArgS; omega) (by unfold RanS; omega)]
    go_enter Tryd.func8, Tryd.ntmps8
    go_wp2_with fail
    go_ret
    exact ⟨rfl, hB⟩
  have g10 : decide (T < N * lo) = false := decide_eq_false a10
  by_cases a11 : N * hi < T
  · have g11 : decide (N * hi < T) = true := decide_eq_true a11
    rw [vS_ran (by unfold LimS; omega) (by unfold ArgS; omega) (by unfold RanS; omega)]
    go_enter Tryd.func8, Tryd.ntmps8
    go_wp2_with fail
    go_ret
    exact ⟨rfl, hB⟩
  have g11 : decide (N * hi < T) = false := decide_eq_false a11
  rw [vS_ok (by unfold LimS; omega) (by unfold ArgS; omega) (by unfold RanS; omega)]
  go_enter Tryd.func8, Tryd.ntmps8
  go_wp2_with fail
  go_ret
  exact ⟨rfl, hB⟩
end Go.Proofs.YtnionejefpnfoaaDoor
/- What the functions of package split and of the reference answer of any split that is not valid, and of places that do not exist; the reference's answers of valid ones. Conditions: the ranges that the theorems state. -/
namespace Go.Proofs.YtnionejefpnfoaaDoor
open Go.RowKit Go.Shelf Go

section
variable {s : ByteArray} {A : Option Addr} {n c : Nat} {l : List Int} {w : World} {T N lo hi : Int}
set_option maxRecDepth 100000 in
set_option maxHeartbeats 4000000 in
theorem pall_err (h : SNum s n T N lo hi) (e : Int) (hv : vS s.size n T N lo hi = e) (he : e = 1 ∨ e = 4 ∨ e = 5) :
    Calls Tryd.prog 9 #[spV s A n c T N lo hi] w fun E W' => E = .returned (.tuple #[.slice none 0 0, .int .i64 e]) ∧ Below w.heap.size w W' := by
  have HV := Lib.hid (fun W => validS_any h A c W)
  rw [hv] at HV
  have k0 := Blk.new w 28 (spC s A n c T N lo hi)
  have b0 := (Below.refl w.heap.size w).alloc (Nat.le_refl _) (.cells (spC s A n c T N lo hi) 28)
  clear h hv
  rcases he with rfl | rfl | rfl
  all_goals
    go_enter Tryd.func9, Tryd.ntmps9
    go_wp2_with fail
    refine (HV.out _).mono ?_
    rintro E w1 ⟨rfl, b1⟩
    have B1 := below_next b0 b1
    go_wp2_with fail
    go_ret2
    exact ⟨rfl, B1⟩
set_option maxRecDepth 100000 in
set_option maxHeartbeats 4000000 in
theorem ppart_err (h : SNum s n T N lo hi) (k : Int) (e : Int) (hv : vS s.size n T N lo hi = e) (he : e = 1 ∨ e = 4 ∨ e = 5) :
    Calls Tryd.prog 13 #[spV s A n c T N lo hi, .int .i64 k] w fun E W' => E = .returned (.tuple #[.int .i64 0, .int .i64 e]) ∧ Below w.heap.size w W' := by
  have HV := Lib.hid (fun W => validS_any h A c W)
  rw [hv] at HV
  have k0 := Blk.new w 28 (spC s A n c T N lo hi)
  have b0 := (Below.refl w.heap.size w).alloc (Nat.le_refl _) (.cells (spC s A n c T N lo hi) 28)
  clear h hv
  rcases he with rfl | rfl | rfl
  all_goals
    go_enter Tryd.func13, Tryd.ntmps13
    go_wp2_with fail
    refine (HV.out _).mono ?_
    rintro E w1 ⟨rfl, b1⟩
    have B1 := below_next b0 b1
    go_wp2_with fail
    go_ret2
    exact ⟨rfl, B1⟩
set_option maxRecDepth 100000 in
set_option maxHeartbeats 4000000 in
theorem pbefore_err (h : SNum s n T N lo hi) (k : Int) (e : Int) (hv : vS s.size n T N lo hi = e) (he : e = 1 ∨ e = 4 ∨ e = 5) :
    Calls Tryd.prog 15 #[spV s A n c T N lo hi, .int .i64 k] w fun E W' => E = .returned (.tuple #[.int .i64 0, .int .i64 e]) ∧ Below w.heap.size w W' := by
  have HV := Lib.hid (fun W => validS_any h A c W)
  rw [hv] at HV
  have k0 := Blk.new w 28 (spC s A n c T N lo hi)
  have b0 := (Below.refl w.heap.size w).alloc (Nat.le_refl _) (.cells (spC s A n c T N lo hi) 28)
  clear h hv
  rcases he with rfl | rfl | rfl
  all_goals
    go_enter Tryd.func15, Tryd.ntmps15
    go_wp2_with fail
    refine (HV.out _).mono ?_
    rintro E w1 ⟨rfl, b1⟩
    have B1 := below_next b0 b1
    go_wp2_with fail
    go_ret2
    exact ⟨rfl, B1⟩
set_option maxRecDepth 100000 in
set_option maxHeartbeats 4000000 in
theorem pfind_err (h : SNum s n T N lo hi) (k : Int) (e : Int) (hv : vS s.size n T N lo hi = e) (he : e = 1 ∨ e = 4 ∨ e = 5) :
    Calls Tryd.prog 17 #[spV s A n c T N lo hi, .int .i64 k] w fun E W' => E = .returned (.tuple #[.int .i64 0, .int .i64 0, .int .i64 e]) ∧ Below w.heap.size w W' := by
  have HV := Lib.hid (fun W => validS_any h A c W)
  rw [hv] at HV
  have z1 : (w.alloc (.cells (spC s A n c T N lo hi) 28)).heap.size = w.heap.size + 1 := by simp
  have b0 : Below w.heap.size w ((w.alloc (.cells (spC s A n c T N lo hi) 28)).alloc (.cells #[.int .i64 k] 3)) := ((Below.refl w.heap.size w).alloc (Nat.le_refl _) _).alloc (by rw [z1]; omega) _
  clear h hv
  rcases he with rfl | rfl | rfl
  all_goals
    go_enter Tryd.func17, Tryd.ntmps17
    go_wp2_with fail
    refine (HV.out _).mono ?_
    rintro E w1 ⟨rfl, b1⟩
    have B1 := below_next b0 b1
    go_wp2_with fail
    go_ret3
    exact ⟨rfl, B1⟩
set_option maxRecDepth 100000 in
set_option maxHeartbeats 4000000 in
theorem rall_err (h : SNum s n T N lo hi) (e : Int) (hv : vS s.size n T N lo hi = e) (he : e = 1 ∨ e = 4 ∨ e = 5) :
    Calls Tryd.prog 10 #[spV s A n c T N lo hi] w fun E W' => E = .returned (.tuple #[.slice none 0 0, .int .i64 e]) ∧ Below w.heap.size w W' := by
  have HV := Lib.hid (fun W => rValidS_any h A c W)
  rw [hv] at HV
  have k0 := Blk.new w 24 (spC s A n c T N lo hi)
  have b0 := (Below.refl w.heap.size w).alloc (Nat.le_refl _) (.cells (spC s A n c T N lo hi) 24)
  clear h hv
  rcases he with rfl | rfl | rfl
  all_goals
    go_enter Tryd.func10, Tryd.ntmps10
    go_wp2_with fail
    refine (HV.out _).mono ?_
    rintro E w1 ⟨rfl, b1⟩
    have B1 := below_next b0 b1
    go_wp2_with fail
    go_ret2
    exact ⟨rfl, B1⟩
set_option maxRecDepth 100000 in
set_option maxHeartbeats 4000000 in
theorem rpart_err (h : SNum s n T N lo hi) (k : Int) (e : Int) (hv : vS s.size n T N lo hi = e) (he : e = 1 ∨ e = 4 ∨ e = 5) :
    Calls Tryd.prog 14 #[spV s A n c T N lo hi, .int .i64 k] w fun E W' => E = .returned (.tuple #[.int .i64 0, .int .i64 e]) ∧ Below w.heap.size w W' := by
  have HV := Lib.hid (fun W => rValidS_any h A c W)
  rw [hv] at HV
  have k0 := Blk.new w 24 (spC s A n c T N lo hi)
  have b0 := (Below.refl w.heap.size w).alloc (Nat.le_refl _) (.cells (spC s A n c T N lo hi) 24)
  clear h hv
  rcases he with rfl | rfl | rfl
  all_goals
    go_enter Tryd.func14, Tryd.ntmps14
    go_wp2_with fail
    refine (HV.out _).mono ?_
    rintro E w1 ⟨rfl, b1⟩
    have B1 := below_next b0 b1
    go_wp2_with fail
    go_ret2
    exact ⟨rfl, B1⟩
set_option maxRecDepth 100000 in
set_option maxHeartbeats 4000000 in
theorem rbefore_err (h : SNum s n T N lo hi) (k : Int) (e : Int) (hv : vS s.size n T N lo hi = e) (he : e = 1 ∨ e = 4 ∨ e = 5) :
    Calls Tryd.prog 16 #[spV s A n c T N lo hi, .int .i64 k] w fun E W' => E = .returned (.tuple #[.int .i64 0, .int .i64 e]) ∧ Below w.heap.size w W' := by
  have HV := Lib.hid (fun W => rValidS_any h A c W)
  rw [hv] at HV
  have k0 := Blk.new w 24 (spC s A n c T N lo hi)
  have b0 := (Below.refl w.heap.size w).alloc (Nat.le_refl _) (.cells (spC s A n c T N lo hi) 24)
  clear h hv
  rcases he with rfl | rfl | rfl
  all_goals
    go_enter Tryd.func16, Tryd.ntmps16
    go_wp2_with fail
    refine (HV.out _).mono ?_
    rintro E w1 ⟨rfl, b1⟩
    have B1 := below_next b0 b1
    go_wp2_with fail
    go_ret2
    exact ⟨rfl, B1⟩
set_option maxRecDepth 100000 in
set_option maxHeartbeats 4000000 in
theorem rfind_err (h : SNum s n T N lo hi) (k : Int) (e : Int) (hv : vS s.size n T N lo hi = e) (he : e = 1 ∨ e = 4 ∨ e = 5) :
    Calls Tryd.prog 18 #[spV s A n c T N lo hi, .int .i64 k] w fun E W' => E = .returned (.tuple #[.int .i64 0, .int .i64 0, .int .i64 e]) ∧ Below w.heap.size w W' := by
  have HV := Lib.hid (fun W => rValidS_any h A c W)
  rw [hv] at HV
  have k0 := Blk.new w 24 (spC s A n c T N lo hi)
  have b0 := (Below.refl w.heap.size w).alloc (Nat.le_refl _) (.cells (spC s A n c T N lo hi) 24)
  clear h hv
  rcases he with rfl | rfl | rfl
  all_goals
    go_enter Tryd.func18, Tryd.ntmps18
    go_wp2_with fail
    refine (HV.out _).mono ?_
    rintro E w1 ⟨rfl, b1⟩
    have B1 := below_next b0 b1
    go_wp2_with fail
    go_ret3
    exact ⟨rfl, B1⟩
set_option maxRecDepth 100000 in
set_option maxHeartbeats 4000000 in
theorem ppart_none0 (h : SNum s n T N lo hi) (k : Int) (hv : vS s.size n T N lo hi = 0) (g0 : k < 0) :
    Calls Tryd.prog 13 #[spV s A n c T N lo hi, .int .i64 k] w fun E W' => E = .returned (.tuple #[.int .i64 0, .int .i64 6]) ∧ Below w.heap.size w W' := by
  have HV := Lib.hid (fun W => validS_any h A c W)
  rw [hv] at HV
  have k0 := Blk.new w 28 (spC s A n c T N lo hi)
  have b0 := (Below.refl w.heap.size w).alloc (Nat.le_refl _) (.cells (spC s A n c T N lo hi) 28)
  clear h hv
  go_enter Tryd.func13, Tryd.ntmps13
  go_wp2_with fail
  refine (HV.out _).mono ?_
  rintro E w1 ⟨rfl, b1⟩
  have k1 := k0.thru b1
  have B1 := below_next b0 b1
  have d0 : w1.cell? ⟨w.heap.size, 0, none⟩ = some (.string s) := k1.at_ rfl
  have d1 : w1.cell? ⟨w.heap.size, 1, none⟩ = some (.slice A n c) := k1.at_ rfl
  have d2 : w1.cell? ⟨w.heap.size, 2, none⟩ = some (.int .i64 T) := k1.at_ rfl
  have d3 : w1.cell? ⟨w.heap.size, 3, none⟩ = some (.int .i64 N) := k1.at_ rfl
  have d4 : w1.cell? ⟨w.heap.size, 4, none⟩ = some (.int .i64 lo) := k1.at_ rfl
  have d5 : w1.cell? ⟨w.heap.size, 5, none⟩ = some (.int .i64 hi) := k1.at_ rfl
  go_wp2_with fail
  go_ret2
  exact ⟨rfl, B1⟩
set_option maxRecDepth 100000 in
set_option maxHeartbeats 4000000 in
theorem ppart_none1 (h : SNum s n T N lo hi) (k : Int) (hv : vS s.size n T N lo hi = 0) (g0 : ¬ k < 0) (g1 : N ≤ k) :
    Calls Tryd.prog 13 #[spV s A n c T N lo hi, .int .i64 k] w fun E W' => E = .returned (.tuple #[.int .i64 0, .int .i64 6]) ∧ Below w.heap.size w W' := by
  have HV := Lib.hid (fun W => validS_any h A c W)
  rw [hv] at HV
  have k0 := Blk.new w 28 (spC s A n c T N lo hi)
  have b0 := (Below.refl w.heap.size w).alloc (Nat.le_refl _) (.cells (spC s A n c T N lo hi) 28)
  clear h hv
  go_enter Tryd.func13, Tryd.ntmps13
  go_wp2_with fail
  refine (HV.out _).mono ?_
  rintro E w1 ⟨rfl, b1⟩
  have k1 := k0.thru b1
  have B1 := below_next b0 b1
  have d0 : w1.cell? ⟨w.heap.size, 0, none⟩ = some (.string s) := k1.at_ rfl
  have d1 : w1.cell? ⟨w.heap.size, 1, none⟩ = some (.slice A n c) := k1.at_ rfl
  have d2 : w1.cell? ⟨w.heap.size, 2, none⟩ = some (.int .i64 T) := k1.at_ rfl
  have d3 : w1.cell? ⟨w.heap.size, 3, none⟩ = some (.int .i64 N) := k1.at_ rfl
  have d4 : w1.cell? ⟨w.heap.size, 4, none⟩ = some (.int .i64 lo) := k1.at_ rfl
  have d5 : w1.cell? ⟨w.heap.size, 5, none⟩ = some (.int .i64 hi) := k1.at_ rfl
  go_wp2_with fail
  go_ret2
  exact ⟨rfl, B1⟩
set_option maxRecDepth 100000 in
set_option maxHeartbeats 4000000 in
theorem pbefore_none0 (h : SNum s n T N lo hi) (k : Int) (hv : vS s.size n T N lo hi = 0) (g0 : k < 0) :
    Calls Tryd.prog 15 #[spV s A n c T N lo hi, .int .i64 k] w fun E W' => E = .returned (.tuple #[.int .i64 0, .int .i64 6]) ∧ Below w.heap.size w W' := by
  have HV := Lib.hid (fun W => validS_any h A c W)
  rw [hv] at HV
  have k0 := Blk.new w 28 (spC s A n c T N lo hi)
  have b0 := (Below.refl w.heap.size w).alloc (Nat.le_refl _) (.cells (spC s A n c T N lo hi) 28)
  clear h hv
  go_enter Tryd.func15, Tryd.ntmps15
  go_wp2_with fail
  refine (HV.out _).mono ?_
  rintro E w1 ⟨rfl, b1⟩
  have k1 := k0.thru b1
  have B1 := below_next b0 b1
  have d0 : w1.cell? ⟨w.heap.size, 0, none⟩ = some (.string s) := k1.at_ rfl
  have d1 : w1.cell? ⟨w.heap.size, 1, none⟩ = some (.slice A n c) := k1.at_ rfl
  have d2 : w1.cell? ⟨w.heap.size, 2, none⟩ = some (.int .i64 T) := k1.at_ rfl
  have d3 : w1.cell? ⟨w.heap.size, 3, none⟩ = some (.int .i64 N) := k1.at_ rfl
  have d4 : w1.cell? ⟨w.heap.size, 4, none⟩ = some (.int .i64 lo) := k1.at_ rfl
  have d5 : w1.cell? ⟨w.heap.size, 5, none⟩ = some (.int .i64 hi) := k1.at_ rfl
  go_wp2_with fail
  go_ret2
  exact ⟨rfl, B1⟩
set_option maxRecDepth 100000 in
set_option maxHeartbeats 4000000 in
theorem pbefore_none1 (h : SNum s n T N lo hi) (k : Int) (hv : vS s.size n T N lo hi = 0) (g0 : ¬ k < 0) (g1 : N < k) :
    Calls Tryd.prog 15 #[spV s A n c T N lo hi, .int .i64 k] w fun E W' => E = .returned (.tuple #[.int .i64 0, .int .i64 6]) ∧ Below w.heap.size w W' := by
  have HV := Lib.hid (fun W => validS_any h A c W)
  rw [hv] at HV
  have k0 := Blk.new w 28 (spC s A n c T N lo hi)
  have b0 := (Below.refl w.heap.size w).alloc (Nat.le_refl _) (.cells (spC s A n c T N lo hi) 28)
  clear h hv
  go_enter Tryd.func15, Tryd.ntmps15
  go_wp2_with fail
  refine (HV.out _).mono ?_
  rintro E w1 ⟨rfl, b1⟩
  have k1 := k0.thru b1
  have B1 := below_next b0 b1
  have d0 : w1.cell? ⟨w.heap.size, 0, none⟩ = some (.string s) := k1.at_ rfl
  have d1 : w1.cell? ⟨w.heap.size, 1, none⟩ = some (.slice A n c) := k1.at_ rfl
  have d2 : w1.cell? ⟨w.heap.size, 2, none⟩ = some (.int .i64 T) := k1.at_ rfl
  have d3 : w1.cell? ⟨w.heap.size, 3, none⟩ = some (.int .i64 N) := k1.at_ rfl
  have d4 : w1.cell? ⟨w.heap.size, 4, none⟩ = some (.int .i64 lo) := k1.at_ rfl
  have d5 : w1.cell? ⟨w.heap.size, 5, none⟩ = some (.int .i64 hi) := k1.at_ rfl
  go_wp2_with fail
  go_ret2
  exact ⟨rfl, B1⟩
set_option maxRecDepth 100000 in
set_option maxHeartbeats 4000000 in
theorem pfind_none0 (h : SNum s n T N lo hi) (k : Int) (hv : vS s.size n T N lo hi = 0) (g0 : lo < 0) :
    Calls Tryd.prog 17 #[spV s A n c T N lo hi, .int .i64 k] w fun E W' => E = .returned (.tuple #[.int .i64 0, .int .i64 0, .int .i64 1]) ∧ Below w.heap.size w W' := by
  have HV := Lib.hid (fun W => validS_any h A c W)
  rw [hv] at HV
  have z1 : (w.alloc (.cells (spC s A n c T N lo hi) 28)).heap.size = w.heap.size + 1 := by simp
  have k0 : Blk ((w.alloc (.cells (spC s A n c T N lo hi) 28)).alloc (.cells #[.int .i64 k] 3)) w.heap.size 28 (spC s A n c T N lo hi) := (Blk.new w 28 _).alloc _
  have k9 : Blk ((w.alloc (.cells (spC s A n c T N lo hi) 28)).alloc (.cells #[.int .i64 k] 3)) (w.heap.size + 1) 3 #[.int .i64 k] := Blk.new' z1.symm
  have b0 : Below w.heap.size w ((w.alloc (.cells (spC s A n c T N lo hi) 28)).alloc (.cells #[.int .i64 k] 3)) := ((Below.refl w.heap.size w).alloc (Nat.le_refl _) _).alloc (by rw [z1]; omega) _
  clear h hv
  go_enter Tryd.func17, Tryd.ntmps17
  go_wp2_with fail
  refine (HV.out _).mono ?_
  rintro E w1 ⟨rfl, b1⟩
  have k1 := k0.thru b1
  have B1 := below_next b0 b1
  have k8 := k9.thru b1
  have d6 : w1.cell? ⟨w.heap.size + 1, 0, none⟩ = some (.int .i64 k) := k8.at_ rfl
  have d0 : w1.cell? ⟨w.heap.size, 0, none⟩ = some (.string s) := k1.at_ rfl
  have d1 : w1.cell? ⟨w.heap.size, 1, none⟩ = some (.slice A n c) := k1.at_ rfl
  have d2 : w1.cell? ⟨w.heap.size, 2, none⟩ = some (.int .i64 T) := k1.at_ rfl
  have d3 : w1.cell? ⟨w.heap.size, 3, none⟩ = some (.int .i64 N) := k1.at_ rfl
  have d4 : w1.cell? ⟨w.heap.size, 4, none⟩ = some (.int .i64 lo) := k1.at_ rfl
  have d5 : w1.cell? ⟨w.heap.size, 5, none⟩ = some (.int .i64 hi) := k1.at_ rfl
  go_wp2_with fail
  go_ret3
  exact ⟨rfl, B1⟩
set_option maxRecDepth 100000 in
set_option maxHeartbeats 4000000 in
theorem pfind_none1 (h : SNum s n T N lo hi) (k : Int) (hv : vS s.size n T N lo hi = 0) (g0 : ¬ lo < 0) (g1 : k < 0) :
    Calls Tryd.prog 17 #[spV s A n c T N lo hi, .int .i64 k] w fun E W' => E = .returned (.tuple #[.int .i64 0, .int .i64 0, .int .i64 6]) ∧ Below w.heap.size w W' := by
  have HV := Lib.hid (fun W => validS_any h A c W)
  rw [hv] at HV
  have z1 : (w.alloc (.cells (spC s A n c T N lo hi) 28)).heap.size = w.heap.size + 1 := by simp
  have k0 : Blk ((w.alloc (.cells (spC s A n c T N lo hi) 28)).alloc (.cells #[.int .i64 k] 3)) w.heap.size 28 (spC s A n c T N lo hi) := (Blk.new w 28 _).alloc _
  have k9 : Blk ((w.alloc (.cells (spC s A n c T N lo hi) 28)).alloc (.cells #[.int .i64 k] 3)) (w.heap.size + 1) 3 #[.int .i64 k] := Blk.new' z1.symm
  have b0 : Below w.heap.size w ((w.alloc (.cells (spC s A n c T N lo hi) 28)).alloc (.cells #[.int .i64 k] 3)) := ((Below.refl w.heap.size w).alloc (Nat.le_refl _) _).alloc (by rw [z1]; omega) _
  clear h hv
  go_enter Tryd.func17, Tryd.ntmps17
  go_wp2_with fail
  refine (HV.out _).mono ?_
  rintro E w1 ⟨rfl, b1⟩
  have k1 := k0.thru b1
  have B1 := below_next b0 b1
  have k8 := k9.thru b1
  have d6 : w1.cell? ⟨w.heap.size + 1, 0, none⟩ = some (.int .i64 k) := k8.at_ rfl
  have d0 : w1.cell? ⟨w.heap.size, 0, none⟩ = some (.string s) := k1.at_ rfl
  have d1 : w1.cell? ⟨w.heap.size, 1, none⟩ = some (.slice A n c) := k1.at_ rfl
  have d2 : w1.cell? ⟨w.heap.size, 2, none⟩ = some (.int .i64 T) := k1.at_ rfl
  have d3 : w1.cell? ⟨w.heap.size, 3, none⟩ = some (.int .i64 N) := k1.at_ rfl
  have d4 : w1.cell? ⟨w.heap.size, 4, none⟩ = some (.int .i64 lo) := k1.at_ rfl
  have d5 : w1.cell? ⟨w.heap.size, 5, none⟩ = some (.int .i64 hi) := k1.at_ rfl
  go_wp2_with fail
  go_ret3
  exact ⟨rfl, B1⟩
set_option maxRecDepth 100000 in
set_option maxHeartbeats 4000000 in
theorem pfind_none2 (h : SNum s n T N lo hi) (k : Int) (hv : vS s.size n T N lo hi = 0) (g0 : ¬ lo < 0) (g1 : ¬ k < 0) (g2 : T ≤ k) :
    Calls Tryd.prog 17 #[spV s A n c T N lo hi, .int .i64 k] w fun E W' => E = .returned (.tuple #[.int .i64 0, .int .i64 0, .int .i64 6]) ∧ Below w.heap.size w W' := by
  have HV := Lib.hid (fun W => validS_any h A c W)
  rw [hv] at HV
  have z1 : (w.alloc (.cells (spC s A n c T N lo hi) 28)).heap.size = w.heap.size + 1 := by simp
  have k0 : Blk ((w.alloc (.cells (spC s A n c T N lo hi) 28)).alloc (.cells #[.int .i64 k] 3)) w.heap.size 28 (spC s A n c T N lo hi) := (Blk.new w 28 _).alloc _
  have k9 : Blk ((w.alloc (.cells (spC s A n c T N lo hi) 28)).alloc (.cells #[.int .i64 k] 3)) (w.heap.size + 1) 3 #[.int .i64 k] := Blk.new' z1.symm
  have b0 : Below w.heap.size w ((w.alloc (.cells (spC s A n c T N lo hi) 28)).alloc (.cells #[.int .i64 k] 3)) := ((Below.refl w.heap.size w).alloc (Nat.le_refl _) _).alloc (by rw [z1]; omega) _
  clear h hv
  go_enter Tryd.func17, Tryd.ntmps17
  go_wp2_with fail
  refine (HV.out _).mono ?_
  rintro E w1 ⟨rfl, b1⟩
  have k1 := k0.thru b1
  have B1 := below_next b0 b1
  have k8 := k9.thru b1
  have d6 : w1.cell? ⟨w.heap.size + 1, 0, none⟩ = some (.int .i64 k) := k8.at_ rfl
  have d0 : w1.cell? ⟨w.heap.size, 0, none⟩ = some (.string s) := k1.at_ rfl
  have d1 : w1.cell? ⟨w.heap.size, 1, none⟩ = some (.slice A n c) := k1.at_ rfl
  have d2 : w1.cell? ⟨w.heap.size, 2, none⟩ = some (.int .i64 T) := k1.at_ rfl
  have d3 : w1.cell? ⟨w.heap.size, 3, none⟩ = some (.int .i64 N) := k1.at_ rfl
  have d4 : w1.cell? ⟨w.heap.size, 4, none⟩ = some (.int .i64 lo) := k1.at_ rfl
  have d5 : w1.cell? ⟨w.heap.size, 5, none⟩ = some (.int .i64 hi) := k1.at_ rfl
  go_wp2_with fail
  go_ret3
  exact ⟨rfl, B1⟩
set_option maxRecDepth 100000 in
set_option maxHeartbeats 4000000 in
theorem rpart_none0 (h : SNum s n T N lo hi) (k : Int) (hv : vS s.size n T N lo hi = 0) (g0 : k < 0) :
    Calls Tryd.prog 14 #[spV s A n c T N lo hi, .int .i64 k] w fun E W' => E = .returned (.tuple #[.int .i64 0, .int .i64 6]) ∧ Below w.heap.size w W' := by
  have HV := Lib.hid (fun W => rValidS_any h A c W)
  rw [hv] at HV
  have k0 := Blk.new w 24 (spC s A n c T N lo hi)
  have b0 := (Below.refl w.heap.size w).alloc (Nat.le_refl _) (.cells (spC s A n c T N lo hi) 24)
  clear h hv
  go_enter Tryd.func14, Tryd.ntmps14
  go_wp2_with fail
  refine (HV.out _).mono ?_
  rintro E w1 ⟨rfl, b1⟩
  have k1 := k0.thru b1
  have B1 := below_next b0 b1
  have d0 : w1.cell? ⟨w.heap.size, 0, none⟩ = some (.string s) := k1.at_ rfl
  have d1 : w1.cell? ⟨w.heap.size, 1, none⟩ = some (.slice A n c) := k1.at_ rfl
  have d2 : w1.cell? ⟨w.heap.size, 2, none⟩ = some (.int .i64 T) := k1.at_ rfl
  have d3 : w1.cell? ⟨w.heap.size, 3, none⟩ = some (.int .i64 N) := k1.at_ rfl
  have d4 : w1.cell? ⟨w.heap.size, 4, none⟩ = some (.int .i64 lo) := k1.at_ rfl
  have d5 : w1.cell? ⟨w.heap.size, 5, none⟩ = some (.int .i64 hi) := k1.at_ rfl
  go_wp2_with fail
  go_ret2
  exact ⟨rfl, B1⟩
set_option maxRecDepth 100000 in
set_option maxHeartbeats 4000000 in
theorem rpart_none1 (h : SNum s n T N lo hi) (k : Int) (hv : vS s.size n T N lo hi = 0) (g0 : ¬ k < 0) (g1 : N ≤ k) :
    Calls Tryd.prog 14 #[spV s A n c T N lo hi, .int .i64 k] w fun E W' => E = .returned (.tuple #[.int .i64 0, .int .i64 6]) ∧ Below w.heap.size w W' := by
  have HV := Lib.hid (fun W => rValidS_any h A c W)
  rw [hv] at HV
  have k0 := Blk.new w 24 (spC s A n c T N lo hi)
  have b0 := (Below.refl w.heap.size w).alloc (Nat.le_refl _) (.cells (spC s A n c T N lo hi) 24)
  clear h hv
  go_enter Tryd.func14, Tryd.ntmps14
  go_wp2_with fail
  refine (HV.out _).mono ?_
  rintro E w1 ⟨rfl, b1⟩
  have k1 := k0.thru b1
  have B1 := below_next b0 b1
  have d0 : w1.cell? ⟨w.heap.size, 0, none⟩ = some (.string s) := k1.at_ rfl
  have d1 : w1.cell? ⟨w.heap.size, 1, none⟩ = some (.slice A n c) := k1.at_ rfl
  have d2 : w1.cell? ⟨w.heap.size, 2, none⟩ = some (.int .i64 T) := k1.at_ rfl
  have d3 : w1.cell? ⟨w.heap.size, 3, none⟩ = some (.int .i64 N) := k1.at_ rfl
  have d4 : w1.cell? ⟨w.heap.size, 4, none⟩ = some (.int .i64 lo) := k1.at_ rfl
  have d5 : w1.cell? ⟨w.heap.size, 5, none⟩ = some (.int .i64 hi) := k1.at_ rfl
  go_wp2_with fail
  go_ret2
  exact ⟨rfl, B1⟩
set_option maxRecDepth 100000 in
set_option maxHeartbeats 4000000 in
theorem rbefore_none0 (h : SNum s n T N lo hi) (k : Int) (hv : vS s.size n T N lo hi = 0) (g0 : k < 0) :
    Calls Tryd.prog 16 #[spV s A n c T N lo hi, .int .i64 k] w fun E W' => E = .returned (.tuple #[.int .i64 0, .int .i64 6]) ∧ Below w.heap.size w W' := by
  have HV := Lib.hid (fun W => rValidS_any h A c W)
  rw [hv] at HV
  have k0 := Blk.new w 24 (spC s A n c T N lo hi)
  have b0 := (Below.refl w.heap.size w).alloc (Nat.le_refl _) (.cells (spC s A n c T N lo hi) 24)
  clear h hv
  go_enter Tryd.func16, Tryd.ntmps16
  go_wp2_with fail
  refine (HV.out _).mono ?_
  rintro E w1 ⟨rfl, b1⟩
  have k1 := k0.thru b1
  have B1 := below_next b0 b1
  have d0 : w1.cell? ⟨w.heap.size, 0, none⟩ = some (.string s) := k1.at_ rfl
  have d1 : w1.cell? ⟨w.heap.size, 1, none⟩ = some (.slice A n c) := k1.at_ rfl
  have d2 : w1.cell? ⟨w.heap.size, 2, none⟩ = some (.int .i64 T) := k1.at_ rfl
  have d3 : w1.cell? ⟨w.heap.size, 3, none⟩ = some (.int .i64 N) := k1.at_ rfl
  have d4 : w1.cell? ⟨w.heap.size, 4, none⟩ = some (.int .i64 lo) := k1.at_ rfl
  have d5 : w1.cell? ⟨w.heap.size, 5, none⟩ = some (.int .i64 hi) := k1.at_ rfl
  go_wp2_with fail
  go_ret2
  exact ⟨rfl, B1⟩
set_option maxRecDepth 100000 in
set_option maxHeartbeats 4000000 in
theorem rbefore_none1 (h : SNum s n T N lo hi) (k : Int) (hv : vS s.size n T N lo hi = 0) (g0 : ¬ k < 0) (g1 : N < k) :
    Calls Tryd.prog 16 #[spV s A n c T N lo hi, .int .i64 k] w fun E W' => E = .returned (.tuple #[.int .i64 0, .int .i64 6]) ∧ Below w.heap.size w W' := by
  have HV := Lib.hid (fun W => rValidS_any h A c W)
  rw [hv] at HV
  have k0 := Blk.new w 24 (spC s A n c T N lo hi)
  have b0 := (Below.refl w.heap.size w).alloc (Nat.le_refl _) (.cells (spC s A n c T N lo hi) 24)
  clear h hv
  go_enter Tryd.func16, Tryd.ntmps16
  go_wp2_with fail
  refine (HV.out _).mono ?_
  rintro E w1 ⟨rfl, b1⟩
  have k1 := k0.thru b1
  have B1 := below_next b0 b1
  have d0 : w1.cell? ⟨w.heap.size, 0, none⟩ = some (.string s) := k1.at_ rfl
  have d1 : w1.cell? ⟨w.heap.size, 1, none⟩ = some (.slice A n c) := k1.at_ rfl
  have d2 : w1.cell? ⟨w.heap.size, 2, none⟩ = some (.int .i64 T) := k1.at_ rfl
  have d3 : w1.cell? ⟨w.heap.size, 3, none⟩ = some (.int .i64 N) := k1.at_ rfl
  have d4 : w1.cell? ⟨w.heap.size, 4, none⟩ = some (.int .i64 lo) := k1.at_ rfl
  have d5 : w1.cell? ⟨w.heap.size, 5, none⟩ = some (.int .i64 hi) := k1.at_ rfl
  go_wp2_with fail
  go_ret2
  exact ⟨rfl, B1⟩
set_option maxRecDepth 100000 in
set_option maxHeartbeats 4000000 in
theorem rfind_none0 (h : SNum s n T N lo hi) (k : Int) (hv : vS s.size n T N lo hi = 0) (g0 : lo < 0) :
    Calls Tryd.prog 18 #[spV s A n c T N lo hi, .int .i64 k] w fun E W' => E = .returned (.tuple #[.int .i64 0, .int .i64 0, .int .i64 1]) ∧ Below w.heap.size w W' := by
  have HV := Lib.hid (fun W => rValidS_any h A c W)
  rw [hv] at HV
  have k0 := Blk.new w 24 (spC s A n c T N lo hi)
  have b0 := (Below.refl w.heap.size w).alloc (Nat.le_refl _) (.cells (spC s A n c T N lo hi) 24)
  clear h hv
  go_enter Tryd.func18, Tryd.ntmps18
  go_wp2_with fail
  refine (HV.out _).mono ?_
  rintro E w1 ⟨rfl, b1⟩
  have k1 := k0.thru b1
  have B1 := below_next b0 b1
  have d0 : w1.cell? ⟨w.heap.size, 0, none⟩ = some (.string s) := k1.at_ rfl
  have d1 : w1.cell? ⟨w.heap.size, 1, none⟩ = some (.slice A n c) := k1.at_ rfl
  have d2 : w1.cell? ⟨w.heap.size, 2, none⟩ = some (.int .i64 T) := k1.at_ rfl
  have d3 : w1.cell? ⟨w.heap.size, 3, none⟩ = some (.int .i64 N) := k1.at_ rfl
  have d4 : w1.cell? ⟨w.heap.size, 4, none⟩ = some (.int .i64 lo) := k1.at_ rfl
  have d5 : w1.cell? ⟨w.heap.size, 5, none⟩ = some (.int .i64 hi) := k1.at_ rfl
  go_wp2_with fail
  go_ret3
  exact ⟨rfl, B1⟩
set_option maxRecDepth 100000 in
set_option maxHeartbeats 4000000 in
theorem rfind_none1 (h : SNum s n T N lo hi) (k : Int) (hv : vS s.size n T N lo hi = 0) (g0 : ¬ lo < 0) (g1 : k < 0) :
    Calls Tryd.prog 18 #[spV s A n c T N lo hi, .int .i64 k] w fun E W' => E = .returned (.tuple #[.int .i64 0, .int .i64 0, .int .i64 6]) ∧ Below w.heap.size w W' := by
  have HV := Lib.hid (fun W => rValidS_any h A c W)
  rw [hv] at HV
  have k0 := Blk.new w 24 (spC s A n c T N lo hi)
  have b0 := (Below.refl w.heap.size w).alloc (Nat.le_refl _) (.cells (spC s A n c T N lo hi) 24)
  clear h hv
  go_enter Tryd.func18, Tryd.ntmps18
  go_wp2_with fail
  refine (HV.out _).mono ?_
  rintro E w1 ⟨rfl, b1⟩
  have k1 := k0.thru b1
  have B1 := below_next b0 b1
  have d0 : w1.cell? ⟨w.heap.size, 0, none⟩ = some (.string s) := k1.at_ rfl
  have d1 : w1.cell? ⟨w.heap.size, 1, none⟩ = some (.slice A n c) := k1.at_ rfl
  have d2 : w1.cell? ⟨w.heap.size, 2, none⟩ = some (.int .i64 T) := k1.at_ rfl
  have d3 : w1.cell? ⟨w.heap.size, 3, none⟩ = some (.int .i64 N) := k1.at_ rfl
  have d4 : w1.cell? ⟨w.heap.size, 4, none⟩ = some (.int .i64 lo) := k1.at_ rfl
  have d5 : w1.cell? ⟨w.heap.size, 5, none⟩ = some (.int .i64 hi) := k1.at_ rfl
  go_wp2_with fail
  go_ret3
  exact ⟨rfl, B1⟩
set_option maxRecDepth 100000 in
set_option maxHeartbeats 4000000 in
theorem rfind_none2 (h : SNum s n T N lo hi) (k : Int) (hv : vS s.size n T N lo hi = 0) (g0 : ¬ lo < 0) (g1 : ¬ k < 0) (g2 : T ≤ k) :
    Calls Tryd.prog 18 #[spV s A n c T N lo hi, .int .i64 k] w fun E W' => E = .returned (.tuple #[.int .i64 0, .int .i64 0, .int .i64 6]) ∧ Below w.heap.size w W' := by
  have HV := Lib.hid (fun W => rValidS_any h A c W)
  rw [hv] at HV
  have k0 := Blk.new w 24 (spC s A n c T N lo hi)
  have b0 := (Below.refl w.heap.size w).alloc (Nat.le_refl _) (.cells (spC s A n c T N lo hi) 24)
  clear h hv
  go_enter Tryd.func18, Tryd.ntmps18
  go_wp2_with fail
  refine (HV.out _).mono ?_
  rintro E w1 ⟨rfl, b1⟩
  have k1 := k0.thru b1
  have B1 := below_next b0 b1
  have d0 : w1.cell? ⟨w.heap.size, 0, none⟩ = some (.string s) := k1.at_ rfl
  have d1 : w1.cell? ⟨w.heap.size, 1, none⟩ = some (.slice A n c) := k1.at_ rfl
  have d2 : w1.cell? ⟨w.heap.size, 2, none⟩ = some (.int .i64 T) := k1.at_ rfl
  have d3 : w1.cell? ⟨w.heap.size, 3, none⟩ = some (.int .i64 N) := k1.at_ rfl
  have d4 : w1.cell? ⟨w.heap.size, 4, none⟩ = some (.int .i64 lo) := k1.at_ rfl
  have d5 : w1.cell? ⟨w.heap.size, 5, none⟩ = some (.int .i64 hi) := k1.at_ rfl
  go_wp2_with fail
  go_ret3
  exact ⟨rfl, B1⟩
end
section
variable {s : ByteArray} {A : Option Addr} {n c : Nat} {l : List Int} {w : World} {T lo hi : Int} {m : Nat} {D : Nat → Nat → Int → Int} {I : Nat → Nat → Int → Prop}
set_option maxRecDepth 100000 in
set_option maxHeartbeats 4000000 in
theorem rall_good (h : RN s A n l w) (hS : SNum s n T (m : Int) lo hi) (hv : vS s.size n T (m : Int) lo hi = 0) (H : RHalved s A n c l T (m : Int) lo hi D I) (hI : I 0 m T) :
    Calls Tryd.prog 10 #[spV s A n c T (m : Int) lo hi] w fun E W' => ∃ v, E = .returned (.tuple #[v, .int .i64 0]) ∧ W'.ownsRow w.heap.size 3 1 v m (ints (parts D 0 m T)) ∧ Below w.heap.size w W' := by
  have HV := Lib.hid (fun W => rValidS_any hS A c W)
  rw [hv] at HV
  have HP := Lib.hid (fun W (hW : Ok w W) => partsR_any H m 0 T hI W (h.below hW))
  have k0 := Blk.new w 24 (spC s A n c T (m : Int) lo hi)
  have b0 := (Below.refl w.heap.size w).alloc (Nat.le_refl _) (.cells (spC s A n c T (m : Int) lo hi) 24)
  clear H hI h hS hv
  go_enter Tryd.func10, Tryd.ntmps10
  go_wp2_with fail
  refine (HV.out _).mono ?_
  rintro E w1 ⟨rfl, b1⟩
  have k1 := k0.thru b1
  have B1 := below_next b0 b1
  have d0 : w1.cell? ⟨w.heap.size, 0, none⟩ = some (.string s) := k1.at_ rfl
  have d1 : w1.cell? ⟨w.heap.size, 1, none⟩ = some (.slice A n c) := k1.at_ rfl
  have d2 : w1.cell? ⟨w.heap.size, 2, none⟩ = some (.int .i64 T) := k1.at_ rfl
  have d3 : w1.cell? ⟨w.heap.size, 3, none⟩ = some (.int .i64 (m : Int)) := k1.at_ rfl
  have d4 : w1.cell? ⟨w.heap.size, 4, none⟩ = some (.int .i64 lo) := k1.at_ rfl
  have d5 : w1.cell? ⟨w.heap.size, 5, none⟩ = some (.int .i64 hi) := k1.at_ rfl
  go_wp2_with fail
  refine (HP.out _ B1).mono ?_
  rintro E w2 ⟨v, rfl, o2, b2⟩
  have B2 := below_next B1 b2
  have o2' := own_le o2 (Below.size B1)
  go_wp2_with fail
  go_ret2
  exact ⟨_, rfl, o2', B2⟩
set_option maxRecDepth 100000 in
set_option maxHeartbeats 4000000 in
theorem rpart_good (h : RN s A n l w) (hS : SNum s n T (m : Int) lo hi) (hv : vS s.size n T (m : Int) lo hi = 0) (H : RHalved s A n c l T (m : Int) lo hi D I) (hI : I 0 m T) (k : Int) (hk0 : 0 ≤ k) (hk1 : k < (m : Int)) :
    Calls Tryd.prog 14 #[spV s A n c T (m : Int) lo hi, .int .i64 k] w fun E W' => E = .returned (.tuple #[.int .i64 (desc D (pTo k) 0 m T 0).1.2.2, .int .i64 0]) ∧ Below w.heap.size w W' := by
  have HV := Lib.hid (fun W => rValidS_any hS A c W)
  rw [hv] at HV
  have g0 : ¬ k < 0 := by omega
  have g1 : ¬ (m : Int) ≤ k := by omega
  have HP := Lib.hid (fun W (hW : Ok w W) => one_any H k (by have := (H.few 0 m T hI).2.1; omega) m 0 T 0 hI (by omega) W (h.below hW))
  have hm := (H.few 0 m T hI).2.1
  generalize desc D (pTo k) 0 m T 0 = R at *
  have k0 := Blk.new w 24 (spC s A n c T (m : Int) lo hi)
  have b0 := (Below.refl w.heap.size w).alloc (Nat.le_refl _) (.cells (spC s A n c T (m : Int) lo hi) 24)
  clear H hI h hS hv
  go_enter Tryd.func14, Tryd.ntmps14
  go_wp2_with fail
  refine (HV.out _).mono ?_
  rintro E w1 ⟨rfl, b1⟩
  have k1 := k0.thru b1
  have B1 := below_next b0 b1
  have d0 : w1.cell? ⟨w.heap.size, 0, none⟩ = some (.string s) := k1.at_ rfl
  have d1 : w1.cell? ⟨w.heap.size, 1, none⟩ = some (.slice A n c) := k1.at_ rfl
  have d2 : w1.cell? ⟨w.heap.size, 2, none⟩ = some (.int .i64 T) := k1.at_ rfl
  have d3 : w1.cell? ⟨w.heap.size, 3, none⟩ = some (.int .i64 (m : Int)) := k1.at_ rfl
  have d4 : w1.cell? ⟨w.heap.size, 4, none⟩ = some (.int .i64 lo) := k1.at_ rfl
  have d5 : w1.cell? ⟨w.heap.size, 5, none⟩ = some (.int .i64 hi) := k1.at_ rfl
  go_wp2_with fail
  refine (HP.out _ B1).mono ?_
  rintro E w2 ⟨rfl, b2⟩
  have B2 := below_next B1 b2
  go_wp2_with fail
  go_ret2
  exact ⟨rfl, B2⟩
set_option maxRecDepth 100000 in
set_option maxHeartbeats 4000000 in
theorem rbefore_good (h : RN s A n l w) (hS : SNum s n T (m : Int) lo hi) (hv : vS s.size n T (m : Int) lo hi = 0) (H : RHalved s A n c l T (m : Int) lo hi D I) (hI : I 0 m T) (k : Int) (hk0 : 0 ≤ k) (hk1 : k < (m : Int)) :
    Calls Tryd.prog 16 #[spV s A n c T (m : Int) lo hi, .int .i64 k] w fun E W' => E = .returned (.tuple #[.int .i64 (desc D (pTo k) 0 m T 0).2, .int .i64 0]) ∧ Below w.heap.size w W' := by
  have HV := Lib.hid (fun W => rValidS_any hS A c W)
  rw [hv] at HV
  have g0 : ¬ k < 0 := by omega
  have g1 : ¬ (m : Int) < k := by omega
  have g2 : (k == (m : Int)) = false := by
    have : ¬ k = (m : Int) := by omega
    simpa using this
  have HP := Lib.hid (fun W (hW : Ok w W) => one_any H k (by have := (H.few 0 m T hI).2.1; omega) m 0 T 0 hI (by omega) W (h.below hW))
  generalize desc D (pTo k) 0 m T 0 = R at *
  have k0 := Blk.new w 24 (spC s A n c T (m : Int) lo hi)
  have b0 := (Below.refl w.heap.size w).alloc (Nat.le_refl _) (.cells (spC s A n c T (m : Int) lo hi) 24)
  clear H hI h hS hv
  go_enter Tryd.func16, Tryd.ntmps16
  go_wp2_with fail
  refine (HV.out _).mono ?_
  rintro E w1 ⟨rfl, b1⟩
  have k1 := k0.thru b1
  have B1 := below_next b0 b1
  have d0 : w1.cell? ⟨w.heap.size, 0, none⟩ = some (.string s) := k1.at_ rfl
  have d1 : w1.cell? ⟨w.heap.size, 1, none⟩ = some (.slice A n c) := k1.at_ rfl
  have d2 : w1.cell? ⟨w.heap.size, 2, none⟩ = some (.int .i64 T) := k1.at_ rfl
  have d3 : w1.cell? ⟨w.heap.size, 3, none⟩ = some (.int .i64 (m : Int)) := k1.at_ rfl
  have d4 : w1.cell? ⟨w.heap.size, 4, none⟩ = some (.int .i64 lo) := k1.at_ rfl
  have d5 : w1.cell? ⟨w.heap.size, 5, none⟩ = some (.int .i64 hi) := k1.at_ rfl
  go_wp2_with fail
  refine (HP.out _ B1).mono ?_
  rintro E w2 ⟨rfl, b2⟩
  have B2 := below_next B1 b2
  rw [Int.sub_zero]
  go_wp2_with fail
  go_ret2
  exact ⟨rfl, B2⟩
set_option maxRecDepth 100000 in
set_option maxHeartbeats 4000000 in
theorem rfind_good (h : RN s A n l w) (hS : SNum s n T (m : Int) lo hi) (hv : vS s.size n T (m : Int) lo hi = 0) (H : RHalved s A n c l T (m : Int) lo hi D I) (hI : I 0 m T) (k : Int) (hlo : 0 ≤ lo) (hk0 : 0 ≤ k) (hk1 : k < T) :
    Calls Tryd.prog 18 #[spV s A n c T (m : Int) lo hi, .int .i64 k] w fun E W' => E = .returned (.tuple #[.int .i64 ((desc D (pFind k) 0 m T 0).1.1 : Int), .int .i64 (k - (desc D (pFind k) 0 m T 0).2), .int .i64 0]) ∧ Below w.heap.size w W' := by
  have HV := Lib.hid (fun W => rValidS_any hS A c W)
  rw [hv] at HV
  have g0 : ¬ lo < 0 := by omega
  have g1 : ¬ k < 0 := by omega
  have g2 : ¬ T ≤ k := by omega
  have hf := H.few 0 m T hI
  have hm1 : 1 ≤ m := by
    have hz := vS_zero hv
    have h1 := hz.t1
    rcases Nat.eq_zero_or_pos m with e | e
    · subst e
      simp at h1
      omega
    · exact e
  have HP := Lib.hid (fun W (hW : Ok w W) => findR_any H k (by omega) m 0 T 0 hI hm1 (by omega) W (h.below hW))
  rw [Int.sub_zero] at HP
  generalize desc D (pFind k) 0 m T 0 = R at *
  have k0 := Blk.new w 24 (spC s A n c T (m : Int) lo hi)
  have b0 := (Below.refl w.heap.size w).alloc (Nat.le_refl _) (.cells (spC s A n c T (m : Int) lo hi) 24)
  clear H hI h hS hv
  go_enter Tryd.func18, Tryd.ntmps18
  go_wp2_with fail
  refine (HV.out _).mono ?_
  rintro E w1 ⟨rfl, b1⟩
  have k1 := k0.thru b1
  have B1 := below_next b0 b1
  have d0 : w1.cell? ⟨w.heap.size, 0, none⟩ = some (.string s) := k1.at_ rfl
  have d1 : w1.cell? ⟨w.heap.size, 1, none⟩ = some (.slice A n c) := k1.at_ rfl
  have d2 : w1.cell? ⟨w.heap.size, 2, none⟩ = some (.int .i64 T) := k1.at_ rfl
  have d3 : w1.cell? ⟨w.heap.size, 3, none⟩ = some (.int .i64 (m : Int)) := k1.at_ rfl
  have d4 : w1.cell? ⟨w.heap.size, 4, none⟩ = some (.int .i64 lo) := k1.at_ rfl
  have d5 : w1.cell? ⟨w.heap.size, 5, none⟩ = some (.int .i64 hi) := k1.at_ rfl
  go_wp2_with fail
  refine (HP.out _ B1).mono ?_
  rintro E w2 ⟨rfl, b2⟩
  have B2 := below_next B1 b2
  go_wp2_with fail
  go_ret3
  exact ⟨rfl, B2⟩
set_option maxRecDepth 100000 in
set_option maxHeartbeats 4000000 in
theorem rbefore_end (hS : SNum s n T (m : Int) lo hi) (hv : vS s.size n T (m : Int) lo hi = 0) :
    Calls Tryd.prog 16 #[spV s A n c T (m : Int) lo hi, .int .i64 (m : Int)] w fun E W' => E = .returned (.tuple #[.int .i64 T, .int .i64 0]) ∧ Below w.heap.size w W' := by
  have HV := Lib.hid (fun W => rValidS_any hS A c W)
  rw [hv] at HV
  have k0 := Blk.new w 24 (spC s A n c T (m : Int) lo hi)
  have b0 := (Below.refl w.heap.size w).alloc (Nat.le_refl _) (.cells (spC s A n c T (m : Int) lo hi) 24)
  clear hS hv
  go_enter Tryd.func16, Tryd.ntmps16
  go_wp2_with fail
  refine (HV.out _).mono ?_
  rintro E w1 ⟨rfl, b1⟩
  have k1 := k0.thru b1
  have B1 := below_next b0 b1
  have d2 : w1.cell? ⟨w.heap.size, 2, none⟩ = some (.int .i64 T) := k1.at_ rfl
  have d3 : w1.cell? ⟨w.heap.size, 3, none⟩ = some (.int .i64 (m : Int)) := k1.at_ rfl
  go_wp2_with fail
  go_ret2
  exact ⟨rfl, B1⟩
end
end Go.Proofs.YtnionejefpnfoaaDoor
