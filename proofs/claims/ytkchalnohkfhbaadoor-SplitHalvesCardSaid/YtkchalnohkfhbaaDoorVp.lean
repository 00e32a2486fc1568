/- The walk of the law SplitHalves. Conditions: the round constants lie in their variable; the list's numbers have 64 bits. -/
import Derived.Test.YtkchalnohkfhbaaDoorVn
import Derived.Test.YtkchalnohkfhbaaDoorHs
set_option linter.unusedSimpArgs false
set_option linter.unusedVariables false
namespace Go.Proofs.YtkchalnohkfhbaaDoor
open Go.RowKit Go.Shelf Go

theorem desc_first (D : Nat → Nat → Int → Int) (n : Nat) : ∀ (a : Nat) (t b : Int), (desc D (pTo (a : Int)) a n t b).2 = b := by
  induction n using Nat.strongRecOn with
  | ind n ih =>
    intro a t b
    by_cases h : 2 ≤ n
    · rw [desc_left h (by unfold pTo; exact decide_eq_true (by dsimp only; omega)), ih _ (by omega)]
    · rw [desc_end _ _ _ _ _ _ (by omega)]
theorem desc_half (D : Nat → Nat → Int → Int) (m : Nat) (T : Int) (h : 2 ≤ m) : (desc D (pTo ((m / 2 : Nat) : Int)) 0 m T 0).2 = D 0 m T := by
  rw [desc_right h (by unfold pTo; exact decide_eq_false (by dsimp only; omega)), Nat.zero_add, desc_first, Int.zero_add]
theorem reads_take {w : World} {B n k : Nat} {A : Option Addr} {l : List Int} (h : Reads w B 1 A n (ints l)) (hk : k ≤ n) : Reads w B 1 A k (ints (l.take k)) := by
  have hl := h.int_len
  refine ⟨by simp [ints]; omega, fun h0 => ?_⟩
  obtain ⟨ad, rfl, hb, hc⟩ := h.2 (by omega)
  refine ⟨ad, rfl, hb, fun j u hu => hc j u ?_⟩
  unfold ints at hu ⊢
  rw [List.map_take] at hu
  have hj := (List.getElem?_eq_some_iff.1 hu).1
  rw [List.length_take] at hj
  rw [List.getElem?_take, if_pos (by omega)] at hu
  exact hu
/-- append of what a slice reads, in a region that draws its order -/
theorem wp_append_rd {o : Oper} {a : Act} {K : Act → World → Prop} {Q : Exit → Act → World → Prop} (w : World) (s x : Operand) (t : TypeId) (ho : o.op = .call { callee := .builtin .append, args := #[s, x], argTypes := #[t, t] })
    (base : Nat) (e : TypeId) (i : TypeInfo) (z : Value) (size bytes : Nat) (ht : Tryd.prog.underlying t = some (.slice e)) (hi : Tryd.prog.info? e = some i) (hz : i.zero = some z) (hsize : i.size = size) (hby : i.bytes = bytes) (hzs : z.cells.size = size) (hsz : 0 < size)
    (v : Value) (n : Nat) (xs : List Value) (hs : a.eval s = v) (hown : w.ownsRow base e size v n xs) (B : Nat) (A : Option Addr) (m c : Nat) (news : List Value) (hx : a.eval x = .slice A m c) (hr : Reads w B size A m news) (h1 : ∀ u ∈ news, u.oneCell' = true)
    (h63 : n + m ≤ maxLen) (hbytes : (n + m) * bytes ≤ 140737488355328) (hbase : base ≤ w.heap.size)
    (h : ∀ v' w', w'.ownsRow base e size v' (n + m) (xs ++ news) → w.grownBy w' v.ownBlock → K (a.put o.dst v') w') : o.wp Tryd.prog a w K Q := by
  obtain ⟨v', w', hrun, h2, h3⟩ := run_append_reads (P := Tryd.prog) w base t o.type e i z size bytes ht hi hz hsize hby hzs hsz v n xs hown B A m c news hr h1 h63 hbytes hbase
  unfold Oper.wp
  simp [execOp, ho, resolve, invoke, builtin, hs, hx, hrun, Result.andThen, Oper.upon]
  exact h v' w' h2 h3
theorem reads_far {w w' : World} {g n : Nat} {l : List Int} {row : Option Nat} (h : Reads w w.heap.size 1 (some ⟨g, 0, none⟩) n (ints l)) (hg : w.grownBy w' row) (hne : row ≠ some g) : Reads w' w'.heap.size 1 (some ⟨g, 0, none⟩) n (ints l) := by
  refine ⟨h.1, fun h0 => ?_⟩
  obtain ⟨ad, e, hb, hc⟩ := h.2 h0
  cases e
  refine ⟨_, rfl, Nat.lt_of_lt_of_le hb hg.size, fun j u hu => ?_⟩
  rw [← hc j u hu, addr_add0]
  exact World.cell?_of_block (hg.block g hb (fun e => hne e.symm))
set_option maxRecDepth 100000 in
set_option maxHeartbeats 32000000 in
theorem splitHalves_any (A : Option Addr) (n c : Nat) (l : List Int) (w : World) (hl : Reads w w.heap.size 1 A n (ints l)) (hI : ∀ x ∈ l, I64 x) (hK : Consts w) (h0 : 0 < w.heap.size) :
    Calls Tryd.prog 5 #[.slice A n c] w fun E W' => E = .returned (.bool true) ∧ Below w.heap.size w W' := by
  have hr1 := rAt_lt l 1 13 (by omega)
  have hr2 := rAt_lt l 2 7 (by omega)
  have hr3 := rAt_lt l 3 12 (by omega)
  have hr4 := rAt_lt l 4 4 (by omega)
  have HM := Lib.hid (made_split A n c l w hl hI)
  have HK := Lib.hid hK
  clear hl hI hK
  go_enter Tryd.func5, Tryd.ntmps5
  go_wp2_with fail
  refine HM.out.mono ?_
  rintro E w1 ⟨x, P, q, d, p, T, m, lo, hi, rfl, hx0, hx1, hm, hlo, hhi, hq, hp, hrd, ht0, ht1, b1⟩
  have ok1 : Ok w w1 := b1
  generalize rAt l 1 13 = r1 at *
  generalize rAt l 2 7 = r2 at *
  generalize rAt l 3 12 = r3 at *
  generalize rAt l 4 4 = r4 at *
  have hq3 : q ≤ 3 := by omega
  have hpl : p.length = q := hrd.int_len
  have hm12 : m ≤ 12 := by omega
  have hlb : -2 ≤ lo ∧ lo ≤ 4 := by omega
  have hhb : lo ≤ hi ∧ hi ≤ lo + 11 := by omega
  have hs : (seedOf x).size ≤ 32 := seedOf_le x
  have hI0 : ∀ y ∈ p, I64 y := fun y hy => by have := hp y hy; unfold I64; omega
  have hnet : ∀ W, Ok w1 W → Net (seedOf x) P q p W := fun W hW => by
    have hr := hrd.below hW
    exact ⟨hr.more hW.size, hI0, by omega, by omega, (ok1.step hW).consts HK.out h0, (ok1.step hW).pos h0⟩
  have HV := Lib.hid (fun W (hW : Ok w1 W) => splitLives_any W ((ok1.step hW).consts HK.out h0) ((ok1.step hW).pos h0))
  have qq : (m : Int).tdiv 2 = ((m / 2 : Nat) : Int) := by rw [Int.tdiv_eq_ediv_of_nonneg (by omega)]; omega
  have qw : IntKind.i64.wrap ((m / 2 : Nat) : Int) = ((m / 2 : Nat) : Int) := wrap_small (by omega) (by omega)
  by_cases h2 : 2 ≤ m
  · have hroot := made_root hm12 ht0 ht1
    obtain ⟨hb1, hb2, hb3⟩ := half_bounds hhb.1 ht0 ht1
    have hdr := drawV_in (seedOf x) (p ++ [((0 : Nat) : Int), (m : Int)]) hb1
    obtain ⟨hd1, hd2, hd3, hd4⟩ := hb3 _ hdr.1 hdr.2
    have hwk := word_ok hx0 hx1 (by omega) hp (hroot.2.1 h2)
    have hH := fun T' N' => made_halved hx0 hx1 (P := P) (d := d) hq3 (by omega) hp T' N' lo hi (by omega) hhb.1 (by omega) (by omega)
    obtain ⟨SUM, hSUM⟩ : ∃ y, y = leftV (seedOf x) p lo hi 0 m T := ⟨_, rfl⟩
    have hSUM2 : SUM = drawV (seedOf x) (p ++ [((0 : Nat) : Int), (m : Int)]) (loB lo hi T m) (hiB lo hi T m) := hSUM
    rw [← hSUM2] at hd1 hd2 hd3 hd4
    have HBF : Hid (∀ W, Ok w1 W → Calls Tryd.prog 10 #[spV (seedOf x) P q d T (m : Int) lo hi, .int .i64 ((m / 2 : Nat) : Int)] W fun E W' => E = .returned (.tuple #[.int .i64 SUM, .int .i64 0]) ∧ Below W.heap.size W W') := Lib.hid fun W hW => by
      have := before_any (c := d) (hnet W hW) (T := T) (lo := lo) (hi := hi) (m := m) ⟨hs, by omega, by omega, by omega, by omega, by omega, hhb.1, ht0, ht1⟩ (hH _ _) hroot (fun a m t h => madeI_bound (by omega) (by omega) h) ((m / 2 : Nat) : Int) (by omega) (by omega)
      rw [desc_half _ m T h2, ← hSUM] at this
      exact this
    obtain ⟨XS, hXS⟩ : ∃ XS, XS = parts (leftV (seedOf x) p lo hi) 0 m T := ⟨_, rfl⟩
    have hXL : XS.length = m := by rw [hXS]; exact parts_len _ m 0 T
    have hXT : XS.take (m / 2) = parts (leftV (seedOf x) p lo hi) 0 (m / 2) SUM := by
      rw [hXS, parts_two _ 0 m T h2, ← hSUM, List.take_left']
      exact parts_len _ _ _ _
    have HA : Hid (∀ W, Ok w1 W → Calls Tryd.prog 8 #[spV (seedOf x) P q d T (m : Int) lo hi] W fun E W' => ∃ v, E = .returned (.tuple #[v, .int .i64 0]) ∧ W'.ownsRow W.heap.size 3 1 v m (ints XS) ∧ Below W.heap.size W W') := Lib.hid fun W hW => by
      rw [hXS]
      exact all_any (c := d) (hnet W hW) (T := T) (lo := lo) (hi := hi) (m := m) ⟨hs, by omega, by omega, by omega, by omega, by omega, hhb.1, ht0, ht1⟩ (hH _ _) hroot
    have HB : Hid (∀ W, Ok w1 W → Calls Tryd.prog 8 #[spV (seedOf x) P q d SUM ((m / 2 : Nat) : Int) lo hi] W fun E W' => ∃ v, E = .returned (.tuple #[v, .int .i64 0]) ∧ W'.ownsRow W.heap.size 3 1 v (m / 2) (ints (XS.take (m / 2))) ∧ Below W.heap.size W W') := Lib.hid fun W hW => by
      rw [hXT]
      exact all_any (c := d) (hnet W hW) (T := SUM) (lo := lo) (hi := hi) (m := m / 2) ⟨hs, by omega, by omega, by omega, by omega, by omega, hhb.1, hd1, hd2⟩ (hH _ _) (made_root (by omega) hd1 hd2)
    have hmb : ((m / 2 : Nat) : Int) * (hi - lo) ≤ 12 * 11 := by
      have e1 : ((m / 2 : Nat) : Int) * (hi - lo) ≤ ((m / 2 : Nat) : Int) * 11 := Int.mul_le_mul_of_nonneg_left (by omega) (by omega)
      omega
    have hmu : ∀ (k : Nat) (u : Int), k ≤ 12 → -100 ≤ u → u ≤ 100 → -1200 ≤ (k : Int) * u ∧ (k : Int) * u ≤ 1200 := fun k u h0 h1 h2 => by
      have e1 : (k : Int) * (-100) ≤ (k : Int) * u := Int.mul_le_mul_of_nonneg_left h1 (by omega)
      have e2 : (k : Int) * u ≤ (k : Int) * 100 := Int.mul_le_mul_of_nonneg_left h2 (by omega)
      omega
    have m1 := hmu (m / 2) lo (by omega) (by omega) (by omega)
    have m2 := hmu (m / 2) hi (by omega) (by omega) (by omega)
    have m3 := hmu (m - m / 2) lo (by omega) (by omega) (by omega)
    have m4 := hmu (m - m / 2) hi (by omega) (by omega) (by omega)
    have m5 := hmu m lo (by omega) (by omega) (by omega)
    have m6 := hmu m hi (by omega) (by omega) (by omega)
    obtain ⟨LB, hLB⟩ : ∃ y, y = loB lo hi T m := ⟨_, rfl⟩
    obtain ⟨HBv, hHB⟩ : ∃ y, y = hiB lo hi T m := ⟨_, rfl⟩
    rw [← hLB, ← hHB] at hb1 hb2 hSUM2
    have hLB2 : LB = max (((m / 2 : Nat) : Int) * lo) (T - ((m - m / 2 : Nat) : Int) * hi) := hLB
    have hHB2 : HBv = min (((m / 2 : Nat) : Int) * hi) (T - ((m - m / 2 : Nat) : Int) * lo) := hHB
    have HBT : Hid (∀ W B e, Ok w1 W → Reads W W.heap.size 1 B (q + 2) (ints (p ++ [0, (m : Int)])) → Calls Tryd.prog 16 #[.string (seedOf x), .slice B (q + 2) e, .int .i64 LB, .int .i64 HBv] W fun E W' => E = .returned (.tuple #[.int .i64 SUM, .int .i64 0]) ∧ Below W.heap.size W W') := Lib.hid fun W B e hW hr => by
      have hn : Net (seedOf x) B (q + 2) (p ++ [((0 : Nat) : Int), (m : Int)]) W := ⟨hr, fun y hy => by
        rcases List.mem_append.1 hy with h1 | h1
        · exact hI0 y h1
        · simp only [List.mem_cons, List.not_mem_nil, or_false] at h1
          unfold I64
          rcases h1 with rfl | rfl <;> omega, by omega, by omega, (ok1.step hW).consts HK.out h0, (ok1.step hW).pos h0⟩
      rw [hSUM2]
      exact between_w hn (decide_eq_true ⟨hs, by omega⟩) LB HBv (by omega) (by omega) hb1 (by omega) (acc_of hwk (by omega) (by omega))
    have hsum : -2000 ≤ SUM ∧ SUM ≤ 2000 := by omega
    generalize hpp : m / 2 = pp at *
    generalize hrr : m - pp = rr at *
    obtain ⟨X1, hX1⟩ : ∃ y, y = (pp : Int) * lo := ⟨_, rfl⟩
    obtain ⟨X2, hX2⟩ : ∃ y, y = (pp : Int) * hi := ⟨_, rfl⟩
    obtain ⟨Y1, hY1⟩ : ∃ y, y = (rr : Int) * hi := ⟨_, rfl⟩
    obtain ⟨Y2, hY2⟩ : ∃ y, y = (rr : Int) * lo := ⟨_, rfl⟩
    have w1q : IntKind.i64.wrap ((pp : Int) * lo) = X1 := by rw [hX1]; exact wrap_small (by omega) (by omega)
    have w2q : IntKind.i64.wrap ((pp : Int) * hi) = X2 := by rw [hX2]; exact wrap_small (by omega) (by omega)
    have w3q : IntKind.i64.wrap ((rr : Int) * hi) = Y1 := by rw [hY1]; exact wrap_small (by omega) (by omega)
    have w4q : IntKind.i64.wrap ((rr : Int) * lo) = Y2 := by rw [hY2]; exact wrap_small (by omega) (by omega)
    have w1r : RowKit.wrap64 ((pp : Int) * lo) = X1 := (IntWalk.i64_left _).symm.trans w1q
    have w2r : RowKit.wrap64 ((pp : Int) * hi) = X2 := (IntWalk.i64_left _).symm.trans w2q
    have w3r : RowKit.wrap64 ((rr : Int) * hi) = Y1 := (IntWalk.i64_left _).symm.trans w3q
    have w4r : RowKit.wrap64 ((rr : Int) * lo) = Y2 := (IntWalk.i64_left _).symm.trans w4q
    rw [← hX1] at m1 hLB2
    rw [← hX2] at m2 hHB2
    rw [← hY2] at m3 hHB2
    rw [← hY1] at m4 hLB2
    have w5q : IntKind.i64.wrap (T - Y1) = T - Y1 := wrap_small (by omega) (by omega)
    have w6q : IntKind.i64.wrap (T - Y2) = T - Y2 := wrap_small (by omega) (by omega)
    have w7q : IntKind.i64.wrap ((m : Int) - (pp : Int)) = (rr : Int) := by rw [show (m : Int) - (pp : Int) = (rr : Int) by omega]; exact wrap_small (by omega) (by omega)
    have e1 : (if T - Y1 > X1 then T - Y1 else X1) = LB := by rw [hLB2]; split <;> omega
    have e2 : (if T - Y2 < X2 then T - Y2 else X2) = HBv := by rw [hHB2]; split <;> omega
    have mx := fun ts ty W => run_max_int2 (P := Tryd.prog) (w := W) ts ty .i64 .i64 X1 (T - Y1)
    have mn := fun ts ty W => run_min_int2 (P := Tryd.prog) (w := W) ts ty .i64 .i64 X2 (T - Y2)
    rw [e1] at mx
    rw [e2] at mn
    have g0 : ((pp : Int) == 0) = false := by
      have : ¬ (pp : Int) = 0 := by omega
      simpa using this
    have HO := Lib.hid (fun T N lo hi W => own_any (seedOf x) P q d T N lo hi W)
    have HWS := Lib.hid (And.intro w1q (And.intro w2q (And.intro w3q (And.intro w4q (And.intro w1r (And.intro w2r (And.intro w3r (And.intro w4r (And.intro w5q w6q)))))))))
    have HMX := Lib.hid mx
    have HMN := Lib.hid mn
    have HRD := Lib.hid hrd
    have hpm : pp ≤ m ∧ pp ≤ 6 ∧ 1 ≤ pp := by omega
    generalize seedOf x = s at *
    clear mx mn e1 e2 w1q w2q w3q w4q w1r w2r w3r w4r w5q w6q hX1 hX2 hY1 hY2 hLB hHB hLB2 hHB2 m1 m2 m3 m4 m5 m6 hmu hmb hsum hb1 hb2 hb3 hd1 hd2 hd3 hd4 hdr hwk hH hSUM hSUM2 hXS hXT hp hrd hnet hI0 hs hx0 hx1 hm hlo hhi hq hr1 hr2 hr3 hr4 ht0 ht1 hlb hhb b1 hroot hpp hrr
    have z1 : (w1.alloc (.cells (spC s P q d T (m : Int) lo hi) 24)).heap.size = w1.heap.size + 1 := by simp
    have k3 := Blk.new w1 24 (spC s P q d T (m : Int) lo hi)
    have ok3 := (Ok.refl w1).alloc (.cells (spC s P q d T (m : Int) lo hi) 24)
    go_upto_region 5 with fail
    generalize w1.alloc (.cells (spC s P q d T (m : Int) lo hi) 24) = w2 at *
    have a0 : w2.cell? ⟨w1.heap.size, 0, none⟩ = some (.string s) := k3.at_ rfl
    have a1 : w2.cell? ⟨w1.heap.size, 1, none⟩ = some (.slice P q d) := k3.at_ rfl
    have a2 : w2.cell? ⟨w1.heap.size, 2, none⟩ = some (.int .i64 T) := k3.at_ rfl
    have a3 : w2.cell? ⟨w1.heap.size, 3, none⟩ = some (.int .i64 (m : Int)) := k3.at_ rfl
    have a4 : w2.cell? ⟨w1.heap.size, 4, none⟩ = some (.int .i64 lo) := k3.at_ rfl
    have a5 : w2.cell? ⟨w1.heap.size, 5, none⟩ = some (.int .i64 hi) := k3.at_ rfl
    go_wp2_with fail
    refine (HO.out T (m : Int) lo hi _).mono ?_
    rintro E w3 ⟨rfl, b3⟩
    have ok4 := ok3.step b3
    have k4 := k3.thru b3
    have zz : w1.heap.size + 1 ≤ w3.heap.size := by rw [← z1]; exact b3.size
    clear b3 k3 ok3 a0 a1 a2 a3 a4 a5 z1
    go_wp2_with fail
    refine (HBF.out _ ok4).mono ?_
    rintro E w4 ⟨rfl, b4⟩
    have ok5 := ok4.step b4
    have k5 := k4.thru b4
    have hgz : w1.heap.size < w4.heap.size := k5.lt
    clear b4 k4 ok4 zz
    have a0 : w4.cell? ⟨w1.heap.size, 0, none⟩ = some (.string s) := k5.at_ rfl
    have a1 : w4.cell? ⟨w1.heap.size, 1, none⟩ = some (.slice P q d) := k5.at_ rfl
    have a2 : w4.cell? ⟨w1.heap.size, 2, none⟩ = some (.int .i64 T) := k5.at_ rfl
    have a3 : w4.cell? ⟨w1.heap.size, 3, none⟩ = some (.int .i64 (m : Int)) := k5.at_ rfl
    have a4 : w4.cell? ⟨w1.heap.size, 4, none⟩ = some (.int .i64 lo) := k5.at_ rfl
    have a5 : w4.cell? ⟨w1.heap.size, 5, none⟩ = some (.int .i64 hi) := k5.at_ rfl
    have kn := Blk.new w4 24 (spC s P q d T (m : Int) lo hi)
    have k6 := k5.alloc (.cells (spC s P q d T (m : Int) lo hi) 24)
    have ok6 := ok5.alloc (.cells (spC s P q d T (m : Int) lo hi) 24)
    go_upto_region 7 with fail
    generalize hw5 : w4.alloc (.cells (spC s P q d T (m : Int) lo hi) 24) = w5 at *
    generalize hg : w4.heap.size = g at *
    clear hw5 hg k5 ok5 a0 a1 a2 a3 a4 a5
    have y3 : w5.cell? ⟨g, 3, none⟩ = some (.int .i64 (m : Int)) := kn.at_ rfl
    have y2 : w5.cell? ⟨g, 2, none⟩ = some (.int .i64 T) := kn.at_ rfl
    have f3 := kn.frozen 3
    have f2 := kn.frozen 2
    go_upto_region 9 with fail
    have kn' : Blk ((w5.setCell ⟨g, 3, none⟩ (.int .i64 (pp : Int))).setCell ⟨g, 2, none⟩ (.int .i64 SUM)) g 24 (spC s P q d SUM (pp : Int) lo hi) := (kn.set_ 3 (.int .i64 (pp : Int))).set_ 2 (.int .i64 SUM)
    have k7 := (k6.far (p := ⟨g, 3, none⟩) (by simp; omega) (.int .i64 (pp : Int))).far (p := ⟨g, 2, none⟩) (by simp; omega) (.int .i64 SUM)
    have ok7 : Ok w1 ((w5.setCell ⟨g, 3, none⟩ (.int .i64 (pp : Int))).setCell ⟨g, 2, none⟩ (.int .i64 SUM)) := ((show Below w1.heap.size w1 w5 from ok6).setCell (by simp; omega) _).setCell (by simp; omega) _
    clear kn k6 ok6 y2 y3 f2 f3
    generalize (w5.setCell ⟨g, 3, none⟩ (.int .i64 (pp : Int))).setCell ⟨g, 2, none⟩ (.int .i64 SUM) = w6 at *
    have a0 : w6.cell? ⟨w1.heap.size, 0, none⟩ = some (.string s) := k7.at_ rfl
    have a1 : w6.cell? ⟨w1.heap.size, 1, none⟩ = some (.slice P q d) := k7.at_ rfl
    have a2 : w6.cell? ⟨w1.heap.size, 2, none⟩ = some (.int .i64 T) := k7.at_ rfl
    have a3 : w6.cell? ⟨w1.heap.size, 3, none⟩ = some (.int .i64 (m : Int)) := k7.at_ rfl
    have a4 : w6.cell? ⟨w1.heap.size, 4, none⟩ = some (.int .i64 lo) := k7.at_ rfl
    have a5 : w6.cell? ⟨w1.heap.size, 5, none⟩ = some (.int .i64 hi) := k7.at_ rfl
    go_wp2_with fail
    refine (HO.out T (m : Int) lo hi _).mono ?_
    rintro E w7 ⟨rfl, b7⟩
    have ok8 := ok7.step b7
    have k8 := k7.thru b7
    have j8 := kn'.thru b7
    clear b7 k7 kn' ok7 a0 a1 a2 a3 a4 a5
    go_wp2_with fail
    refine (HA.out _ ok8).mono ?_
    rintro E w8 ⟨va, rfl, oa, b8⟩
    have ok9 := ok8.step b8
    have k9 := k8.thru b8
    have j9 := j8.thru b8
    obtain ⟨A1, c1, rfl, hmc, -, -⟩ := own_slice oa
    clear b8 k8 j8 ok8
    have a0 : w8.cell? ⟨g, 0, none⟩ = some (.string s) := j9.at_ rfl
    have a1 : w8.cell? ⟨g, 1, none⟩ = some (.slice P q d) := j9.at_ rfl
    have a2 : w8.cell? ⟨g, 2, none⟩ = some (.int .i64 SUM) := j9.at_ rfl
    have a3 : w8.cell? ⟨g, 3, none⟩ = some (.int .i64 (pp : Int)) := j9.at_ rfl
    have a4 : w8.cell? ⟨g, 4, none⟩ = some (.int .i64 lo) := j9.at_ rfl
    have a5 : w8.cell? ⟨g, 5, none⟩ = some (.int .i64 hi) := j9.at_ rfl
    go_wp2_with fail
    refine (HO.out SUM (pp : Int) lo hi _).mono ?_
    rintro E w9 ⟨rfl, b9⟩
    have ok10 := ok9.step b9
    have k10 := k9.thru b9
    have oa10 := own_below oa b9
    clear b9 k9 j9 ok9 oa a0 a1 a2 a3 a4 a5
    go_wp2_with fail
    refine (HB.out _ ok10).mono ?_
    rintro E wA ⟨vb, rfl, ob, bA⟩
    have ok11 := ok10.step bA
    have k11 := k10.thru bA
    have oa11 := own_below oa10 bA
    obtain ⟨A2, c2, rfl, -⟩ := own_reads1 ob
    have HR1 := Lib.hid (Reads.of_own oa11)
    have HR2 := Lib.hid (Reads.of_own ob)
    clear bA k10 ok10 oa10 oa11 ob
    have a3 : wA.cell? ⟨w1.heap.size, 3, none⟩ = some (.int .i64 (m : Int)) := k11.at_ rfl
    go_upto_region 12 with fail
    clear a3
    obtain ⟨i0, hi0, hz0, hz1, hz2⟩ := info_parts info_i64
    obtain ⟨w1q, w2q, w3q, w4q, w1r, w2r, w3r, w4r, w5q, w6q⟩ := HWS.out
    have mx := HMX.out
    have mn := HMN.out
    have a0 : wA.drew.cell? ⟨w1.heap.size, 0, none⟩ = some (.string s) := k11.drew.at_ rfl
    have a1 : wA.drew.cell? ⟨w1.heap.size, 1, none⟩ = some (.slice P q d) := k11.drew.at_ rfl
    have a2 : wA.drew.cell? ⟨w1.heap.size, 2, none⟩ = some (.int .i64 T) := k11.drew.at_ rfl
    have a3 : wA.drew.cell? ⟨w1.heap.size, 3, none⟩ = some (.int .i64 (m : Int)) := k11.drew.at_ rfl
    have a4 : wA.drew.cell? ⟨w1.heap.size, 4, none⟩ = some (.int .i64 lo) := k11.drew.at_ rfl
    have a5 : wA.drew.cell? ⟨w1.heap.size, 5, none⟩ = some (.int .i64 hi) := k11.drew.at_ rfl
    go_cut [13, 14] from 52 to 88 (fun v13 v14 wx => v13 = .int .i64 SUM ∧ v14 = .int .i64 0 ∧ Below wA.heap.size wA wx)
    case first =>
      refine wp_region_but (fun W => Ok wA W ∧ W.cell? ⟨w1.heap.size, 0, none⟩ = some (.string s) ∧ W.cell? ⟨w1.heap.size, 1, none⟩ = some (.slice P q d) ∧ W.cell? ⟨w1.heap.size, 2, none⟩ = some (.int .i64 T) ∧ W.cell? ⟨w1.heap.size, 3, none⟩ = some (.int .i64 (m : Int)) ∧ W.cell? ⟨w1.heap.size, 4, none⟩ = some (.int .i64 lo) ∧ W.cell? ⟨w1.heap.size, 5, none⟩ = some (.int .i64 hi)) [38] (by kernel_rfl) ⟨(Ok.refl wA).drew, a0, a1, a2, a3, a4, a5⟩ fun hS0 => ?_
      refine wpBut_pure 0 (v := .pointer (some ⟨w1.heap.size, 0, none⟩)) rfl (by kernel_rfl) (fun _ _ _ h => h) ⟨by rfl, fun W => ?_⟩ (fun _ => hS0) ?_
      · go_simp
      simp only [Act.put, List.setIfInBounds_toArray, List.set_cons_zero, List.set_cons_succ]
      refine wpBut_take 1 (v := .string s) rfl (by kernel_rfl) (fun _ _ _ h => h) ⟨by rfl, fun W hW => ?_⟩ hS0 ?_
      · obtain ⟨s9, s0, s1, s2, s3, s4, s5⟩ := hW
        go_simp
      simp only [Act.put, List.setIfInBounds_toArray, List.set_cons_zero, List.set_cons_succ]
      refine wpBut_pure 3 (v := .pointer (some ⟨w1.heap.size, 1, none⟩)) rfl (by kernel_rfl) (fun _ _ _ h => h) ⟨by rfl, fun W => ?_⟩ (fun _ => hS0) ?_
      · go_simp
      simp only [Act.put, List.setIfInBounds_toArray, List.set_cons_zero, List.set_cons_succ]
      refine wpBut_take 4 (v := .slice P q d) rfl (by kernel_rfl) (fun _ _ _ h => h) ⟨by rfl, fun W hW => ?_⟩ hS0 ?_
      · obtain ⟨s9, s0, s1, s2, s3, s4, s5⟩ := hW
        go_simp
      simp only [Act.put, List.setIfInBounds_toArray, List.set_cons_zero, List.set_cons_succ]
      refine wpBut_pure 6 (v := .pointer (some ⟨w1.heap.size, 3, none⟩)) rfl (by kernel_rfl) (fun _ _ _ h => h) ⟨by rfl, fun W => ?_⟩ (fun _ => hS0) ?_
      · go_simp
      simp only [Act.put, List.setIfInBounds_toArray, List.set_cons_zero, List.set_cons_succ]
      refine wpBut_take 7 (v := .int .i64 (m : Int)) rfl (by kernel_rfl) (fun _ _ _ h => h) ⟨by rfl, fun W hW => ?_⟩ hS0 ?_
      · obtain ⟨s9, s0, s1, s2, s3, s4, s5⟩ := hW
        go_simp
      simp only [Act.put, List.setIfInBounds_toArray, List.set_cons_zero, List.set_cons_succ]
      refine wpBut_pure 10 (v := .int .i64 (pp : Int)) rfl (by kernel_rfl) (fun _ _ _ h => h) ⟨by rfl, fun W => ?_⟩ (fun _ => hS0) ?_
      · go_simp
      simp only [Act.put, List.setIfInBounds_toArray, List.set_cons_zero, List.set_cons_succ]
      refine wpBut_pure 11 (v := .pointer (some ⟨w1.heap.size, 4, none⟩)) rfl (by kernel_rfl) (fun _ _ _ h => h) ⟨by rfl, fun W => ?_⟩ (fun _ => hS0) ?_
      · go_simp
      simp only [Act.put, List.setIfInBounds_toArray, List.set_cons_zero, List.set_cons_succ]
      refine wpBut_take 12 (v := .int .i64 lo) rfl (by kernel_rfl) (fun _ _ _ h => h) ⟨by rfl, fun W hW => ?_⟩ hS0 ?_
      · obtain ⟨s9, s0, s1, s2, s3, s4, s5⟩ := hW
        go_simp
      simp only [Act.put, List.setIfInBounds_toArray, List.set_cons_zero, List.set_cons_succ]
      refine wpBut_pure 13 (v := .int .i64 X1) rfl (by kernel_rfl) (fun _ _ _ h => h) ⟨by rfl, fun W => ?_⟩ (fun _ => hS0) ?_
      · go_simp
      simp only [Act.put, List.setIfInBounds_toArray, List.set_cons_zero, List.set_cons_succ]
      refine wpBut_pure 14 (v := .pointer (some ⟨w1.heap.size, 2, none⟩)) rfl (by kernel_rfl) (fun _ _ _ h => h) ⟨by rfl, fun W => ?_⟩ (fun _ => hS0) ?_
      · go_simp
      simp only [Act.put, List.setIfInBounds_toArray, List.set_cons_zero, List.set_cons_succ]
      refine wpBut_take 15 (v := .int .i64 T) rfl (by kernel_rfl) (fun _ _ _ h => h) ⟨by rfl, fun W hW => ?_⟩ hS0 ?_
      · obtain ⟨s9, s0, s1, s2, s3, s4, s5⟩ := hW
        go_simp
      simp only [Act.put, List.setIfInBounds_toArray, List.set_cons_zero, List.set_cons_succ]
      refine wpBut_pure 16 (v := .int .i64 (rr : Int)) rfl (by kernel_rfl) (fun _ _ _ h => h) ⟨by rfl, fun W => ?_⟩ (fun _ => hS0) ?_
      · go_simp
      simp only [Act.put, List.setIfInBounds_toArray, List.set_cons_zero, List.set_cons_succ]
      refine wpBut_pure 17 (v := .pointer (some ⟨w1.heap.size, 5, none⟩)) rfl (by kernel_rfl) (fun _ _ _ h => h) ⟨by rfl, fun W => ?_⟩ (fun _ => hS0) ?_
      · go_simp
      simp only [Act.put, List.setIfInBounds_toArray, List.set_cons_zero, List.set_cons_succ]
      refine wpBut_take 18 (v := .int .i64 hi) rfl (by kernel_rfl) (fun _ _ _ h => h) ⟨by rfl, fun W hW => ?_⟩ hS0 ?_
      · obtain ⟨s9, s0, s1, s2, s3, s4, s5⟩ := hW
        go_simp
      simp only [Act.put, List.setIfInBounds_toArray, List.set_cons_zero, List.set_cons_succ]
      refine wpBut_pure 19 (v := .int .i64 Y1) rfl (by kernel_rfl) (fun _ _ _ h => h) ⟨by rfl, fun W => ?_⟩ (fun _ => hS0) ?_
      · go_simp
      simp only [Act.put, List.setIfInBounds_toArray, List.set_cons_zero, List.set_cons_succ]
      refine wpBut_pure 20 (v := .int .i64 (T - Y1)) rfl (by kernel_rfl) (fun _ _ _ h => h) ⟨by rfl, fun W => ?_⟩ (fun _ => hS0) ?_
      · go_simp
      simp only [Act.put, List.setIfInBounds_toArray, List.set_cons_zero, List.set_cons_succ]
      refine wpBut_pure 21 (v := .int .i64 LB) rfl (by kernel_rfl) (fun _ _ _ h => h) ⟨by rfl, fun W => ?_⟩ (fun _ => hS0) ?_
      · go_simp
      simp only [Act.put, List.setIfInBounds_toArray, List.set_cons_zero, List.set_cons_succ]
      refine wpBut_pure 22 (v := .int .i64 (pp : Int)) rfl (by kernel_rfl) (fun _ _ _ h => h) ⟨by rfl, fun W => ?_⟩ (fun _ => hS0) ?_
      · go_simp
      simp only [Act.put, List.setIfInBounds_toArray, List.set_cons_zero, List.set_cons_succ]
      refine wpBut_pure 23 (v := .pointer (some ⟨w1.heap.size, 5, none⟩)) rfl (by kernel_rfl) (fun _ _ _ h => h) ⟨by rfl, fun W => ?_⟩ (fun _ => hS0) ?_
      · go_simp
      simp only [Act.put, List.setIfInBounds_toArray, List.set_cons_zero, List.set_cons_succ]
      refine wpBut_take 24 (v := .int .i64 hi) rfl (by kernel_rfl) (fun _ _ _ h => h) ⟨by rfl, fun W hW => ?_⟩ hS0 ?_
      · obtain ⟨s9, s0, s1, s2, s3, s4, s5⟩ := hW
        go_simp
      simp only [Act.put, List.setIfInBounds_toArray, List.set_cons_zero, List.set_cons_succ]
      refine wpBut_pure 25 (v := .int .i64 X2) rfl (by kernel_rfl) (fun _ _ _ h => h) ⟨by rfl, fun W => ?_⟩ (fun _ => hS0) ?_
      · go_simp
      simp only [Act.put, List.setIfInBounds_toArray, List.set_cons_zero, List.set_cons_succ]
      refine wpBut_pure 26 (v := .pointer (some ⟨w1.heap.size, 2, none⟩)) rfl (by kernel_rfl) (fun _ _ _ h => h) ⟨by rfl, fun W => ?_⟩ (fun _ => hS0) ?_
      · go_simp
      simp only [Act.put, List.setIfInBounds_toArray, List.set_cons_zero, List.set_cons_succ]
      refine wpBut_take 27 (v := .int .i64 T) rfl (by kernel_rfl) (fun _ _ _ h => h) ⟨by rfl, fun W hW => ?_⟩ hS0 ?_
      · obtain ⟨s9, s0, s1, s2, s3, s4, s5⟩ := hW
        go_simp
      simp only [Act.put, List.setIfInBounds_toArray, List.set_cons_zero, List.set_cons_succ]
      refine wpBut_pure 28 (v := .int .i64 (rr : Int)) rfl (by kernel_rfl) (fun _ _ _ h => h) ⟨by rfl, fun W => ?_⟩ (fun _ => hS0) ?_
      · go_simp
      simp only [Act.put, List.setIfInBounds_toArray, List.set_cons_zero, List.set_cons_succ]
      refine wpBut_pure 29 (v := .pointer (some ⟨w1.heap.size, 4, none⟩)) rfl (by kernel_rfl) (fun _ _ _ h => h) ⟨by rfl, fun W => ?_⟩ (fun _ => hS0) ?_
      · go_simp
      simp only [Act.put, List.setIfInBounds_toArray, List.set_cons_zero, List.set_cons_succ]
      refine wpBut_take 30 (v := .int .i64 lo) rfl (by kernel_rfl) (fun _ _ _ h => h) ⟨by rfl, fun W hW => ?_⟩ hS0 ?_
      · obtain ⟨s9, s0, s1, s2, s3, s4, s5⟩ := hW
        go_simp
      simp only [Act.put, List.setIfInBounds_toArray, List.set_cons_zero, List.set_cons_succ]
      refine wpBut_pure 31 (v := .int .i64 Y2) rfl (by kernel_rfl) (fun _ _ _ h => h) ⟨by rfl, fun W => ?_⟩ (fun _ => hS0) ?_
      · go_simp
      simp only [Act.put, List.setIfInBounds_toArray, List.set_cons_zero, List.set_cons_succ]
      refine wpBut_pure 32 (v := .int .i64 (T - Y2)) rfl (by kernel_rfl) (fun _ _ _ h => h) ⟨by rfl, fun W => ?_⟩ (fun _ => hS0) ?_
      · go_simp
      simp only [Act.put, List.setIfInBounds_toArray, List.set_cons_zero, List.set_cons_succ]
      refine wpBut_pure 33 (v := .int .i64 HBv) rfl (by kernel_rfl) (fun _ _ _ h => h) ⟨by rfl, fun W => ?_⟩ (fun _ => hS0) ?_
      · go_simp
      simp only [Act.put, List.setIfInBounds_toArray, List.set_cons_zero, List.set_cons_succ]
      have ka := k11.drew
      have oka : Ok wA wA.drew := (Ok.refl wA).drew
      clear a0 a1 a2 a3 a4 a5
      refine wpBut_two 2 8 rfl rfl (by kernel_rfl) (fun K hK => ?_) (fun K hK => ?_)
      · go_simp
        have hz20 : wA.drew.heap.size = wA.heap.size := by simp
        have k20 := ka.alloc (.cells #[] 3)
        have ok20 := oka.alloc (.cells #[] 3)
        have o20 : (wA.drew.alloc (.cells #[] 3)).ownsRow wA.heap.size 3 1 (.slice (some ⟨wA.heap.size, 0, none⟩) 0 0) 0 (ints []) := ⟨rfl, .inr ⟨_, 0, #[], rfl, by omega, by rw [← hz20]; exact heap_alloc_new wA.drew _, Nat.le_refl _, Nat.zero_le _, rfl, rfl⟩⟩
        refine hK.out _ _ ⟨ok20, k20.at_ rfl, k20.at_ rfl, k20.at_ rfl, k20.at_ rfl, k20.at_ rfl, k20.at_ rfl⟩ fun hS20 => ?_
        clear hK K
        refine wpBut_two 5 8 rfl rfl (by kernel_rfl) (fun K hK => ?_) (fun K hK => ?_)
        · rw [if_pos (by rfl)]
          refine wp_append_rd _ _ _ 22 rfl wA.heap.size 3 i0 (.int .i64 0) 1 8 Tryd.underlying22 hi0 hz0 hz1 hz2 rfl (by decide) _ 0 (ints []) rfl o20 w1.heap.size P q d (ints p) rfl (HRD.out.below (ok11.step ok20)) (ints_one p) (by unfold maxLen; omega) (by omega) (Below.size ok20) ?_
          intro v21 w21 o21 g21
          have k21 := k20.grown g21 (own_ne_blk o20 k20 (by decide))
          have ok21 : Ok wA w21 := (show Below wA.heap.size wA _ from ok20).grown g21 (Below.size ok20) (fun r e => (o20.lt r e).1)
          rw [Nat.zero_add] at o21
          obtain ⟨A21, c21, rfl, -, -, -⟩ := own_slice o21
          refine hK.out _ _ ⟨ok21, k21.at_ rfl, k21.at_ rfl, k21.at_ rfl, k21.at_ rfl, k21.at_ rfl, k21.at_ rfl⟩ fun hS21 => ?_
          clear hK K
          simp only [Act.put, List.setIfInBounds_toArray, List.set_cons_zero, List.set_cons_succ]
          refine wpBut_one 8 rfl (by kernel_rfl) fun K hK => ?_
          go_simp
          have hz22 : w21.heap.size = w21.heap.size := by simp
          have k22 := k21.alloc (.cells #[.int .i64 0, .int .i64 (m : Int)] 3)
          have ok22 := ok21.alloc (.cells #[.int .i64 0, .int .i64 (m : Int)] 3)
          have r22 : Reads (w21.alloc (.cells #[.int .i64 0, .int .i64 (m : Int)] 3)) (w21.alloc (.cells #[.int .i64 0, .int .i64 (m : Int)] 3)).heap.size 1 (some ⟨w21.heap.size, 0, none⟩) 2 (ints [0, (m : Int)]) := ⟨rfl, fun _ => ⟨_, rfl, by rw [← hz22]; simp, fun j u hu => by rw [addr_add0, ← hz22]; exact (Blk.new w21 3 _).at_ (by simpa [ints] using hu)⟩⟩
          refine hK.out _ _ ⟨ok22, k22.at_ rfl, k22.at_ rfl, k22.at_ rfl, k22.at_ rfl, k22.at_ rfl, k22.at_ rfl⟩ fun hS22 => ?_
          clear hK K
          have o22 := o21.alloc (.cells #[.int .i64 0, .int .i64 (m : Int)] 3)
          refine wpBut_one 9 rfl (by kernel_rfl) fun K hK => ?_
          rw [if_pos (by rfl)]
          refine wp_append_rd _ _ _ 22 rfl wA.heap.size 3 i0 (.int .i64 0) 1 8 Tryd.underlying22 hi0 hz0 hz1 hz2 rfl (by decide) _ q (ints [] ++ ints p) rfl o22 _ _ 2 2 (ints [0, (m : Int)]) rfl r22 (ints_one _) (by unfold maxLen; omega) (by omega) (Below.size ok22) ?_
          intro v23 w23 o23 g23
          have k23 := k22.grown g23 (own_ne_blk o22 k22 (by decide))
          have ok23 : Ok wA w23 := (show Below wA.heap.size wA _ from ok22).grown g23 (Below.size ok22) (fun r e => (o22.lt r e).1)
          obtain ⟨A23, c23, rfl, -, -, -⟩ := own_slice o23
          refine hK.out _ _ ⟨ok23, k23.at_ rfl, k23.at_ rfl, k23.at_ rfl, k23.at_ rfl, k23.at_ rfl, k23.at_ rfl⟩ fun hS23 => ?_
          clear hK K
          simp only [Act.put, List.setIfInBounds_toArray, List.set_cons_zero, List.set_cons_succ]
          have r23 : Reads w23 w23.heap.size 1 A23 (q + 2) (ints (p ++ [0, (m : Int)])) := by
            have := Reads.of_own o23
            rw [show ints [] ++ ints p ++ ints [0, (m : Int)] = ints (p ++ [0, (m : Int)]) by simp [ints]] at this
            exact this
          refine wpBut_one 34 rfl (by kernel_rfl) fun K hK => ?_
          go_simp
          go_at_call 16
          refine (HBT.out _ A23 c23 (ok11.step ok23) r23).mono ?_
          rintro E7 wX ⟨rfl, bX⟩
          have kX := k23.thru bX
          have okX := Ok.step ok23 bX
          refine hK.out _ _ ⟨okX, kX.at_ rfl, kX.at_ rfl, kX.at_ rfl, kX.at_ rfl, kX.at_ rfl, kX.at_ rfl⟩ fun hSX => ?_
          clear hK K
          refine wpBut_pure 35 (v := .tuple #[.int .i64 SUM, .int .i64 0]) rfl (by kernel_rfl) (fun _ _ _ h => h) ⟨by rfl, fun W => ?_⟩ (fun _ => hSX) ?_
          · go_simp
          simp only [Act.put, List.setIfInBounds_toArray, List.set_cons_zero, List.set_cons_succ]
          refine wpBut_pure 36 (v := .int .i64 SUM) rfl (by kernel_rfl) (fun _ _ _ h => h) ⟨by rfl, fun W => ?_⟩ (fun _ => hSX) ?_
          · go_simp
          simp only [Act.put, List.setIfInBounds_toArray, List.set_cons_zero, List.set_cons_succ]
          refine wpBut_pure 37 (v := .int .i64 0) rfl (by kernel_rfl) (fun _ _ _ h => h) ⟨by rfl, fun W => ?_⟩ (fun _ => hSX) ?_
          · go_simp
          simp only [Act.put, List.setIfInBounds_toArray, List.set_cons_zero, List.set_cons_succ]
          refine wpBut_seq 38 (g := 1) (by decide) (by decide) (by rfl) (by kernel_rfl) ?_
          simp only [List.drop_succ_cons, List.drop_zero]
          go_wp2_with fail
          go_meet
          exact ⟨rfl, rfl, okX⟩
        · go_simp
          have hz22 : (wA.drew.alloc (.cells #[] 3)).heap.size = wA.heap.size + 1 := by simp
          have k22 := k20.alloc (.cells #[.int .i64 0, .int .i64 (m : Int)] 3)
          have ok22 := ok20.alloc (.cells #[.int .i64 0, .int .i64 (m : Int)] 3)
          have r22 : Reads ((wA.drew.alloc (.cells #[] 3)).alloc (.cells #[.int .i64 0, .int .i64 (m : Int)] 3)) ((wA.drew.alloc (.cells #[] 3)).alloc (.cells #[.int .i64 0, .int .i64 (m : Int)] 3)).heap.size 1 (some ⟨wA.heap.size + 1, 0, none⟩) 2 (ints [0, (m : Int)]) := ⟨rfl, fun _ => ⟨_, rfl, by rw [← hz22]; simp, fun j u hu => by rw [addr_add0, ← hz22]; exact (Blk.new (wA.drew.alloc (.cells #[] 3)) 3 _).at_ (by simpa [ints] using hu)⟩⟩
          refine hK.out _ _ ⟨ok22, k22.at_ rfl, k22.at_ rfl, k22.at_ rfl, k22.at_ rfl, k22.at_ rfl, k22.at_ rfl⟩ fun hS22 => ?_
          clear hK K
          have o22 := o20.alloc (.cells #[.int .i64 0, .int .i64 (m : Int)] 3)
          refine wpBut_one 5 rfl (by kernel_rfl) fun K hK => ?_
          rw [if_pos (by rfl)]
          refine wp_append_rd _ _ _ 22 rfl wA.heap.size 3 i0 (.int .i64 0) 1 8 Tryd.underlying22 hi0 hz0 hz1 hz2 rfl (by decide) _ 0 (ints []) rfl o22 w1.heap.size P q d (ints p) rfl (HRD.out.below (ok11.step ok22)) (ints_one p) (by unfold maxLen; omega) (by omega) (Below.size ok22) ?_
          intro v23 w23 o23 g23
          have k23 := k22.grown g23 (own_ne_blk o22 k22 (by decide))
          have ok23 : Ok wA w23 := (show Below wA.heap.size wA _ from ok22).grown g23 (Below.size ok22) (fun r e => (o22.lt r e).1)
          have r23' : Reads w23 w23.heap.size 1 (some ⟨wA.heap.size + 1, 0, none⟩) 2 (ints [0, (m : Int)]) := reads_far r22 g23 (by intro e; injection e with e; simp at e)
          rw [Nat.zero_add] at o23
          obtain ⟨A23, c23, rfl, -, -, -⟩ := own_slice o23
          refine hK.out _ _ ⟨ok23, k23.at_ rfl, k23.at_ rfl, k23.at_ rfl, k23.at_ rfl, k23.at_ rfl, k23.at_ rfl⟩ fun hS23 => ?_
          clear hK K
          simp only [Act.put, List.setIfInBounds_toArray, List.set_cons_zero, List.set_cons_succ]
          refine wpBut_one 9 rfl (by kernel_rfl) fun K hK => ?_
          rw [if_pos (by rfl)]
          refine wp_append_rd _ _ _ 22 rfl wA.heap.size 3 i0 (.int .i64 0) 1 8 Tryd.underlying22 hi0 hz0 hz1 hz2 rfl (by decide) _ q (ints [] ++ ints p) rfl o23 _ _ 2 2 (ints [0, (m : Int)]) rfl r23' (ints_one _) (by unfold maxLen; omega) (by omega) (Below.size ok23) ?_
          intro v24 w24 o24 g24
          have k24 := k23.grown g24 (own_ne_blk o23 k23 (by decide))
          have ok24 : Ok wA w24 := (show Below wA.heap.size wA _ from ok23).grown g24 (Below.size ok23) (fun r e => (o23.lt r e).1)
          obtain ⟨A24, c24, rfl, -, -, -⟩ := own_slice o24
          refine hK.out _ _ ⟨ok24, k24.at_ rfl, k24.at_ rfl, k24.at_ rfl, k24.at_ rfl, k24.at_ rfl, k24.at_ rfl⟩ fun hS24 => ?_
          clear hK K
          simp only [Act.put, List.setIfInBounds_toArray, List.set_cons_zero, List.set_cons_succ]
          have r24 : Reads w24 w24.heap.size 1 A24 (q + 2) (ints (p ++ [0, (m : Int)])) := by
            have := Reads.of_own o24
            rw [show ints [] ++ ints p ++ ints [0, (m : Int)] = ints (p ++ [0, (m : Int)]) by simp [ints]] at this
            exact this
          refine wpBut_one 34 rfl (by kernel_rfl) fun K hK => ?_
          go_simp
          go_at_call 16
          refine (HBT.out _ A24 c24 (ok11.step ok24) r24).mono ?_
          rintro E7 wX ⟨rfl, bX⟩
          have kX := k24.thru bX
          have okX := Ok.step ok24 bX
          refine hK.out _ _ ⟨okX, kX.at_ rfl, kX.at_ rfl, kX.at_ rfl, kX.at_ rfl, kX.at_ rfl, kX.at_ rfl⟩ fun hSX => ?_
          clear hK K
          refine wpBut_pure 35 (v := .tuple #[.int .i64 SUM, .int .i64 0]) rfl (by kernel_rfl) (fun _ _ _ h => h) ⟨by rfl, fun W => ?_⟩ (fun _ => hSX) ?_
          · go_simp
          simp only [Act.put, List.setIfInBounds_toArray, List.set_cons_zero, List.set_cons_succ]
          refine wpBut_pure 36 (v := .int .i64 SUM) rfl (by kernel_rfl) (fun _ _ _ h => h) ⟨by rfl, fun W => ?_⟩ (fun _ => hSX) ?_
          · go_simp
          simp only [Act.put, List.setIfInBounds_toArray, List.set_cons_zero, List.set_cons_succ]
          refine wpBut_pure 37 (v := .int .i64 0) rfl (by kernel_rfl) (fun _ _ _ h => h) ⟨by rfl, fun W => ?_⟩ (fun _ => hSX) ?_
          · go_simp
          simp only [Act.put, List.setIfInBounds_toArray, List.set_cons_zero, List.set_cons_succ]
          refine wpBut_seq 38 (g := 1) (by decide) (by decide) (by rfl) (by kernel_rfl) ?_
          simp only [List.drop_succ_cons, List.drop_zero]
          go_wp2_with fail
          go_meet
          exact ⟨rfl, rfl, okX⟩
      · go_simp
        have hz20 : wA.drew.heap.size = wA.heap.size := by simp
        have k20 := ka.alloc (.cells #[.int .i64 0, .int .i64 (m : Int)] 3)
        have ok20 := oka.alloc (.cells #[.int .i64 0, .int .i64 (m : Int)] 3)
        have r20 : Reads (wA.drew.alloc (.cells #[.int .i64 0, .int .i64 (m : Int)] 3)) (wA.drew.alloc (.cells #[.int .i64 0, .int .i64 (m : Int)] 3)).heap.size 1 (some ⟨wA.heap.size, 0, none⟩) 2 (ints [0, (m : Int)]) := ⟨rfl, fun _ => ⟨_, rfl, by rw [← hz20]; simp, fun j u hu => by rw [addr_add0, ← hz20]; exact (Blk.new wA.drew 3 _).at_ (by simpa [ints] using hu)⟩⟩
        refine hK.out _ _ ⟨ok20, k20.at_ rfl, k20.at_ rfl, k20.at_ rfl, k20.at_ rfl, k20.at_ rfl, k20.at_ rfl⟩ fun hS20 => ?_
        clear hK K
        refine wpBut_one 2 rfl (by kernel_rfl) fun K hK => ?_
        go_simp
        have hz21 : (wA.drew.alloc (.cells #[.int .i64 0, .int .i64 (m : Int)] 3)).heap.size = wA.heap.size + 1 := by simp
        have k21 := k20.alloc (.cells #[] 3)
        have ok21 := ok20.alloc (.cells #[] 3)
        have o21 : ((wA.drew.alloc (.cells #[.int .i64 0, .int .i64 (m : Int)] 3)).alloc (.cells #[] 3)).ownsRow wA.heap.size 3 1 (.slice (some ⟨wA.heap.size + 1, 0, none⟩) 0 0) 0 (ints []) := ⟨rfl, .inr ⟨_, 0, #[], rfl, by omega, by rw [← hz21]; exact heap_alloc_new (wA.drew.alloc (.cells #[.int .i64 0, .int .i64 (m : Int)] 3)) _, Nat.le_refl _, Nat.zero_le _, rfl, rfl⟩⟩
        refine hK.out _ _ ⟨ok21, k21.at_ rfl, k21.at_ rfl, k21.at_ rfl, k21.at_ rfl, k21.at_ rfl, k21.at_ rfl⟩ fun hS21 => ?_
        clear hK K
        refine wpBut_one 5 rfl (by kernel_rfl) fun K hK => ?_
        rw [if_pos (by rfl)]
        refine wp_append_rd _ _ _ 22 rfl wA.heap.size 3 i0 (.int .i64 0) 1 8 Tryd.underlying22 hi0 hz0 hz1 hz2 rfl (by decide) _ 0 (ints []) rfl o21 w1.heap.size P q d (ints p) rfl (HRD.out.below (ok11.step ok21)) (ints_one p) (by unfold maxLen; omega) (by omega) (Below.size ok21) ?_
        intro v22 w22 o22 g22
        have k22 := k21.grown g22 (own_ne_blk o21 k21 (by decide))
        have ok22 : Ok wA w22 := (show Below wA.heap.size wA _ from ok21).grown g22 (Below.size ok21) (fun r e => (o21.lt r e).1)
        have r22' : Reads w22 w22.heap.size 1 (some ⟨wA.heap.size, 0, none⟩) 2 (ints [0, (m : Int)]) := reads_far ((r20.alloc (Nat.le_refl _) (.cells #[] 3)).more (by simp)) g22 (by intro e; injection e with e; simp at e)
        rw [Nat.zero_add] at o22
        obtain ⟨A22, c22, rfl, -, -, -⟩ := own_slice o22
        refine hK.out _ _ ⟨ok22, k22.at_ rfl, k22.at_ rfl, k22.at_ rfl, k22.at_ rfl, k22.at_ rfl, k22.at_ rfl⟩ fun hS22 => ?_
        clear hK K
        simp only [Act.put, List.setIfInBounds_toArray, List.set_cons_zero, List.set_cons_succ]
        refine wpBut_one 9 rfl (by kernel_rfl) fun K hK => ?_
        rw [if_pos (by rfl)]
        refine wp_append_rd _ _ _ 22 rfl wA.heap.size 3 i0 (.int .i64 0) 1 8 Tryd.underlying22 hi0 hz0 hz1 hz2 rfl (by decide) _ q (ints [] ++ ints p) rfl o22 _ _ 2 2 (ints [0, (m : Int)]) rfl r22' (ints_one _) (by unfold maxLen; omega) (by omega) (Below.size ok22) ?_
        intro v23 w23 o23 g23
        have k23 := k22.grown g23 (own_ne_blk o22 k22 (by decide))
        have ok23 : Ok wA w23 := (show Below wA.heap.size wA _ from ok22).grown g23 (Below.size ok22) (fun r e => (o22.lt r e).1)
        obtain ⟨A23, c23, rfl, -, -, -⟩ := own_slice o23
        refine hK.out _ _ ⟨ok23, k23.at_ rfl, k23.at_ rfl, k23.at_ rfl, k23.at_ rfl, k23.at_ rfl, k23.at_ rfl⟩ fun hS23 => ?_
        clear hK K
        simp only [Act.put, List.setIfInBounds_toArray, List.set_cons_zero, List.set_cons_succ]
        have r23 : Reads w23 w23.heap.size 1 A23 (q + 2) (ints (p ++ [0, (m : Int)])) := by
          have := Reads.of_own o23
          rw [show ints [] ++ ints p ++ ints [0, (m : Int)] = ints (p ++ [0, (m : Int)]) by simp [ints]] at this
          exact this
        refine wpBut_one 34 rfl (by kernel_rfl) fun K hK => ?_
        go_simp
        go_at_call 16
        refine (HBT.out _ A23 c23 (ok11.step ok23) r23).mono ?_
        rintro E7 wX ⟨rfl, bX⟩
        have kX := k23.thru bX
        have okX := Ok.step ok23 bX
        refine hK.out _ _ ⟨okX, kX.at_ rfl, kX.at_ rfl, kX.at_ rfl, kX.at_ rfl, kX.at_ rfl, kX.at_ rfl⟩ fun hSX => ?_
        clear hK K
        refine wpBut_pure 35 (v := .tuple #[.int .i64 SUM, .int .i64 0]) rfl (by kernel_rfl) (fun _ _ _ h => h) ⟨by rfl, fun W => ?_⟩ (fun _ => hSX) ?_
        · go_simp
        simp only [Act.put, List.setIfInBounds_toArray, List.set_cons_zero, List.set_cons_succ]
        refine wpBut_pure 36 (v := .int .i64 SUM) rfl (by kernel_rfl) (fun _ _ _ h => h) ⟨by rfl, fun W => ?_⟩ (fun _ => hSX) ?_
        · go_simp
        simp only [Act.put, List.setIfInBounds_toArray, List.set_cons_zero, List.set_cons_succ]
        refine wpBut_pure 37 (v := .int .i64 0) rfl (by kernel_rfl) (fun _ _ _ h => h) ⟨by rfl, fun W => ?_⟩ (fun _ => hSX) ?_
        · go_simp
        simp only [Act.put, List.setIfInBounds_toArray, List.set_cons_zero, List.set_cons_succ]
        refine wpBut_seq 38 (g := 1) (by decide) (by decide) (by rfl) (by kernel_rfl) ?_
        simp only [List.drop_succ_cons, List.drop_zero]
        go_wp2_with fail
        go_meet
        exact ⟨rfl, rfl, okX⟩
    obtain ⟨rfl, rfl, bx⟩ := hcut
    have ok12 := ok11.step bx
    have k12 := k11.thru bx
    have b3 : wc.cell? ⟨w1.heap.size, 3, none⟩ = some (.int .i64 (m : Int)) := k12.at_ rfl
    have g1 : ((m : Int) != (m : Int)) = false := by simp
    have g2 : (SUM != SUM) = false := by simp
    have HR3 := Lib.hid (HR1.out.below bx)
    have HR4 := Lib.hid (HR2.out.below bx)
    have hpi : (pp : Int) ≤ (m : Int) := by omega
    obtain ⟨ad1, hA1, -, -, -⟩ := HR3.out.int_at (show 0 < m by omega)
    subst hA1
    have hpc : (pp : Int) ≤ (c1 : Int) := by omega
    have hr5 := reads_take HR3.out hpm.1
    have HR5 := Lib.hid hr5
    clear hr5
    go_wp2_with fail
    refine (sameInts_any _ _ _ _ _ _ (XS.take pp) (XS.take pp) _ _ HR5.out HR4.out (by omega) (by omega)).mono ?_
    rintro E wY ⟨rfl, dq, rfl⟩
    rw [show decide (XS.take pp = XS.take pp) = true from decide_eq_true rfl]
    have ok13 : Ok w1 (wc.drewN dq) := Ok.drewN ok12 dq
    generalize wc.drewN dq = wZ at *
    go_wp2_with fail
    refine (HV.out _ ok13).mono ?_
    rintro E v3 ⟨rfl, c3⟩
    have okv3 := ok1.step (ok13.step c3)
    go_wp2_with fail
    go_ret
    exact ⟨rfl, okv3⟩
  · have hm0 : m / 2 = 0 := by omega
    rw [hm0] at qq qw
    have ok3 := (Ok.refl w1).alloc (.cells (spC (seedOf x) P q d T (m : Int) lo hi) 24)
    generalize seedOf x = s at *
    clear hnet hI0 hp hrd HM hm hlo hhi hq ht0 ht1 hpl hs
    go_wp2_with fail
    refine (HV.out _ ok3).mono ?_
    rintro E v3 ⟨rfl, c3⟩
    have okv3 := ok1.step (ok3.step c3)
    go_wp2_with fail
    go_ret
    exact ⟨rfl, okv3⟩
theorem splitHalves_walk (A : Option Addr) (n c : Nat) (l : List Int) (w : World) (_ : n ≤ c) (_ : n ≤ maxLen) (hl : Reads w w.heap.size 1 A n (ints l)) (hI : ∀ x ∈ l, I64 x) (hK : Consts w) (h0 : 0 < w.heap.size) :
    Calls Tryd.prog 5 #[.slice A n c] w fun E W' => E = .returned (.bool true) ∧ Below w.heap.size w W' := splitHalves_any A n c l w hl hI hK h0
end Go.Proofs.YtkchalnohkfhbaaDoor
