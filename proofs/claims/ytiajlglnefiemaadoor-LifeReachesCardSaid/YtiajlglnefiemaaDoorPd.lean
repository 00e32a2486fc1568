/- The walks of package perm: places and All. Conditions as in the texts before. -/
import Derived.RangeFuncBox
import Derived.RangeFuncLeaves
import Derived.Shelf.Abstract
import Derived.OwnWalkIn
import Derived.TacticsInMore
import Derived.LoopNIn
import Derived.LoopIn
import Derived.Maps.AppendAt
import Derived.Test.YtiajlglnefiemaaDoorPc
set_option linter.unusedSimpArgs false
set_option linter.unusedVariables false
namespace Go.Proofs.YtiajlglnefiemaaDoor
open Go.RowKit Go.Shelf
attribute [local go_sem] Oper.semAt_some

/-- what has come when k rounds are over -/
def upto {α : Type} (f : Nat → α) (k : Nat) : List α := (List.range k).map f
theorem upto_succ {α : Type} (f : Nat → α) (k : Nat) : upto f (k + 1) = upto f k ++ [f k] := by simp [upto, List.range_succ]
theorem upto_length {α : Type} (f : Nat → α) (k : Nat) : (upto f k).length = k := by simp [upto]
theorem upto_prefix {α : Type} (f : Nat → α) {j n : Nat} (h : j ≤ n) : upto f j <+: upto f n := by
  refine ⟨(List.range' j (n - j)).map f, ?_⟩
  unfold upto
  rw [← List.map_append, List.range_eq_range', List.range_eq_range']
  congr 1
  have := List.range'_append_1 (s := 0) (m := j) (n := n - j)
  rw [show j + (n - j) = n by omega, Nat.zero_add] at this
  exact this

abbrev enc1 (x : Nat) : Array Value := #[.int .i64 (x : Int)]
theorem grownBy_of_below {W W' : World} (h : Below W.heap.size W W') : W.grownBy W' none := ⟨h.os, h.tape, h.output, h.size, fun k hk _ => h.block k hk⟩
/-- a round keeps the iterator's boxes, and what lay before -/
structure KeepIt (B gN gn : Nat) (W W' : World) : Prop where
  net : ∀ cs, Blk W gN 67 cs → Blk W' gN 67 cs
  num : ∀ cs, Blk W gn 3 cs → Blk W' gn 3 cs
  below : Below B W W'
set_option maxRecDepth 100000 in
set_option maxHeartbeats 2000000 in
theorem places_in (fu : Nat) (hfu : 2 ≤ fu) (lo gN gn : Nat) {s : ByteArray} {A : Option Addr} {n c : Nat} {l : List Int} {wS : World} (h : Net s A n l wS) (e N : Nat) (he : e ≤ 8) (hN : N ≤ 2 ^ e * 2 ^ e)
    (J Jx : List Nat → World → Prop) (W : World) (hJa : ∀ s A B, J s A → Below A.heap.size A B → J s B)
    (hY : ∀ pre x W, J pre W → pre.length < N → YieldAt Fence.wide (fu - 1) Tryd.prog lo (enc1 x) W fun E W' =>
      (E = .returned (.bool true) ∧ J (pre ++ [x]) W' ∧ KeepIt wS.heap.size gN gn W W') ∨ (E = .returned (.bool false) ∧ Jx (pre ++ [x]) W'))
    (h1 : Blk W gN 67 (netCells s A n c (2 ^ e))) (h2 : Blk W gn 3 #[.int .i64 (N : Int)]) (hb : Below wS.heap.size wS W) (h0 : J [] W) :
    CallsIn Fence.wide fu Tryd.prog 76 #[.func (.yield lo) #[] #[], .pointer (some ⟨gn, 0, none⟩), .pointer (some ⟨gN, 0, none⟩)] W fun E W' => (∃ v, E = .returned v) ∧
      ((∃ ys, ys = upto (place (mixF (rnd s l (2 ^ e)) (2 ^ e)) N) N ∧ J ys W') ∨ (∃ pre, (∃ j, j ≤ N ∧ pre = upto (place (mixF (rnd s l (2 ^ e)) (2 ^ e)) N) j) ∧ Jx pre W')) := by
  have hw := fun (W : World) (x : Nat) (hW : Net s A n l W) (hx : x < N) => walkMix_any (c := c) hW e N x he hN hx
  have hN6 : N ≤ 65536 := Nat.le_trans hN (Nat.mul_le_mul (Nat.pow_le_pow_right (n := 2) (by omega) he) (Nat.pow_le_pow_right (n := 2) (by omega) he))
  unfold netCells at h1 hw
  generalize place (mixF (rnd s l (2 ^ e)) (2 ^ e)) N = f at *
  generalize 2 ^ e = B at *
  have HW := Lib.hid hw
  clear hw
  have hn0 := h2.at_ (i := 0) rfl
  refine callsIn_of_wp Tryd.func76 rfl trivial ?_ rfl
  simp only [Tryd.ntmps76, List.size_toArray, List.length_cons, List.length_nil, Nat.reduceAdd, Nat.reduceSub, Array.replicate_succ, Array.replicate_zero, List.push_toArray, List.append_toArray, List.nil_append, List.cons_append]
  gi_wp2
  gi_loopw [6] (fun i wr => ∃ j : Nat, j ≤ N ∧ i = .int .i64 j ∧ J (upto f j) wr ∧ Blk wr gN 67 #[.string s, .slice A n c, .int .i64 (B : Int)] ∧ Blk wr gn 3 #[.int .i64 (N : Int)] ∧ Below wS.heap.size wS wr)
    (fun i _ => (N - intOf i).toNat)
  case atStart => exact ⟨0, by omega, rfl, h0, h1, h2, hb⟩
  case round =>
    clear hn0 h0 h1 h2 hb
    obtain ⟨j, hj, rfl, hJs, h1, h2, hb⟩ := hrel
    have e0 : wr.cell? ⟨gN, 0, none⟩ = some (.string s) := h1.at_ rfl
    have e1 : wr.cell? ⟨gN, 1, none⟩ = some (.slice A n c) := h1.at_ rfl
    have e2 : wr.cell? ⟨gN, 2, none⟩ = some (.int .i64 (B : Int)) := h1.at_ rfl
    have e3 : wr.cell? ⟨gn, 0, none⟩ = some (.int .i64 (N : Int)) := h2.at_ rfl
    by_cases hlt : j < N
    · have hji : (j : Int) < (N : Int) := by omega
      gi_wp2
      refine ⟨trivial, fun _ => by omega, ?_⟩
      refine (callsIn_wide.2 (HW.out wr j (h.below hb) hlt)).mono ?_
      rintro E w2 ⟨rfl, b2⟩
      have hJ2 := hJa _ _ _ hJs b2
      have k1 := h1.thru b2
      have k2 := h2.thru b2
      have hb2 := hb.trans (b2.mono hb.size)
      obtain ⟨fn, tmps, assign, body, hy, hR⟩ := hY _ (f j) w2 hJ2 (by rw [upto_length]; omega)
      dsimp only [enc1] at hy
      gi_wp2
      refine ⟨fun _ => by omega, ?_⟩
      refine hR.mono ?_
      rintro E W3 (⟨rfl, hJ3, hk3⟩ | ⟨rfl, hJx3⟩)
      · gi_wp2
        go_roundw
        case rel => exact ⟨j + 1, by omega, by simp, by rw [upto_succ]; exact hJ3, hk3.net _ k1, hk3.num _ k2, hb2.trans hk3.below⟩
        case measure => simp [intOf]; omega
      · gi_wp2
        refine bodyPost_ret (results_none rfl _ _ _) rfl ?_
        exact ⟨⟨_, rfl⟩, .inr ⟨_, ⟨j + 1, by omega, (upto_succ _ _).symm⟩, hJx3⟩⟩
    · have hj' : j = N := by omega
      have HJ := Lib.hid hj'
      clear hj'
      have hji : ¬ (j : Int) < (N : Int) := by omega
      gi_wp2
      go_end0
      exact ⟨⟨_, rfl⟩, .inl (by rw [← HJ.out]; exact hJs)⟩

theorem places_stops (fu : Nat) (hfu : 2 ≤ fu) (gN gn : Nat) {s : ByteArray} {A : Option Addr} {n c : Nat} {l : List Int} {wS : World} (h : Net s A n l wS) (e N : Nat) (he : e ≤ 8) (hN : N ≤ 2 ^ e * 2 ^ e) (w : World)
    (h1 : Blk w gN 67 (netCells s A n c (2 ^ e))) (h2 : Blk w gn 3 #[.int .i64 (N : Int)]) (hb : Below wS.heap.size wS w) :
    SeqStopsK Fence.wide fu Tryd.prog 76 #[.pointer (some ⟨gn, 0, none⟩), .pointer (some ⟨gN, 0, none⟩)] enc1 (KeepIt wS.heap.size gN gn) (fun ys => ys = upto (place (mixF (rnd s l (2 ^ e)) (2 ^ e)) N) N) (fun pre => pre <+: upto (place (mixF (rnd s l (2 ^ e)) (2 ^ e)) N) N) N w := fun l J Jx W hW hJ hJx hY h0 => by
  refine (places_in fu hfu l gN gn (c := c) h e N he hN J Jx W (fun s A o h hb => hJ s A _ none h (grownBy_of_below hb) (fun r e => by cases e)) hY (h1.below hW h1.lt) (h2.below hW h2.lt) (hb.trans (hW.mono hb.size)) h0).mono ?_
  rintro E W' ⟨he, ⟨ys, hys, hj⟩ | ⟨pre, ⟨j, hj, hp⟩, hx⟩⟩
  · exact ⟨he, .inl ⟨ys, hys, hj⟩⟩
  · exact ⟨he, .inr ⟨pre, by rw [hp]; exact upto_prefix _ hj, hx⟩⟩
theorem keepIt_t (B gN gn : Nat) {X Y Z : World} (h : KeepIt B gN gn X Y) (k : KeepIt B gN gn Y Z) : KeepIt B gN gn X Z := ⟨fun cs hc => k.net cs (h.net cs hc), fun cs hc => k.num cs (h.num cs hc), h.below.trans k.below⟩
theorem blk_putObj {W : World} {g : Nat} {t : TypeId} {cs : Array Value} (hc : Blk W g t cs) {l : Nat} {o : Obj} (o' : Obj) (hl : W.heap[l]? = some o) (ho : o.isCells = false) : Blk (W.putObj l o') g t cs := by
  refine hc.grown (grownBy_putObj' W l o') ?_
  rintro e
  injection e with e
  subst e
  unfold Blk at hc
  rw [hc] at hl
  injection hl with hl
  subst hl
  cases ho
theorem keepIt_b (B gN gn : Nat) (W : World) (l : Nat) (o o' : Obj) (hB : B ≤ l) (hl : W.heap[l]? = some o) (ho : o.isCells = false) : KeepIt B gN gn W (W.putObj l o') :=
  ⟨fun cs hc => blk_putObj hc o' hl ho, fun cs hc => blk_putObj hc o' hl ho, (Below.refl B W).grown (grownBy_putObj' W l o') (by have := (Array.getElem?_eq_some_iff.1 hl).1; omega) (fun k e => by cases e; omega)⟩
set_option maxRecDepth 100000 in
set_option maxHeartbeats 2000000 in
theorem places_any (cs : Array Value) (N : Int) (w : World) :
    Calls Tryd.prog 44 #[.agg cs, .int .i64 N] w fun E W' => E = .returned (.func (.func 76) #[] #[.pointer (some ⟨w.heap.size + 1, 0, none⟩), .pointer (some ⟨w.heap.size, 0, none⟩)]) ∧ W' = (w.alloc (.cells cs 67)).alloc (.cells #[.int .i64 N] 3) := by
  go_enter Tryd.func44, Tryd.ntmps44
  go_wp2
  go_ret
  exact ⟨rfl, rfl⟩

/-- what All returns, if it does not fail -/
noncomputable def allV (s : ByteArray) (l : List Int) (N : Nat) : List Nat := upto (place (mixF (netF s l N) (2 ^ sideE N)) N) N
theorem allV_length (s : ByteArray) (l : List Int) (N : Nat) : (allV s l N).length = N := upto_length _ _
def intsN (l : List Nat) : List Value := ints (l.map fun (x : Nat) => (x : Int))
theorem intsN_length (l : List Nat) : (intsN l).length = l.length := by simp [intsN, ints_length]
theorem intsN_snoc (l : List Nat) (x : Nat) : intsN (l ++ [x]) = intsN l ++ [.int .i64 (x : Int)] := by simp [intsN, ints]
theorem own_thru {W W' : World} {base size k : Nat} {e : TypeId} {v : Value} {xs : List Value} (h : W.ownsRow base e size v k xs) (hb : Below W.heap.size W W') : W'.ownsRow base e size v k xs := by
  refine h.kept (grownBy_of_below hb) ?_
  rcases h.2 with ⟨rfl, _⟩ | ⟨g', cap, cur, rfl, _⟩
  · exact .inl rfl
  · exact .inr (by simp [Value.ownBlock])
theorem below_grown {w W W' : World} {row : Option Nat} (h : Below w.heap.size w W) (hg : W.grownBy W' row) (hr : ∀ k, row = some k → w.heap.size ≤ k) : Below w.heap.size w W' := h.grown hg h.size hr
theorem inAppend_at {F : Fence} {n : Nat} {P : Program} (w : World) {ops : Array Oper} {rest : List Oper} {o : Oper} {a : Act} {Q : Exit → Act → World → Prop}
    (hg : o.guard = none) (s x : Operand) (t : TypeId) (hop : o.op = Op.call { callee := Callee.builtin Builtin.append, args := #[s, x], argTypes := #[t, t] })
    (base : Nat) (e : TypeId) (i : TypeInfo) (z : Value) (size bytes : Nat) (h1 : P.underlying t = some (.slice e)) (h2 : P.info? e = some i) (h3 : i.zero = some z) (h4 : i.size = size) (h5 : i.bytes = bytes) (h6 : z.cells.size = size) (h7 : 0 < size)
    (v : Value) (k : Nat) (xs : List Value) (hs : a.eval s = v) (hown : w.ownsRow base e size v k xs) (ad : Addr) (m c : Nat) (news : List Value) (hx : a.eval x = .slice (some ad) m c) (hn : news.length = m * size)
    (hc : ∀ j u, news[j]? = some u → w.cell? (ad.add j) = some u) (h1c : ∀ u ∈ news, u.oneCell' = true) (b1 : k + m ≤ maxLen) (b2 : (k + m) * bytes ≤ 140737488355328) (b3 : base ≤ w.heap.size)
    (hK : ∀ v' w', w'.ownsRow base e size v' (k + m) (xs ++ news) → w.grownBy w' v.ownBlock → (v'.ownBlock = v.ownBlock ∨ v'.ownBlock = some w.heap.size) → wpListIn F n P ops Q rest (a.put o.dst v') w') :
    wpListIn F n P ops Q (o :: rest) a w := by
  refine wpListIn_plain hg fun K hK' => ?_
  obtain ⟨v', w', hrun, r1, r2, -, r3⟩ := run_append_own_at (P := P) w base t o.type e i z size bytes h1 h2 h3 h4 h5 h6 h7 v k xs hown ad m c news hn hc h1c b1 b2 b3
  unfold Oper.wpIn
  refine ⟨?_, ?_⟩
  · simp [Oper.about, hop, resolve, Target.leads, Sem.run_pure]
  · rw [Oper.semAt_plain F _ _ (by rw [hop]; intro c hc'; cases hc')]
    simp [execOp, hop, resolve, invoke, builtin, hs, hx, hrun, Result.andThen]
    exact hK' _ _ (hK v' w' r1 r2 r3)
/-- what the loop of All keeps -/
def RelA (base B gn : Nat) (w : World) (pre : List Nat) (W : World) : Prop :=
  (∃ v, Boxed W B 22 v ∧ W.ownsRow base 3 1 v pre.length (intsN pre) ∧ some gn ≠ v.ownBlock) ∧ Below base w W ∧ gn < W.heap.size
set_option maxRecDepth 100000 in
set_option maxHeartbeats 2000000 in
theorem all_yes {s : ByteArray} {A : Option Addr} {n c : Nat} {l : List Int} {w : World} (h : Net s A n l w) (N : Nat) (hg : givenE s n (N : Int) = 0) :
    Calls Tryd.prog 16 #[.string s, .slice A n c, .int .i64 (N : Int)] w fun E W' => ∃ v, E = .returned (.tuple #[v, .int .i64 0]) ∧ W'.ownsRow w.heap.size 3 1 v (allV s l N).length (intsN (allV s l N)) ∧ Below w.heap.size w W' := by
  have hgv := given_any s A n c (N : Int) w (by have := h.text; omega) (by have := h.short; omega)
  have hN : N ≤ 65536 := by rcases givenE_cases s n (N : Int) with h4 | ⟨h0, hN, hn8, hs32⟩ <;> omega
  rw [hg] at hgv
  clear hg
  have HGV := Lib.hid hgv
  have HM := Lib.hid (fun W => made_any s A n c N W hN)
  have HP := Lib.hid (fun fu hfu gN gn W => places_stops fu hfu gN gn (c := c) h (sideE N) N (sideE_le N) (sideE_fits hN) W)
  clear hgv
  obtain ⟨R, hR⟩ : ∃ R, R = allV s l N := ⟨_, rfl⟩
  have hR2 : upto (place (mixF (rnd s l (2 ^ sideE N)) (2 ^ sideE N)) N) N = R := by rw [hR]; rfl
  rw [hR2] at HP
  have hRl : R.length = N := by rw [hR]; exact allV_length s l N
  rw [← hR]
  clear hR hR2
  generalize hcs : netCells s A n c (2 ^ sideE N) = cs at *
  have HCS := Lib.hid hcs
  clear hcs
  obtain ⟨i0, hi, hz0, hz1, hz2⟩ := info_parts info_i64
  refine (callsIn_wide (n := 6)).1 ?_
  refine callsIn_of_wp_marks Tryd.func16 rfl trivial ?_ rfl
  simp only [Tryd.ntmps16, List.size_toArray, List.length_cons, List.length_nil, Nat.reduceAdd, Nat.reduceSub, Array.replicate_succ, Array.replicate_zero, List.push_toArray, List.append_toArray, List.nil_append, List.cons_append]
  gi_wp2
  refine ⟨trivial, ?_⟩
  refine (callsIn_wide.2 HGV.out).mono ?_
  rintro E w1 ⟨rfl, rfl⟩
  gi_wp2_with (gi_at_make; refine wpListIn_make_own _ rfl _ _ 22 rfl w1.heap.size 3 i0 (.int .i64 0) 1 Tryd.underlying22 hi hz0 hz1 .i64 .i64 _ N rfl rfl rfl (by rw [hz2]; omega) (by unfold maxLen; omega) (Nat.le_refl _) ?_; intro w2 hown hgrow)
  refine ⟨trivial, ?_⟩
  refine (callsIn_wide.2 (HM.out _)).mono ?_
  rintro E w3 ⟨rfl, b3⟩
  gi_wp2
  refine ⟨trivial, ?_⟩
  refine (callsIn_wide.2 (places_any _ _ _)).mono ?_
  rintro E w4 ⟨rfl, hw4⟩
  have c2 : Below w1.heap.size w1 w2 := (Below.refl _ w1).grown hgrow (Nat.le_refl _) (fun k e => by cases e)
  have c2' := c2.alloc c2.size (.cells #[.slice (some ⟨w1.heap.size, 0, none⟩) 0 N] 22)
  have c3 : Below w1.heap.size w1 w3 := c2'.trans (b3.mono c2'.size)
  have o3 := own_thru (hown.alloc (.cells #[.slice (some ⟨w1.heap.size, 0, none⟩) 0 N] 22)) b3
  have x3 : Blk w3 w2.heap.size 22 #[.slice (some ⟨w1.heap.size, 0, none⟩) 0 N] := (Blk.new w2 22 _).thru b3
  have c4 : Below w1.heap.size w1 w4 := by rw [hw4]; exact (c3.alloc c3.size _).alloc (by rw [World.size_alloc]; have := c3.size; omega) _
  have o4 : w4.ownsRow w1.heap.size 3 1 (.slice (some ⟨w1.heap.size, 0, none⟩) 0 N) 0 [] := by rw [hw4]; exact (o3.alloc _).alloc _
  have x4 : Blk w4 w2.heap.size 22 #[.slice (some ⟨w1.heap.size, 0, none⟩) 0 N] := by rw [hw4]; exact (x3.alloc _).alloc _
  have n4 : Blk w4 w3.heap.size 67 cs := by rw [hw4]; exact (Blk.new w3 67 cs).alloc _
  have m4 : Blk w4 (w3.heap.size + 1) 3 #[.int .i64 (N : Int)] := by rw [hw4]; exact Blk.new' (by simp)
  have hgN : w1.heap.size < w3.heap.size := Nat.lt_of_le_of_lt c2.size x3.lt
  have hgO : w1.heap.size ≤ w2.heap.size := c2.size
  clear hw4 o3 x3 c3 c2' c2 b3 hown hgrow
  generalize w2.heap.size = gO at *
  generalize w3.heap.size = gN at *
  have hst := HP.out (6 - 1) (by omega) gN (gN + 1) w4 n4 m4 c4
  gi_wp2
  refine wpIn_rangeFunc_ownG rfl (by omega) (gf := 76) (lb := #[.pointer (some ⟨gN + 1, 0, none⟩), .pointer (some ⟨gN, 0, none⟩)]) rfl trivial (enters_of Tryd.func76 (by kernel_rfl) rfl)
    hst (keepIt_t _ _ _) (fun W l o o' hl0 hl ho _ => keepIt_b _ _ _ W l o o' (by have := c4.size; omega) hl ho) (Below.refl _ _) (fun _ => rfl)
    (RelA w1.heap.size gO (gN + 1) w1)
    (fun _ _ _ => False)
    (OwnFrom.and (Own.from (holdsRow_own w1.heap.size gO 22 3 1 (fun pre : List Nat => pre.length) (fun pre => intsN pre) (fun _ v => some (gN + 1) ≠ v.ownBlock)) _) (OwnFrom.and (ownFrom_below (Nat.le_refl _) c4.size) (fun _ _ _ _ hs hg _ => Nat.lt_of_lt_of_le hs hg.size)))
    (fun _ _ _ _ _ hs _ _ => hs)
    ⟨⟨_, x4, o4, ?hne⟩, c4, m4.lt⟩
    (fun x => { tmps := #[.string s, .slice A n c, .int .i64 (N : Int), undef, undef, undef, .slice none 0 0, .int .i64 0, .int .i64 0, .pointer (some ⟨gO, 0, none⟩), .int .i64 (x : Int), .string s, .slice A n c, .int .i64 (N : Int), .int .i64 0, .int .i64 0, .bool false, undef, .int .i64 (N : Int), .bool (decide ((N : Int) < 0)), .int .i64 (N : Int), .slice (some ⟨w1.heap.size, 0, none⟩) 0 N, .string s, .slice A n c, .int .i64 (N : Int), .agg cs, .int .i64 (N : Int), .func (.func 76) #[] #[.pointer (some ⟨gN + 1, 0, none⟩), .pointer (some ⟨gN, 0, none⟩)], .int .i64 (x : Int), undef, undef, undef, undef, undef], defers := [] }) ?assign ?body ?done ?stop
  case hne =>
    intro e
    have e2 : gN + 1 = w1.heap.size := by simpa [Value.ownBlock] using e
    omega
  case assign =>
    intro l x W K hK
    gi_wp2
    exact hK
  case body =>
    rintro l pre x W ⟨⟨v, hv, hrow, hne⟩, hB, hgn⟩ hlt
    have hc := hv.cell
    gi_wp2_with (gi_at_builtin; refine inAppend_at _ rfl _ _ 22 rfl w1.heap.size 3 i0 (.int .i64 0) 1 8 Tryd.underlying22 hi hz0 hz1 hz2 rfl (by decide) _ _ _ rfl (hrow.alloc _) ⟨W.heap.size, 0, none⟩ 1 1 [.int .i64 (x : Int)] rfl rfl (cell_one_new _ _ _) (by simp [Value.oneCell']) (by unfold maxLen; omega) (by omega) (by have := hB.size; simp; omega) ?_; intro v' w5 hown' hgrow hat; obtain ⟨g', cap', rfl⟩ := ownsRow_succ hown'; obtain ⟨hv1, hv2, hr2, hk2, hb2⟩ := hv.appended (by decide) hrow hB.size (by omega) hown' hgrow; have hc1 := hv1.cell; have hf1 := hv1.frozen)
    refine ⟨hk2.from _, ⟨fun cs hcs => ?_, fun cs hcs => ?_, hb2⟩, ⟨⟨_, hv2, ?_, ?_⟩, hB.trans hb2, ?_⟩⟩
    · exact ((hcs.alloc _).grown hgrow (own_ne_blk hrow hcs (by decide))).far (hcs.ne_ (show Blk W gO 22 #[v] from hv) (by decide)) _
    · exact ((hcs.alloc _).grown hgrow hne).far (hcs.ne_ (show Blk W gO 22 #[v] from hv) (by decide)) _
    · rw [intsN_snoc, List.length_append]; exact hr2
    · rcases hat with e | e
      · rw [e]; exact hne
      · rw [e, World.size_alloc]
        intro c
        injection c with c
        omega
    · exact Nat.lt_of_lt_of_le hgn hb2.size
  case done =>
    rintro D ys W hD hys ⟨⟨v, hv, hrow, -⟩, hB, -⟩ hK
    have HYS := Lib.hid hys
    clear hys
    have hc := hv.cell
    gi_wp2
    refine ⟨by simp, .inl ⟨_, _, rfl, run_takeDeferred hK, ?_⟩⟩
    refine ⟨_, results_tmp2 rfl _ _ _, v, rfl, ?_, hB.trans (belowK_b (w := w4) c4.size W D _ _ hD hK rfl rfl)⟩
    rw [← HYS.out]
    exact ownsRow_putObj hrow _ hK rfl
  case stop =>
    rintro D c pre W _ _ h _
    exact h.elim

set_option maxRecDepth 100000 in
set_option maxHeartbeats 2000000 in
theorem all_no {s : ByteArray} {A : Option Addr} {n c : Nat} {l : List Int} {w : World} (h : Net s A n l w) (N : Int) (hg : givenE s n N = 4 ∨ givenE s n N = 0 ∧ N < 0) :
    Calls Tryd.prog 16 #[.string s, .slice A n c, .int .i64 N] w fun E W' => E = .returned (.tuple #[.slice none 0 0, .int .i64 (if givenE s n N = 4 then 4 else 1)]) ∧ Below w.heap.size w W' := by
  have hgv := given_any s A n c N w (by have := h.text; omega) (by have := h.short; omega)
  rcases hg with h4 | ⟨h0, hn⟩
  · rw [if_pos h4]
    rw [h4] at hgv
    have HGV := Lib.hid hgv
    clear hgv h4
    go_enter Tryd.func16, Tryd.ntmps16
    go_wp2_with fail
    refine HGV.out.mono ?_
    rintro E w1 ⟨rfl, rfl⟩
    go_wp2_with fail
    go_ret2
    exact ⟨rfl, Below.refl _ _⟩
  · rw [if_neg (by omega)]
    rw [h0] at hgv
    have HGV := Lib.hid hgv
    clear hgv h0
    go_enter Tryd.func16, Tryd.ntmps16
    go_wp2_with fail
    refine HGV.out.mono ?_
    rintro E w1 ⟨rfl, rfl⟩
    go_wp2_with fail
    go_ret2
    exact ⟨rfl, Below.refl _ _⟩
end Go.Proofs.YtiajlglnefiemaaDoor
