/- The iterator of a hiding and noise.Weights: what it yields and what Weights returns. -/
import Derived.RangeFuncBox
import Derived.RangeFuncLeaves
import Derived.Shelf.Abstract
import Derived.WalkKit
import Derived.OwnWalkIn
import Derived.TacticsInMore
import Derived.LoopNIn
import Derived.LoopIn
import Derived.Maps.AppendAt
import Derived.Test.YtbofbihpmhkppaaNa
namespace Go.Proofs.Ytbofbihpmhkppaa
open Go.RowKit Go.Shelf
attribute [local go_sem] Oper.semAt_some

/-- what has come when k rounds are over -/
def upto {α : Type} (f : Nat → α) (k : Nat) : List α := (List.range k).map f
theorem upto_succ {α : Type} (f : Nat → α) (k : Nat) : upto f (k + 1) = upto f k ++ [f k] := by simp [upto, List.range_succ]
theorem upto_length {α : Type} (f : Nat → α) (k : Nat) : (upto f k).length = k := by simp [upto]

abbrev enc2 (p : Int × Int) : Array Value := #[.int .i64 p.1, .int .i64 p.2]
def pairW (c m k : Int) (i : Nat) : Int × Int := ((i : Int), wt c m k i)
def hidCells (c m k : Int) : Obj := .cells #[.int .i64 c, .int .i64 m, .int .i64 k] 73

/-- a round keeps block b, if it is a hiding's box -/
def KeepHid (b : Nat) (W W' : World) : Prop := ∀ cs, Blk W b 73 cs → Blk W' b 73 cs

set_option maxRecDepth 100000 in
set_option maxHeartbeats 1000000 in
theorem all1_in (n : Nat) (hn : 2 ≤ n) (l Bn : Nat) (c m k : Int) (hok : Okay c m k) (J Jx : List (Int × Int) → World → Prop)
    (W : World) (hJa : ∀ s A o, J s A → J s (A.alloc o))
    (hY : ∀ pre x W, J pre W → pre.length < (m + 1).toNat → YieldAt Fence.wide (n - 1) Try.prog l (enc2 x) W fun e W' =>
      (e = .returned (.bool true) ∧ J (pre ++ [x]) W' ∧ KeepHid Bn W W') ∨ (e = .returned (.bool false) ∧ Jx (pre ++ [x]) W'))
    (hB : Blk W Bn 73 #[.int .i64 c, .int .i64 m, .int .i64 k]) (h0 : J [] W) :
    CallsIn Fence.wide n Try.prog 58 #[.func (.yield l) #[] #[], .pointer (some ⟨Bn, 0, none⟩)] W fun e W' => (∃ v, e = .returned v) ∧
      ((∃ ys, ys = upto (pairW c m k) (m + 1).toNat ∧ J ys W') ∨ (∃ pre, (∃ j, j ≤ (m + 1).toNat ∧ pre = upto (pairW c m k) j) ∧ Jx pre W')) := by
  have hm1 := hok.m1
  have hm2 := hok.m2
  have f1 := hB.at_ (i := 1) rfl
  refine callsIn_of_wp Try.func58 rfl trivial ?_ rfl
  simp only [Try.ntmps58, List.size_toArray, List.length_cons, List.length_nil, Nat.reduceAdd, Nat.reduceSub, Array.replicate_succ, Array.replicate_zero, List.push_toArray, List.append_toArray, List.nil_append, List.cons_append]
  gi_wp2
  gi_loopw [7] (fun i wr => ∃ j : Nat, (j : Int) ≤ m + 1 ∧ i = .int .i64 j ∧ J (upto (pairW c m k) j) wr ∧ Blk wr Bn 73 #[.int .i64 c, .int .i64 m, .int .i64 k])
    (fun i _ => (m + 1 - intOf i).toNat)
  case atStart => exact ⟨0, by omega, rfl, h0, hB⟩
  case round =>
    obtain ⟨j, hj, rfl, hJs, hnx⟩ := hrel
    have e0 := hnx.at_ (i := 0) rfl
    have e1 := hnx.at_ (i := 1) rfl
    have e2 := hnx.at_ (i := 2) rfl
    by_cases hlt : (j : Int) < m + 1
    · obtain ⟨fn, tmps, assign, body, hy, hR⟩ := hY _ (pairW c m k j) (wr.alloc (hidCells c m k)) (hJa _ _ _ hJs) (by rw [upto_length]; omega)
      dsimp only [pairW, enc2, hidCells] at hy
      gi_wp2
      refine ⟨trivial, fun _ => by omega, ?_⟩
      refine (callsIn_wide.2 (weight_any c m k j _ hok (by omega) (by omega))).mono ?_
      rintro e w' ⟨rfl, rfl⟩
      gi_wp2
      refine ⟨fun _ => by omega, ?_⟩
      refine hR.mono ?_
      rintro e W3 (⟨rfl, hJ3, hk3⟩ | ⟨rfl, hJx3⟩)
      · gi_wp2
        go_roundw
        case rel => exact ⟨j + 1, by omega, by simp, by rw [upto_succ]; exact hJ3, hk3 _ (hnx.alloc _)⟩
        case measure => simp [intOf]; omega
      · gi_wp2
        refine bodyPost_ret (results_none rfl _ _ _) rfl ?_
        exact ⟨⟨_, rfl⟩, .inr ⟨_, ⟨j + 1, by omega, (upto_succ _ _).symm⟩, hJx3⟩⟩
    · have hj' : j = (m + 1).toNat := by omega
      have HJ := Lib.hid hj'
      clear hj'
      gi_wp2
      go_end0
      exact ⟨⟨_, rfl⟩, .inl (by rw [← HJ.out]; exact hJs)⟩

set_option maxHeartbeats 1000000 in
theorem all_any (c m k : Int) (w : World) :
    Calls Try.prog 51 #[.agg #[.int .i64 c, .int .i64 m, .int .i64 k]] w fun e w' => e = .returned (.func (.func 58) #[] #[.pointer (some ⟨w.heap.size, 0, none⟩)]) ∧ w.alloc (hidCells c m k) = w' := by
  go_enter Try.func51, Try.ntmps51
  go_wp2
  go_ret
  exact ⟨rfl, rfl⟩

def allW (c m k : Int) : List (Int × Int) := upto (pairW c m k) (m + 1).toNat
theorem upto_prefix {α : Type} (f : Nat → α) {j n : Nat} (h : j ≤ n) : upto f j <+: upto f n := by
  refine ⟨(List.range' j (n - j)).map f, ?_⟩
  unfold upto
  rw [← List.map_append, List.range_eq_range', List.range_eq_range']
  congr 1
  have := List.range'_append_1 (s := 0) (m := j) (n := n - j)
  rw [show j + (n - j) = n by omega, Nat.zero_add] at this
  exact this

theorem all_stops (n : Nat) (hn : 2 ≤ n) (Bn : Nat) (c m k : Int) (hok : Okay c m k) (w : World) 
    (hB : Blk w Bn 73 #[.int .i64 c, .int .i64 m, .int .i64 k]) :
    SeqStopsK Fence.wide n Try.prog 58 #[.pointer (some ⟨Bn, 0, none⟩)] enc2 (KeepHid Bn) (fun ys => ys = allW c m k) (fun pre => pre <+: allW c m k) (m + 1).toNat w := fun l J Jx W hW hJ hJx hY h0 => by
  refine (all1_in n hn l Bn c m k hok J Jx W (fun s A o h => hJ s A _ none h (World.grownBy_alloc A o none) (fun r e => by cases e)) hY (hB.below hW hB.lt) h0).mono ?_
  rintro e W' ⟨he, ⟨ys, hys, hj⟩ | ⟨pre, ⟨j, hj, hp⟩, hx⟩⟩
  · exact ⟨he, .inl ⟨ys, hys, hj⟩⟩
  · exact ⟨he, .inr ⟨pre, by rw [hp]; exact upto_prefix _ hj, hx⟩⟩

theorem keepHid_t (b : Nat) {A B C : World} (h : KeepHid b A B) (k : KeepHid b B C) : KeepHid b A C := fun cs hc => k cs (h cs hc)
theorem keepHid_b (b : Nat) (W : World) (l : Nat) (o o' : Obj) (hl : W.heap[l]? = some o) (ho : o.isCells = false) : KeepHid b W (W.putObj l o') := fun cs hc => by
  refine hc.grown (grownBy_putObj' W l o') ?_
  rintro e
  injection e with e
  subst e
  unfold Blk at hc
  rw [hc] at hl
  injection hl with hl
  subst hl
  cases ho

def snds (l : List (Int × Int)) : List Int := l.map (·.2)
theorem snds_snoc (l : List (Int × Int)) (x : Int × Int) : snds (l ++ [x]) = snds l ++ [x.2] := by simp [snds]
theorem snds_length (l : List (Int × Int)) : (snds l).length = l.length := by simp [snds]
/-- what Weights returns, where it does not fail -/
def wts (c m k : Int) : List Int := snds (allW c m k)
theorem wts_length (c m k : Int) : (wts c m k).length = (m + 1).toNat := by rw [wts, snds_length, allW, upto_length]

theorem info3 : (Try.prog.info? 3).map (fun i => (i.zero, i.size, i.bytes)) = some (some (.int .i64 0), 1, 8) := by kernel_rfl

/-- what the loop of Weights keeps -/
def RelW (base B : Nat) (w : World) (pre : List (Int × Int)) (W : World) : Prop :=
  (∃ v, Boxed W B 24 v ∧ W.ownsRow base 3 1 v (snds pre).length (ints (snds pre)) ∧ True) ∧ Below base w W
set_option maxRecDepth 100000 in
set_option maxHeartbeats 2000000 in
theorem weights_yes (c m k : Int) (hok : Okay c m k) (w : World) :
    Calls Try.prog 15 #[.int .i64 c, .int .i64 m, .int .i64 k] w fun e W' => ∃ v, e = .returned (.tuple #[v, .int .i64 0]) ∧ W'.ownsRow w.heap.size 3 1 v (wts c m k).length (ints (wts c m k)) ∧ Below w.heap.size w W' := by
  refine (callsIn_wide (n := 6)).1 ?_
  have hb : okB c m k = true := okB_iff.2 hok
  obtain ⟨i0, hi, hz0, hz1, hz2⟩ := info_parts info3
  refine callsIn_of_wp_marks Try.func15 rfl trivial ?_ rfl
  simp only [Try.ntmps15, List.size_toArray, List.length_cons, List.length_nil, Nat.reduceAdd, Nat.reduceSub, Array.replicate_succ, Array.replicate_zero, List.push_toArray, List.append_toArray, List.nil_append, List.cons_append]
  have hval := fun W => valid_any c m k W
  rw [hb] at hval
  have HV := Lib.hid hval
  clear hval hb
  gi_wp2
  refine ⟨trivial, ?_⟩
  refine (callsIn_wide.2 (HV.out _)).mono ?_
  rintro e w' ⟨rfl, rfl⟩
  gi_wp2
  refine ⟨trivial, ?_⟩
  refine (callsIn_wide.2 (all_any c m k _)).mono ?_
  rintro e w' ⟨rfl, rfl⟩
  gi_wp2
  have bO := Boxed.new ((w.alloc (hidCells c m k)).alloc (hidCells c m k)) 24 (.slice none 0 0)
  have hB0 : Below w.heap.size w ((((w.alloc (hidCells c m k)).alloc (hidCells c m k)).alloc (.cells #[.slice none 0 0] 24)).alloc (hidCells c m k)) := ((((Below.refl _ w).alloc (Nat.le_refl _) _).alloc (by simp) _).alloc (by simp; omega) _).alloc (by simp; omega) _
  rw [World.size_alloc, World.size_alloc] at bO
  have cb := Blk.new (((w.alloc (hidCells c m k)).alloc (hidCells c m k)).alloc (.cells #[.slice none 0 0] 24)) 73 #[.int .i64 c, .int .i64 m, .int .i64 k]
  rw [World.size_alloc, World.size_alloc, World.size_alloc] at cb
  have hm2 := hok.m2
  refine wpIn_rangeFunc_ownG rfl (by omega) (gf := 58) (lb := #[.pointer (some ⟨w.heap.size + 1 + 1 + 1, 0, none⟩)]) rfl trivial (enters_of Try.func58 (by kernel_rfl) rfl)
    (all_stops (6 - 1) (by omega) (w.heap.size + 1 + 1 + 1) c m k hok _ cb) (keepHid_t _) (fun W l o o' _ hl ho _ => keepHid_b _ W l o o' hl ho) (Below.refl _ _) (fun _ => rfl)
    (RelW w.heap.size (w.heap.size + 1 + 1) w)
    (fun _ _ _ => False)
    (OwnFrom.and (Own.from (holdsRow_own w.heap.size (w.heap.size + 1 + 1) 24 3 1 (fun pre : List (Int × Int) => (snds pre).length) (fun pre => ints (snds pre)) (fun _ _ => True)) _) (ownFrom_below (Nat.le_refl _) (by simp; omega)))
    (fun _ _ _ _ _ hs _ _ => hs)
    ⟨⟨_, bO.alloc _, World.ownsRow_nil _ _ _ _, trivial⟩, hB0⟩
    (fun x => { tmps := #[.int .i64 c, .int .i64 m, .int .i64 k, undef, undef, undef, .slice none 0 0, .int .i64 0, .pointer (some ⟨w.heap.size, 0, none⟩), .pointer (some ⟨w.heap.size + 1 + 1, 0, none⟩), undef, .int .i64 x.2, .int .i64 c, .int .i64 m, .int .i64 k, .agg #[.int .i64 c, .int .i64 m, .int .i64 k], .agg #[.int .i64 c, .int .i64 m, .int .i64 k], .bool true, .bool false, .agg #[.int .i64 c, .int .i64 m, .int .i64 k], .func (.func 58) #[] #[.pointer (some ⟨w.heap.size + 1 + 1 + 1, 0, none⟩)], .int .i64 x.1, .int .i64 x.2, undef, undef, undef, undef, undef], defers := [] }) ?assign ?body ?done ?stop
  case assign =>
    intro l x W K hK
    gi_wp2
    exact hK
  case body =>
    rintro l pre x W ⟨⟨v, hv, hrow, -⟩, hB⟩ hlt
    have hc := hv.cell
    have hlp : (snds pre).length = pre.length := snds_length pre
    have HL := Lib.hid hlp
    clear hlp
    gi_wp2_with (gi_at_builtin; refine wpListIn_append_own _ rfl _ _ 24 rfl w.heap.size 3 i0 (.int .i64 0) 1 8 Try.underlying24 hi hz0 hz1 hz2 rfl (by decide) _ _ _ rfl (hrow.alloc _) ⟨W.heap.size, 0, none⟩ 1 1 [.int .i64 x.2] rfl rfl (cell_one_new _ _ _) (by simp [Value.oneCell']) (by rw [HL.out]; unfold maxLen; omega) (by rw [HL.out]; omega) (by have := hB.size; simp; omega) ?_; intro v' w1 hown' hgrow _; obtain ⟨g', cap', rfl⟩ := ownsRow_succ hown'; obtain ⟨hv1, hv2, hr2, hk2, hb2⟩ := hv.appended (by decide) hrow hB.size (by omega) hown' hgrow; have hc1 := hv1.cell; have hf1 := hv1.frozen)
    refine ⟨hk2.from _, fun cs hcs => ?_, ⟨⟨_, hv2, ?_, trivial⟩, hB.trans hb2⟩⟩
    · exact ((hcs.alloc _).grown hgrow (own_ne_blk hrow hcs (by decide))).far (by simp) _
    · rw [snds_snoc, ints_snoc, List.length_append]; exact hr2
  case done =>
    rintro D ys W hD rfl ⟨⟨v, hv, hrow, -⟩, hB⟩ hK
    have hc := hv.cell
    gi_wp2
    refine ⟨by simp, .inl ⟨_, _, rfl, run_takeDeferred hK, ?_⟩⟩
    refine ⟨_, results_tmp2 rfl _ _ _, v, rfl, ownsRow_putObj hrow _ hK rfl, hB.trans (belowK_b (w := w) (Nat.le_refl _) W D _ _ (by simp at hD; omega) hK rfl rfl)⟩
  case stop =>
    rintro D c pre W _ _ h _
    exact h.elim

set_option maxHeartbeats 1000000 in
theorem weights_no (c m k : Int) (hno : okB c m k = false) (w : World) :
    Calls Try.prog 15 #[.int .i64 c, .int .i64 m, .int .i64 k] w fun e W' => e = .returned (.tuple #[.slice none 0 0, .int .i64 5]) ∧ Below w.heap.size w W' := by
  have hval := fun W => valid_any c m k W
  rw [hno] at hval
  have HV := Lib.hid hval
  clear hval hno
  go_enter Try.func15, Try.ntmps15
  go_wp2_with (go_at_call 50; refine (HV.out _).mono ?_; rintro e w' ⟨rfl, rfl⟩)
  go_ret2
  exact ⟨rfl, ((Below.refl _ _).alloc (Nat.le_refl _) _).alloc (by simp) _⟩
end Go.Proofs.Ytbofbihpmhkppaa
