/- Loss where it fails, and the reference's Loss. -/
import Derived.Test.YtbofbihpmhkppaaNd
import Derived.RegionTactic
namespace Go.Proofs.Ytbofbihpmhkppaa
open Go.RowKit

set_option maxHeartbeats 1000000 in
theorem loss_no (c d m k : Int) (h : okB c m k = false ∨ okB d m k = false) (w : World) :
    Calls Try.prog 21 #[.int .i64 c, .int .i64 d, .int .i64 m, .int .i64 k] w fun e W' => e = .returned (.tuple #[.int .i64 0, .int .i64 5]) ∧ Below w.heap.size w W' := by
  have hv1 := fun W => valid_any c m k W
  have hv2 := fun W => valid_any d m k W
  cases h1 : okB c m k
  · rw [h1] at hv1
    have HV1 := Lib.hid hv1
    clear hv1 hv2 h h1
    go_enter Try.func21, Try.ntmps21
    go_wp2_with fail
    refine (HV1.out _).mono ?_
    rintro e w' ⟨rfl, rfl⟩
    go_wp2_with fail
    go_ret2
    exact ⟨rfl, below_more (below_more (below_more (Below.refl _ w) (by omega) _) (by omega) _) (by omega) _⟩
  · have h2 : okB d m k = false := by rcases h with h | h; · rw [h1] at h; cases h
                                      · exact h
    rw [h1] at hv1
    rw [h2] at hv2
    have HV1 := Lib.hid hv1
    have HV2 := Lib.hid hv2
    clear hv1 hv2 h h1 h2
    go_enter Try.func21, Try.ntmps21
    go_wp2_with fail
    refine (HV1.out _).mono ?_
    rintro e w' ⟨rfl, rfl⟩
    go_wp2_with fail
    refine (HV2.out _).mono ?_
    rintro e w' ⟨rfl, rfl⟩
    go_wp2_with fail
    go_ret2
    exact ⟨rfl, below_more (below_more (below_more (below_more (Below.refl _ w) (by omega) _) (by omega) _) (by omega) _) (by omega) _⟩

theorem own_reads {w : World} {base n : Nat} {e : TypeId} {v : Value} {l : List Int} (h : w.ownsRow base e 1 v n (ints l)) : ∃ A c, v = .slice A n c ∧ Reads w w.heap.size 1 A n (ints l) := by
  obtain ⟨A, c, rfl, -, -, -⟩ := own_slice h
  exact ⟨A, c, rfl, Reads.of_own h⟩

theorem wts_at {c m k : Int} {j : Nat} (h : (j : Int) < m + 1) : (wts c m k)[j]?.getD 0 = wt c m k j := by
  rw [wts_get]
  simp [List.getElem?_map, List.getElem?_range (show j < (m + 1).toNat by omega)]

set_option maxHeartbeats 2000000 in
theorem refL_yes (c d m k : Int) (hc : Okay c m k) (hd : Okay d m k) (w : World) :
    Calls Try.prog 22 #[.int .i64 c, .int .i64 d, .int .i64 m, .int .i64 k] w fun e W' => e = .returned (.tuple #[.int .i64 (k * absD c d), .int .i64 0]) ∧ Below w.heap.size w W' := by
  have hm1 := hc.m1
  have hm2 := hc.m2
  go_enter Try.func22, Try.ntmps22
  go_wp2_with fail
  refine (refW_yes c m k hc _).mono ?_
  rintro e w1 ⟨v1, rfl, ho1, hb1⟩
  obtain ⟨A1, c1, rfl, hr1⟩ := own_reads ho1
  go_wp2_with fail
  refine (refW_yes d m k hd _).mono ?_
  rintro e w2 ⟨v2, rfl, ho2, hb2⟩
  obtain ⟨A2, c2, rfl, hr2⟩ := own_reads ho2
  have hr1' := hr1.below hb2
  have hbb : Below w.heap.size w w2 := hb1.trans (hb2.mono hb1.size)
  have hl1 := wts_length c m k
  have hl2 := wts_length d m k
  rw [hl1] at hr1'
  rw [hl2] at hr2
  rw [hl1, hl2]
  obtain ⟨N, hN⟩ : ∃ N : Nat, N = (m + 1).toNat := ⟨_, rfl⟩
  have hN1 : (N : Int) ≤ m + 1 := by omega
  have hN2 : m + 1 ≤ (N : Int) := by omega
  rw [← hN] at hr1' hr2 ⊢
  clear ho1 ho2 hr1 hb1 hb2 hl1 hl2 hN
  go_wp2_with fail
  go_loopw [14, 15] (fun o i wr => ∃ j : Nat, (j : Int) ≤ m + 1 ∧ i = .int .i64 j ∧ o = .int .i64 (lossTo c d k j) ∧ Drawn w2 wr)
    (fun _ i _ => (m + 1 - intOf i).toNat)
  case atStart => exact ⟨0, by omega, rfl, rfl, 0, rfl⟩
  case round =>
    obtain ⟨j, hj, rfl, rfl, hnx⟩ := hrel
    have hlb := lossTo_bound hc hd j hj
    by_cases hlt : (j : Int) < m + 1
    · have hg := gap_le hc hd (x := j) (by omega) (by omega)
      obtain ⟨q, rfl⟩ := hnx
      obtain ⟨a1, rfl, -, -, e1⟩ := hr1'.int_at (k := j) (by omega)
      obtain ⟨a2, rfl, -, -, e2⟩ := hr2.int_at (k := j) (by omega)
      rw [wts_at hlt] at e1 e2
      obtain ⟨p, z, hp, hz, P⟩ := pair_cases hc hd (x := j) (by omega) (by omega)
      have hmin := fun ts t W => run_min_int2 (P := Try.prog) (w := W) ts t .i64 .i64 (wt c m k j) (wt d m k j)
      have hmax := fun ts t W => run_max_int2 (P := Try.prog) (w := W) ts t .i64 .i64 (wt c m k j) (wt d m k j)
      rw [hp] at hmin
      rw [hz] at hmax
      have p1 := P.p1
      have q1 := P.q1
      have hmax2 := fun ts t W => run_max_int2 (P := Try.prog) (w := W) ts t .i64 .i64 (lossTo c d k j) (gapN c d k j)
      rw [show (if (gapN c d k j : Int) > lossTo c d k j then (gapN c d k j : Int) else lossTo c d k j) = lossTo c d k (j + 1) from rfl] at hmax2
      clear hp hz
      have hjN : (j : Int) < (N : Int) := by omega
      go_wp2_with fail
      go_quiet (fail)
      go_wp2_with fail
      go_loopw [16, 17] (fun o t wr => ∃ n : Nat, n ≤ gapN c d k j ∧ t = .int .i64 n ∧ o = .int .i64 (p * 2 ^ n) ∧ Drawn w2 wr) (fun _ t _ => gapN c d k j - (intOf t).toNat)
      case atStart => exact ⟨0, by omega, rfl, by simp, _, World.drewN_drewN _ _ _⟩
      case round =>
        obtain ⟨t, ht, rfl, rfl, q', rfl⟩ := hrel
        by_cases htl : t < gapN c d k j
        · have f := P.lt htl
          have fs := (step_lt P.p1 P.e htl).2
          have Fs := Lib.hid fs
          clear fs
          go_wp2_with fail
          go_quiet (fail)
          go_wp2_with fail
          go_roundw
          case rel => exact ⟨t + 1, by omega, by go_num, by rw [Fs.out], _, rfl⟩
          case measure => simp [intOf]; omega
        · obtain rfl : t = gapN c d k j := by omega
          have f := P.done
          go_wp2_with fail
          go_quiet (fail)
          go_wp2_with fail
          go_roundw
          case rel => exact ⟨j + 1, by omega, by go_num, rfl, _, rfl⟩
          case measure => simp [intOf]; omega
    · have hjm : j = (m + 1).toNat := by omega
      have HJ := Lib.hid hjm
      obtain ⟨q, rfl⟩ := hnx
      clear hjm
      have hjN : (N : Int) ≤ (j : Int) := by omega
      go_wp2_with fail
      go_ret2
      exact ⟨ret_two (congrArg (Value.int .i64) (by rw [HJ.out]; exact lossTo_all hc hd)) rfl, below_drewN' hbb _⟩

def errW (c m k : Int) : Int := if okB c m k then 0 else 5
def resW (c m k : Int) : List Int := if okB c m k then wts c m k else []
theorem errW_no {c m k : Int} (h : okB c m k = false) : errW c m k = 5 := by unfold errW; rw [h]; rfl
theorem resW_no {c m k : Int} (h : okB c m k = false) : resW c m k = [] := by unfold resW; rw [h]; rfl
theorem errW_yes {c m k : Int} (h : okB c m k = true) : errW c m k = 0 := by unfold errW; rw [h]; rfl
theorem resW_yes {c m k : Int} (h : okB c m k = true) : resW c m k = wts c m k := by unfold resW; rw [h]; rfl
/-- the reference's Weights, whatever the numbers -/
theorem refW_any (c m k : Int) (w : World) :
    Calls Try.prog 16 #[.int .i64 c, .int .i64 m, .int .i64 k] w fun e W' => ∃ A n cap, e = .returned (.tuple #[.slice A n cap, .int .i64 (errW c m k)]) ∧ Reads W' W'.heap.size 1 A n (ints (resW c m k)) ∧ n ≤ 1000 ∧ Below w.heap.size w W' := by
  cases h : okB c m k
  · rw [errW_no h, resW_no h]
    refine (refW_no c m k h w).mono ?_
    rintro e W' ⟨rfl, rfl⟩
    exact ⟨none, 0, 0, rfl, Reads.nil_ _ _ _ _, by omega, Below.refl _ _⟩
  · rw [errW_yes h, resW_yes h]
    have hok := okB_iff.1 h
    refine (refW_yes c m k hok w).mono ?_
    rintro e W' ⟨v, rfl, ho, hb⟩
    obtain ⟨A, cap, rfl, hr⟩ := own_reads ho
    exact ⟨A, _, cap, rfl, hr, by rw [wts_length]; have := hok.m2; omega, hb⟩
theorem weights_any (c m k : Int) (w : World) :
    Calls Try.prog 15 #[.int .i64 c, .int .i64 m, .int .i64 k] w fun e W' => ∃ A n cap, e = .returned (.tuple #[.slice A n cap, .int .i64 (errW c m k)]) ∧ Reads W' W'.heap.size 1 A n (ints (resW c m k)) ∧ n ≤ 1000 ∧ Below w.heap.size w W' := by
  cases h : okB c m k
  · rw [errW_no h, resW_no h]
    refine (weights_no c m k h w).mono ?_
    rintro e W' ⟨rfl, hb⟩
    exact ⟨none, 0, 0, rfl, Reads.nil_ _ _ _ _, by omega, hb⟩
  · rw [errW_yes h, resW_yes h]
    have hok := okB_iff.1 h
    refine (weights_yes c m k hok w).mono ?_
    rintro e W' ⟨v, rfl, ho, hb⟩
    obtain ⟨A, cap, rfl, hr⟩ := own_reads ho
    exact ⟨A, _, cap, rfl, hr, by rw [wts_length]; have := hok.m2; omega, hb⟩

set_option maxHeartbeats 1000000 in
theorem refL_no (c d m k : Int) (h : okB c m k = false ∨ okB d m k = false) (w : World) :
    Calls Try.prog 22 #[.int .i64 c, .int .i64 d, .int .i64 m, .int .i64 k] w fun e W' => e = .returned (.tuple #[.int .i64 0, .int .i64 5]) ∧ Below w.heap.size w W' := by
  cases h1 : okB c m k
  · go_enter Try.func22, Try.ntmps22
    go_wp2_with fail
    refine (refW_no c m k h1 _).mono ?_
    rintro e w1 ⟨rfl, rfl⟩
    go_wp2_with fail
    refine (refW_any d m k _).mono ?_
    rintro e w2 ⟨A, n, cap, rfl, -, -, hb⟩
    go_wp2_with fail
    go_ret2
    exact ⟨rfl, hb⟩
  · have h2 : okB d m k = false := by
      rcases h with h | h
      · rw [h1] at h; cases h
      · exact h
    go_enter Try.func22, Try.ntmps22
    go_wp2_with fail
    refine (refW_yes c m k (okB_iff.1 h1) _).mono ?_
    rintro e w1 ⟨v1, rfl, ho1, hb1⟩
    obtain ⟨A1, c1, rfl, hr1⟩ := own_reads ho1
    go_wp2_with fail
    refine (refW_no d m k h2 _).mono ?_
    rintro e w2 ⟨rfl, rfl⟩
    go_wp2_with fail
    go_ret2
    exact ⟨rfl, hb1⟩

/-- what both Losses give -/
def lossV (c d m k : Int) : Int := if okB c m k && okB d m k then k * absD c d else 0
def lossE (c d m k : Int) : Int := if okB c m k && okB d m k then 0 else 5
theorem loss_any (c d m k : Int) (w : World) :
    Calls Try.prog 21 #[.int .i64 c, .int .i64 d, .int .i64 m, .int .i64 k] w fun e W' => e = .returned (.tuple #[.int .i64 (lossV c d m k), .int .i64 (lossE c d m k)]) ∧ Below w.heap.size w W' := by
  unfold lossV lossE
  cases h1 : okB c m k
  · exact loss_no c d m k (.inl h1) w
  · cases h2 : okB d m k
    · exact loss_no c d m k (.inr h2) w
    · exact loss_yes c d m k (okB_iff.1 h1) (okB_iff.1 h2) w
theorem refL_any (c d m k : Int) (w : World) :
    Calls Try.prog 22 #[.int .i64 c, .int .i64 d, .int .i64 m, .int .i64 k] w fun e W' => e = .returned (.tuple #[.int .i64 (lossV c d m k), .int .i64 (lossE c d m k)]) ∧ Below w.heap.size w W' := by
  unfold lossV lossE
  cases h1 : okB c m k
  · exact refL_no c d m k (.inl h1) w
  · cases h2 : okB d m k
    · exact refL_no c d m k (.inr h2) w
    · exact refL_yes c d m k (okB_iff.1 h1) (okB_iff.1 h2) w

/-- lives -/
theorem ok131 : okB 1 3 1 = true := by decide
theorem ok031 : okB 0 3 1 = true := by decide
theorem ok331 : okB 3 3 1 = true := by decide
theorem w131 : wts 1 3 1 = [8, 8, 4, 4] := by decide
theorem w031 : wts 0 3 1 = [16, 4, 2, 2] := by decide
theorem reads_new (w : World) (l : List Int) (t : TypeId) : Reads (w.alloc (.cells (ints l).toArray t)) (w.heap.size + 1) 1 (some ⟨w.heap.size, 0, none⟩) l.length (ints l) := by
  refine ⟨by rw [ints_length, Nat.mul_one], fun _ => ⟨_, rfl, Nat.lt_succ_self _, fun j u hu => ?_⟩⟩
  have hb := Blk.new w t (ints l).toArray
  have e : (⟨w.heap.size, 0, none⟩ : Addr).add j = ⟨w.heap.size, j, none⟩ := by
    unfold Addr.add; split <;> simp_all
  rw [e]
  exact hb.at_ (by simpa using hu)
theorem Drawn.below {w w' : World} (h : Drawn w w') (b : Nat) : Below b w w' := by
  obtain ⟨n, rfl⟩ := h
  exact below_drewN' (Below.refl _ _) n

set_option maxHeartbeats 1000000 in
theorem lives_any (w : World) : Calls Try.prog 18 #[] w fun e W' => e = .returned (.bool true) ∧ Below w.heap.size w W' := by
  have k1 := fun W => weights_yes 1 3 1 (okB_iff.1 ok131) W
  have k2 := fun W => weights_yes 0 3 1 (okB_iff.1 ok031) W
  have k3 := fun W => loss_yes 0 3 3 1 (okB_iff.1 ok031) (okB_iff.1 ok331) W
  rw [w131] at k1
  rw [w031] at k2
  rw [show (1 : Int) * absD 0 3 = 3 by decide] at k3
  have K1 := Lib.hid k1
  have K2 := Lib.hid k2
  have K3 := Lib.hid k3
  clear k1 k2 k3
  go_enter Try.func18, Try.ntmps18
  go_wp2_with fail
  refine (K1.out _).mono ?_
  rintro e w1 ⟨v1, rfl, ho1, hb1⟩
  obtain ⟨A1, c1, rfl, hr1⟩ := own_reads ho1
  go_wp2_with fail
  refine (K2.out _).mono ?_
  rintro e w2 ⟨v2, rfl, ho2, hb2⟩
  obtain ⟨A2, c2, rfl, hr2⟩ := own_reads ho2
  go_wp2_with fail
  refine (K3.out _).mono ?_
  rintro e w3 ⟨rfl, hb3⟩
  have r1 : Reads w3 w3.heap.size 1 A1 4 (ints [8, 8, 4, 4]) := ((hr1.below hb2).below (hb3.mono hb2.size)).more (Nat.le_trans hb2.size hb3.size)
  have r2 : Reads w3 w3.heap.size 1 A2 4 (ints [16, 4, 2, 2]) := (hr2.below hb3).more hb3.size
  have hw : Below w.heap.size w w3 := (hb1.trans (hb2.mono hb1.size)).trans (hb3.mono (Nat.le_trans hb1.size hb2.size))
  clear ho1 ho2 hr1 hr2 hb1 hb2 hb3
  go_wp2_with fail
  have q1 := sameInts_any A1 (some ⟨w3.heap.size, 0, none⟩) 4 4 c1 4 [8, 8, 4, 4] [8, 8, 4, 4] (w3.heap.size + 1) (w3.alloc (.cells (ints [8, 8, 4, 4]).toArray 3)) ((r1.alloc (Nat.le_refl _) _).more (by omega)) (reads_new w3 [8, 8, 4, 4] 3) (by omega) (by omega)
  rw [show decide (([8, 8, 4, 4] : List Int) = [8, 8, 4, 4]) = true by decide] at q1
  refine q1.mono ?_
  rintro e w4 ⟨rfl, n4, rfl⟩
  clear q1
  go_wp2_with fail
  have q2 := sameInts_any A2 (some ⟨w3.heap.size + 1, 0, none⟩) 4 4 c2 4 [16, 4, 2, 2] [16, 4, 2, 2] (w3.heap.size + 1 + 1) (((w3.alloc (.cells (ints [8, 8, 4, 4]).toArray 3)).drewN n4).alloc (.cells (ints [16, 4, 2, 2]).toArray 3))
    ((((r2.alloc (Nat.le_refl _) _).drewN n4).alloc (by simp) _).more (by omega)) (by have := reads_new ((w3.alloc (.cells (ints [8, 8, 4, 4]).toArray 3)).drewN n4) [16, 4, 2, 2] 3; simpa using this) (by omega) (by omega)
  rw [show decide (([16, 4, 2, 2] : List Int) = [16, 4, 2, 2]) = true by decide] at q2
  refine q2.mono ?_
  rintro e w4 ⟨rfl, n5, rfl⟩
  clear q2
  go_wp2_with fail
  go_ret
  exact ⟨rfl, below_drewN' (below_more (below_drewN' (below_more hw (Nat.le_refl _) _) _) (Nat.le_refl _) _) _⟩
end Go.Proofs.Ytbofbihpmhkppaa
