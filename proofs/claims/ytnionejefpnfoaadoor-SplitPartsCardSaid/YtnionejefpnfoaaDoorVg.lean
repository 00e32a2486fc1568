/- The walk of All where the halves are known. Conditions: the ranges that the theorem states. -/
import Derived.Test.YtnionejefpnfoaaDoorVf
import Derived.Test.YtnionejefpnfoaaDoorDg
set_option linter.unusedSimpArgs false
set_option linter.unusedVariables false
namespace Go.Proofs.YtnionejefpnfoaaDoor
open Go.RowKit Go.Shelf Go
attribute [local go_sem] Oper.semAt_some

set_option maxRecDepth 100000 in
set_option maxHeartbeats 2000000 in
theorem leaves_any (s : ByteArray) (A : Option Addr) (n c : Nat) (T N lo hi a m t : Int) (w : World) :
    Calls Tryd.prog 21 #[spV s A n c T N lo hi, nodV a m t] w fun E W' => E = .returned (.func (.func 29) #[] #[.pointer (some ⟨w.heap.size + 1, 0, none⟩), .pointer (some ⟨w.heap.size, 0, none⟩)]) ∧ W' = (w.alloc (.cells (spC s A n c T N lo hi) 28)).alloc (.cells (nodC a m t) 53) := by
  go_enter Tryd.func21, Tryd.ntmps21
  go_wp2
  go_ret
  exact ⟨rfl, rfl⟩
/-- the list of All while it grows -/
structure AllI (w0 : World) (gl : Nat) (pre : List Int) (wr : World) : Prop where
  b : Below w0.heap.size w0 wr
  row : ∃ v, Blk wr gl 22 #[v] ∧ wr.ownsRow w0.heap.size 3 1 v pre.length (ints pre)
theorem AllI.abide {w0 : World} {gl B : Nat} (h0 : w0.heap.size ≤ B) (hgl : gl < B) : AbideT B 53 (AllI w0 gl) := by
  intro s W W' row ⟨hb, v, hv, ho⟩ hg hr
  refine ⟨hb.grown hg hb.size (fun r e => Nat.le_trans h0 (hr r e).1), v, hv.grown hg (fun e => ?_), ho.kept hg ?_⟩
  · have := (hr gl e.symm).1
    omega
  · rcases ho.2 with ⟨rfl, -⟩ | ⟨g, cap, cur, rfl, -, hgb, -⟩
    · exact .inl rfl
    · refine .inr fun e => ?_
      obtain ⟨-, o, ho', hc⟩ := hr g (by simpa [Value.ownBlock] using e.symm)
      rw [hgb] at ho'
      cases ho'
      rcases hc with hc | ⟨cs, hc⟩
      · cases hc
      · injection hc with e1 e2 e3
        cases e2
set_option maxRecDepth 100000 in
set_option maxHeartbeats 8000000 in
theorem all_any {s : ByteArray} {A : Option Addr} {n c : Nat} {l : List Int} {w : World} (h : Net s A n l w) {T lo hi : Int} {m : Nat} {D : Nat → Nat → Int → Int} {I : Nat → Nat → Int → Prop} (hO : SOk s n T (m : Int) lo hi) (H : Halved s A n c l T (m : Int) lo hi D I) (hI : I 0 m T) :
    Calls Tryd.prog 9 #[spV s A n c T (m : Int) lo hi] w fun E W' => ∃ v, E = .returned (.tuple #[v, .int .i64 0]) ∧ W'.ownsRow w.heap.size 3 1 v m (ints (parts D 0 m T)) ∧ Below w.heap.size w W' := by
  have HV := Lib.hid (fun W => validS_ok hO A c W)
  have HLV := Lib.hid (fun W => leaves_any s A n c T (m : Int) lo hi 0 (m : Int) T W)
  have HQ := Lib.hid (fun fu hfu gx gs W hb k1 k2 => leaves_seq h H fu hfu gx gs 0 m T hI W hb k1 k2)
  have HH := Lib.hid H
  have hN := Lib.hid h
  clear H h hO
  have c3 : ∀ W j v, Blk W w.heap.size 28 (spC s A n c T (m : Int) lo hi) → (spC s A n c T (m : Int) lo hi)[j]? = some v → W.cell? ⟨w.heap.size, j, none⟩ = some v := fun W j v hk hv => hk.at_ hv
  have k0 := Blk.new w 28 (spC s A n c T (m : Int) lo hi)
  have b0 := (Below.refl w.heap.size w).alloc (Nat.le_refl _) (.cells (spC s A n c T (m : Int) lo hi) 28)
  refine (callsIn_wide (n := 6)).1 ?_
  refine callsIn_of_wp_marks Tryd.func9 rfl trivial ?_ rfl
  simp only [Tryd.ntmps9, List.size_toArray, List.length_cons, List.length_nil, Nat.reduceAdd, Nat.reduceSub, Array.replicate_succ, Array.replicate_zero, List.push_toArray, List.append_toArray, List.nil_append, List.cons_append]
  gi_wp2
  refine ⟨trivial, ?_⟩
  refine (callsIn_wide.2 (HV.out _)).mono ?_
  rintro E w1 ⟨rfl, b1⟩
  have k1 := k0.thru b1
  have B1 := below_next b0 b1
  clear k0 b0 b1
  have k1a := k1.alloc (.cells #[.slice none 0 0] 22)
  have d0 : (w1.alloc (.cells #[.slice none 0 0] 22)).cell? ⟨w.heap.size, 0, none⟩ = some (.string s) := k1a.at_ rfl
  have d1 : (w1.alloc (.cells #[.slice none 0 0] 22)).cell? ⟨w.heap.size, 1, none⟩ = some (.slice A n c) := k1a.at_ rfl
  have d2 : (w1.alloc (.cells #[.slice none 0 0] 22)).cell? ⟨w.heap.size, 2, none⟩ = some (.int .i64 T) := k1a.at_ rfl
  have d3 : (w1.alloc (.cells #[.slice none 0 0] 22)).cell? ⟨w.heap.size, 3, none⟩ = some (.int .i64 (m : Int)) := k1a.at_ rfl
  have d4 : (w1.alloc (.cells #[.slice none 0 0] 22)).cell? ⟨w.heap.size, 4, none⟩ = some (.int .i64 lo) := k1a.at_ rfl
  have d5 : (w1.alloc (.cells #[.slice none 0 0] 22)).cell? ⟨w.heap.size, 5, none⟩ = some (.int .i64 hi) := k1a.at_ rfl
  clear c3
  gi_wp2
  refine ⟨trivial, ?_⟩
  refine (callsIn_wide.2 (HLV.out _)).mono ?_
  rintro E w2 ⟨rfl, hw2⟩
  have HW2 := Lib.hid hw2
  clear hw2
  gi_wp2
  have hw2 := HW2.out
  clear HW2
  have B2 : Below w.heap.size w w2 := by rw [hw2]; exact ((B1.alloc B1.size _).alloc (Nat.le_trans B1.size (by simp)) _).alloc (Nat.le_trans B1.size (by simp; omega)) _
  have g2 : Blk w2 w1.heap.size 22 #[.slice none 0 0] := by rw [hw2]; exact ((Blk.new w1 22 _).alloc _).alloc _
  have z2 : w2.heap.size = w1.heap.size + 3 := by rw [hw2]; simp
  have x2 : Blk w2 (w1.heap.size + 2) 53 (nodC ((0 : Nat) : Int) (m : Int) T) := by rw [hw2]; exact Blk.new' (by simp)
  have s2 : Blk w2 (w1.heap.size + 1) 28 (spC s A n c T (m : Int) lo hi) := by rw [hw2]; exact (Blk.new' (by simp)).alloc _
  have hq := HQ.out (6 - 1) (by omega) _ _ w2 B2 x2 s2
  have B1s := B1.size
  obtain ⟨XS, hXS⟩ : ∃ XS, XS = parts D 0 m T := ⟨_, rfl⟩
  have hXL : XS.length = m := by rw [hXS]; exact parts_len D m 0 T
  rw [← hXS] at hq
  have HXS := Lib.hid (And.intro hXS hXL)
  have hm6 := HH.out.few 0 m T hI
  clear hXS hXL hw2 d0 d1 d2 d3 d4 d5 k1a k1
  refine wpIn_rangeT rfl (by omega) (gf := 29) rfl trivial (enters_of Tryd.func29 (by kernel_rfl) rfl) hq
    (fun {A B C} h1 h2 => keepT_t h1 h2) (fun W l o o' hl ho hc => keepT_b _ W l o o' (by omega) ho hc)
    (Below.refl _ _) rfl (AllI w w1.heap.size) (AllI.abide (by omega) (by omega)) ⟨B2, _, g2, rfl, .inl ⟨rfl, rfl⟩⟩
    (fun x => { tmps := #[spV s A n c T (m : Int) lo hi, .pointer (some ⟨w.heap.size, 0, none⟩), .slice none 0 0, .int .i64 0, .int .i64 0, .pointer (some ⟨w1.heap.size, 0, none⟩), .int .i64 x, spV s A n c T (m : Int) lo hi, .int .i64 0, .int .i64 0, .bool false, undef, spV s A n c T (m : Int) lo hi, .pointer (some ⟨w.heap.size, 3, none⟩), .int .i64 (m : Int), .pointer (some ⟨w.heap.size, 2, none⟩), .int .i64 T, nodV 0 (m : Int) T,
      .func (.func 29) #[] #[.pointer (some ⟨w1.heap.size + 1 + 1, 0, none⟩), .pointer (some ⟨w1.heap.size + 1, 0, none⟩)], .int .i64 x, undef, undef, undef, undef, undef], defers := [] }) ?assign ?body ?done
  case assign =>
    intro l' x W K hK
    gi_wp2
    exact hK
  case body =>
    intro l' pre x W hA hpre
    obtain ⟨Ab, v, hv, ho⟩ := hA
    have hpl : pre.length ≤ 65536 := by
      have := hpre.length_le
      rw [HXS.out.2] at this
      simp at this
      omega
    have cv : W.cell? ⟨w1.heap.size, 0, none⟩ = some v := hv.at_ rfl
    obtain ⟨i0, hi0, hz0, hz1, hz2⟩ := info_parts info_i64
    have HO := Lib.hid ho
    have HVv := Lib.hid hv
    have hWs : w.heap.size ≤ W.heap.size := Ab.size
    have hbw : (pre.length + 1) * 8 ≤ 140737488355328 := by omega
    clear ho hv hq g2 x2 s2 hpre
    gi_wp2_with (gi_at_builtin; refine wpListIn_append_own _ rfl _ _ 22 rfl w.heap.size 3 i0 (.int .i64 0) 1 8 Tryd.underlying22 hi0 hz0 hz1 hz2 rfl (by decide) v pre.length (ints pre) rfl (HO.out.alloc _) ⟨W.heap.size, 0, none⟩ 1 1 [.int .i64 x] rfl rfl (cell_one_new _ _ _) (by simp [Value.oneCell']) (by unfold maxLen; omega) hbw (by simp; omega) ?_; intro v' w' ho' hg' _; obtain ⟨g', cap', rfl⟩ := ownsRow_succ ho'; obtain ⟨p1, p2, p3, p4, p5⟩ := Boxed.appended HVv.out (by decide) HO.out hWs (by omega) ho' hg'; have pc := p1.cell; have pf := p1.frozen)
    refine ⟨p4, ⟨fun g t cs hc h3 h22 => ?_, p5⟩, ⟨Below.trans Ab p5, _, p2, ?_⟩⟩
    · have hn : some g ≠ v.ownBlock := own_ne_blk HO.out hc (Ne.symm h3)
      have hgl : w1.heap.size ≠ g := by
        intro e
        subst e
        have h4 := HVv.out
        unfold Blk at h4 hc
        rw [h4] at hc
        injection hc with hc
        injection hc with e1 e2 e3
        exact h22 e2.symm
      exact ((hc.alloc _).grown hg' hn).far (p := ⟨w1.heap.size, 0, none⟩) hgl.symm _
    · rw [ints_snoc, List.length_append]
      exact p3
  case done =>
    intro Dd W hD hA hd
    obtain ⟨Ab, v, hv, ho⟩ := hA
    have cv : W.cell? ⟨w1.heap.size, 0, none⟩ = some v := hv.at_ rfl
    gi_wp2
    refine ⟨by simp, .inl ⟨_, _, rfl, run_takeDeferred hd, ?_⟩⟩
    refine ⟨.tuple #[v, .int .i64 0], ?_, v, rfl, ?_, ?_⟩
    · simp [results, Tryd.results9, go_sem]
    · rw [← HXS.out.1, ← HXS.out.2]
      exact ownsRow_putObj ho _ hd rfl
    · exact Ab.trans (belowK_b (w := w) (Nat.le_refl _) W Dd _ _ (by omega) hd rfl rfl)
end Go.Proofs.YtnionejefpnfoaaDoor
