/- The walk of leaves: the iterator over the parts of a split. Conditions: the ranges that the theorems state; what halves returns is named by D. -/
import Derived.Test.YtnionejefpnfoaaDoorVe
import Derived.BigGuardIn
import Derived.BigFrameIn
set_option linter.unusedSimpArgs false
set_option linter.unusedVariables false
namespace Go.Proofs.YtnionejefpnfoaaDoor
open Go.RowKit Go.Shelf Go
attribute [local go_sem] Oper.semAt_some

/-- nodes whose halves are D's -/
structure Halved (s : ByteArray) (A : Option Addr) (n c : Nat) (l : List Int) (T N lo hi : Int) (D : Nat → Nat → Int → Int) (I : Nat → Nat → Int → Prop) : Prop where
  few : ∀ a m t, I a m t → m ≤ 65536
  walk : ∀ a m t, I a m t → 2 ≤ m → ∀ W, Net s A n l W → Calls Tryd.prog 30 #[spV s A n c T N lo hi, nodV (a : Int) (m : Int) t] W fun E W' =>
    E = .returned (.tuple #[nodV (a : Int) ((m / 2 : Nat) : Int) (D a m t), nodV ((a + m / 2 : Nat) : Int) ((m - m / 2 : Nat) : Int) (t - D a m t)]) ∧ Below W.heap.size W W'
  left : ∀ a m t, I a m t → 2 ≤ m → I a (m / 2) (D a m t)
  right : ∀ a m t, I a m t → 2 ≤ m → I (a + m / 2) (m - m / 2) (t - D a m t)
/-- the state of the iterator's loop -/
structure LS (w0 W : World) (gs : Nat) (sp : Array Value) (D : Nat → Nat → Int → Int) (I : Nat → Nat → Int → Prop) (J : List Int → World → Prop) (xs pre : List Int) (L : List Nd) (v : Value) (wr : World) : Prop where
  own : wr.ownsRow W.heap.size 53 3 v L.length (nCells L)
  b : Below w0.heap.size w0 wr
  base : w0.heap.size ≤ W.heap.size
  sz : W.heap.size ≤ wr.heap.size
  sb : Blk wr gs 28 sp
  j : J pre wr
  out : xs = pre ++ outs D L
  inv : ∀ x ∈ L, I x.1 x.2.1 x.2.2
  few : wgt L ≤ 65536
/-- the last node is taken off the stack -/
theorem LS.pop {w0 W : World} {gs : Nat} {sp : Array Value} {D : Nat → Nat → Int → Int} {I : Nat → Nat → Int → Prop} {J : List Int → World → Prop} {xs pre : List Int} {M : List Nd} {x : Nd} {g k cap : Nat} {wr : World}
    (h : LS w0 W gs sp D I J xs pre (M ++ [x]) (.slice (some ⟨g, 0, none⟩) (k + 1) cap) wr) (hk : k = M.length) (hJ : ∀ s A B row, J s A → A.grownBy B row → (∀ r, row = some r → W.heap.size ≤ r ∧ ∃ cs, A.heap[r]? = some (.cells cs 53 (0, 0))) → J s B) (cs : Array Value) :
    LS w0 W gs sp D I J xs pre (M ++ [x]) (.slice (some ⟨g, 0, none⟩) (k + 1) cap) (wr.alloc (.cells cs 53)) ∧
    (∀ wx pre', xs = pre' ++ outs D M → wx.ownsRow W.heap.size 53 3 (.slice (some ⟨g, 0, none⟩) k cap) k (nCells M) → Below w0.heap.size w0 wx → W.heap.size ≤ wx.heap.size → Blk wx gs 28 sp → J pre' wx → LS w0 W gs sp D I J xs pre' M (.slice (some ⟨g, 0, none⟩) k cap) wx ∧ left (.slice (some ⟨g, 0, none⟩) k cap) wx < left (.slice (some ⟨g, 0, none⟩) (k + 1) cap) wr) ∧
    (wr.alloc (.cells cs 53)).ownsRow W.heap.size 53 3 (.slice (some ⟨g, 0, none⟩) k cap) k (nCells M) ∧ xs = pre ++ (parts D x.1 x.2.1 x.2.2 ++ outs D M) := by
  subst hk
  have ho := h.own
  have hlen : (M ++ [x]).length = M.length + 1 := by simp
  have hn : (wr.alloc (.cells cs 53)).ownsRow W.heap.size 53 3 (.slice (some ⟨g, 0, none⟩) (M.length + 1) cap) (M ++ [x]).length (nCells (M ++ [x])) := ho.alloc _
  have e1 := left_eq (c := cap) (A := some ⟨g, 0, none⟩) (L := M ++ [x]) (by rw [hlen] at ho ⊢; exact ho)
  rw [hlen] at e1
  have ho2 := hn
  rw [hlen, nCells_app] at ho2
  have hpop := own_pop ho2 (nCells_len M)
  have hout := h.out
  rw [outs_app] at hout
  refine ⟨⟨hn, h.b.alloc h.b.size _, h.base, by have := h.sz; simp; omega, h.sb.alloc _, hJ _ _ _ none h.j (World.grownBy_alloc wr _ none) (fun r e => by cases e), h.out, h.inv, h.few⟩, ?_, hpop, by rw [hout]; simp [outs]⟩
  intro wx pre' hx hw hb hz hs hj
  refine ⟨⟨hw, hb, h.base, hz, hs, hj, hx, fun y hy => h.inv y (List.mem_append_left _ hy), by have := h.few; rw [wgt_app] at this; omega⟩, ?_⟩
  rw [left_eq hw, e1, ms_app]
  simp [ms]
  omega
theorem info_nd : (Tryd.prog.info? 53).map (fun i => (i.zero, i.size, i.bytes)) = some (some (.agg #[.int .i64 0, .int .i64 0, .int .i64 0]), 3, 24) := by kernel_rfl
/-- two nodes are laid on the stack in the place of the last one -/
theorem LS.push {w0 W : World} {gs : Nat} {sp : Array Value} {D : Nat → Nat → Int → Int} {I : Nat → Nat → Int → Prop} {J : List Int → World → Prop} {xs pre : List Int} {M : List Nd} {x y z : Nd} {g k cap : Nat} {wr wa w2 w' : World} {v v' : Value} {c1 c2 c3 : Array Value}
    (h : LS w0 W gs sp D I J xs pre (M ++ [x]) (.slice (some ⟨g, 0, none⟩) (k + 1) cap) wr) (hk : k = M.length) (hJ : ∀ s A B row, J s A → A.grownBy B row → (∀ r, row = some r → W.heap.size ≤ r ∧ ∃ cs, A.heap[r]? = some (.cells cs 53 (0, 0))) → J s B)
    (q : LS w0 W gs sp D I J xs pre (M ++ [x]) v wa) (ho : wa.ownsRow W.heap.size 53 3 (.slice (some ⟨g, 0, none⟩) k cap) k (nCells M)) (hx : xs = pre ++ (parts D x.1 x.2.1 x.2.2 ++ outs D M)) (b2 : Below wa.heap.size wa w2)
    (ho' : w'.ownsRow W.heap.size 53 3 v' (k + 2) (nCells M ++ nCells [y, z])) (hg : (((w2.alloc (.cells c1 53)).alloc (.cells c2 53)).alloc (.cells c3 53)).grownBy w' (some g))
    (hp : parts D x.1 x.2.1 x.2.2 = parts D z.1 z.2.1 z.2.2 ++ parts D y.1 y.2.1 y.2.2) (hm : max 1 (2 * z.2.1 - 1) + max 1 (2 * y.2.1 - 1) < max 1 (2 * x.2.1 - 1) ∧ max 1 z.2.1 + max 1 y.2.1 ≤ max 1 x.2.1)
    (hy : I y.1 y.2.1 y.2.2) (hz : I z.1 z.2.1 z.2.2) : (∃ L pre, LS w0 W gs sp D I J xs pre L v' w') ∧ left v' w' < left (.slice (some ⟨g, 0, none⟩) (k + 1) cap) wr := by
  subst hk
  have hlen : (M ++ [x]).length = M.length + 1 := by simp
  have e1 := left_eq (c := cap) (A := some ⟨g, 0, none⟩) (L := M ++ [x]) (by have := h.own; rw [hlen] at this ⊢; exact this)
  rw [hlen] at e1
  have hlen2 : (M ++ [y, z]).length = M.length + 2 := by simp
  have ow : w'.ownsRow W.heap.size 53 3 v' (M ++ [y, z]).length (nCells (M ++ [y, z])) := by rw [hlen2, nCells_app]; exact ho'
  obtain ⟨A', cap', rfl, -, -, -⟩ := own_slice ow
  have o2 := own_below ho b2
  have o3 := (((o2.alloc (.cells c1 53)).alloc (.cells c2 53)).alloc (.cells c3 53))
  have hge : W.heap.size ≤ g ∧ ∃ cs, (((w2.alloc (.cells c1 53)).alloc (.cells c2 53)).alloc (.cells c3 53)).heap[g]? = some (.cells cs 53 (0, 0)) := by
    rcases h.own.2 with ⟨e, -⟩ | ⟨g1, cap1, cur1, e, hg1, hh1, -⟩
    · cases e
    · injection e with e4 e5 e6
      injection e4 with e4
      injection e4 with e4
      subst e4
      rcases o3.2 with ⟨e, -⟩ | ⟨g2, cap2, cur2, e, hg2, hh2, -⟩
      · cases e
      · injection e with e4 e5 e6
        injection e4 with e4
        injection e4 with e4
        subst e4
        exact ⟨hg1, cur2, hh2⟩
  have s2 := b2.size
  have sq := q.sz
  have bq := q.b.size
  have B2 : Below w0.heap.size w0 w2 := below_next q.b b2
  have B3 : Below w0.heap.size w0 (((w2.alloc (.cells c1 53)).alloc (.cells c2 53)).alloc (.cells c3 53)) := ((B2.alloc B2.size _).alloc (Nat.le_trans B2.size (by simp)) _).alloc (Nat.le_trans B2.size (by simp; omega)) _
  have s3 : w2.heap.size ≤ (((w2.alloc (.cells c1 53)).alloc (.cells c2 53)).alloc (.cells c3 53)).heap.size := by simp; omega
  have hne : some gs ≠ some g := by
    intro e
    injection e with e
    subst e
    obtain ⟨-, cs, hcs⟩ := hge
    have hb := (((q.sb.thru b2).alloc (.cells c1 53)).alloc (.cells c2 53)).alloc (.cells c3 53)
    unfold Blk at hb
    rw [hb] at hcs
    injection hcs with hcs
    injection hcs with e1 e2 e3
    cases e2
  have hW0 : w0.heap.size ≤ w0.heap.size := Nat.le_refl _
  refine ⟨⟨M ++ [y, z], pre, ow, ?_, h.base, ?_, ?_, ?_, ?_, ?_, ?_⟩, ?_⟩
  · exact B3.grown hg B3.size (fun r e => by injection e with e; subst e; exact Nat.le_trans h.base hge.1)
  · exact Nat.le_trans (Nat.le_trans sq (Nat.le_trans s2 s3)) hg.size
  · exact ((((q.sb.thru b2).alloc (.cells c1 53)).alloc (.cells c2 53)).alloc (.cells c3 53)).grown hg hne
  · refine hJ _ _ _ _ (hJ _ _ _ none (hJ _ _ _ none (hJ _ _ _ none (hJ _ _ _ none q.j (grownBy_of_below b2) (fun r e => by cases e)) (World.grownBy_alloc _ _ none) (fun r e => by cases e)) (World.grownBy_alloc _ _ none) (fun r e => by cases e)) (World.grownBy_alloc _ _ none) (fun r e => by cases e)) hg ?_
    intro r e
    injection e with e
    subst e
    exact hge
  · rw [hx, hp, outs_app]
    simp [outs]
  · intro u hu
    rcases List.mem_append.1 hu with h1 | h1
    · exact h.inv u (List.mem_append_left _ h1)
    · simp only [List.mem_cons, List.not_mem_nil, or_false] at h1
      rcases h1 with rfl | rfl
      · exact hy
      · exact hz
  · have := h.few
    rw [wgt_app] at this ⊢
    simp only [wgt] at this ⊢
    omega
  · rw [hlen2] at ow
    have e2 := left_eq (c := cap') (A := A') (L := M ++ [y, z]) (by rw [hlen2]; exact ow)
    rw [hlen2] at e2
    rw [hlen2, e2, e1, ms_app, ms_app]
    simp only [ms]
    omega
set_option maxRecDepth 100000 in
set_option maxHeartbeats 8000000 in
theorem leaves_seq {s : ByteArray} {A : Option Addr} {n c : Nat} {l : List Int} {w0 : World} (h : Net s A n l w0) {T N lo hi : Int} {D : Nat → Nat → Int → Int} {I : Nat → Nat → Int → Prop} (H : Halved s A n c l T N lo hi D I)
    (fu : Nat) (hfu : 2 ≤ fu) (gx gs : Nat) (a m : Nat) (t : Int) (hI : I a m t) (w : World) (hb : Below w0.heap.size w0 w) (h1 : Blk w gx 53 (nodC a m t)) (h2 : Blk w gs 28 (spC s A n c T N lo hi)) :
    SeqT Fence.wide fu Tryd.prog 29 #[.pointer (some ⟨gx, 0, none⟩), .pointer (some ⟨gs, 0, none⟩)] 53 (KeepT w0.heap.size) (parts D a m t) w := fun lo' J W hW hJ hY hj0 => by
  obtain ⟨X, hX⟩ : ∃ X, X = parts D a m t := ⟨_, rfl⟩
  rw [← hX] at hY ⊢
  have hm := H.few a m t hI
  have hB := hb.trans (hW.mono hb.size)
  have k1 := h1.below hW h1.lt
  have k2 := h2.below hW h2.lt
  have HH := Lib.hid H
  have HJ := Lib.hid hJ
  have HY := Lib.hid hY
  have HX := Lib.hid hX
  clear H hJ hY hX
  refine callsIn_of_wp Tryd.func29 rfl trivial ?_ rfl
  simp only [Tryd.ntmps29, List.size_toArray, List.length_cons, List.length_nil, Nat.reduceAdd, Nat.reduceSub, Array.replicate_succ, Array.replicate_zero, List.push_toArray, List.append_toArray, List.nil_append, List.cons_append]
  have e0 : W.cell? ⟨gx, 0, none⟩ = some (.int .i64 (a : Int)) := k1.at_ rfl
  have e1 : W.cell? ⟨gx, 1, none⟩ = some (.int .i64 (m : Int)) := k1.at_ rfl
  have e2 : W.cell? ⟨gx, 2, none⟩ = some (.int .i64 t) := k1.at_ rfl
  gi_wp2
  have b0 : Below w0.heap.size w0 (W.alloc (.cells #[.int .i64 (a : Int), .int .i64 (m : Int), .int .i64 t] 53)) := hB.alloc hB.size _
  have z0 : W.heap.size ≤ (W.alloc (.cells #[.int .i64 (a : Int), .int .i64 (m : Int), .int .i64 t] 53)).heap.size := by simp
  have k3 := k2.alloc (.cells #[.int .i64 (a : Int), .int .i64 (m : Int), .int .i64 t] 53)
  have l0 : LS w0 W gs (spC s A n c T N lo hi) D I J X [] [(a, m, t)] (.slice (some ⟨W.heap.size, 0, none⟩) 1 1) (W.alloc (.cells #[.int .i64 (a : Int), .int .i64 (m : Int), .int .i64 t] 53)) :=
    ⟨⟨rfl, .inr ⟨W.heap.size, 1, _, rfl, Nat.le_refl _, heap_alloc_new W _, Nat.le_refl _, by unfold maxLen; omega, rfl, rfl⟩⟩, b0, hB.size, z0, k3, HJ.out _ _ _ none hj0 (World.grownBy_alloc W _ none) (fun r e => by cases e), by simp [outs, HX.out], by
      intro x hx
      rw [List.mem_singleton.1 hx]
      exact hI, by unfold wgt; simp [wgt]; omega⟩
  clear b0 z0 k3 k1 k2 e0 e1 e2
  generalize (W.alloc (.cells #[.int .i64 (a : Int), .int .i64 (m : Int), .int .i64 t] 53)) = W3 at *
  gi_loopw [4] (fun v wr => ∃ L pre, LS w0 W gs (spC s A n c T N lo hi) D I J X pre L v wr) (fun v wr => left v wr)
  case atStart => exact ⟨_, _, l0⟩
  case round =>
    clear l0
    obtain ⟨L, pre, hL⟩ := hrel
    have hown := hL.own
    rcases List.eq_nil_or_concat L with rfl | ⟨M, ⟨a', m', t'⟩, rfl⟩
    · obtain ⟨A', c', rfl, -, -, -⟩ := own_slice hown
      have ho := hL.out
      have hj := hL.j
      clear hown hL
      gi_wp2
      go_end0
      refine ⟨⟨_, rfl⟩, ?_⟩
      rw [ho]
      simpa [outs] using hj
    · rw [List.concat_eq_append] at *
      obtain ⟨k, hk⟩ : ∃ k, k = M.length := ⟨_, rfl⟩
      have hlen : (M ++ [(a', m', t')]).length = k + 1 := by simp [hk]
      rw [hlen] at hown
      rw [nCells_app] at hown
      have hq := hown.2
      rcases hq with ⟨-, h0⟩ | ⟨g, cap, cur, rfl, hg, hh, hkc, hcm, hcs, htk⟩
      · cases h0
      have HM := Lib.hid hk
      have c0 : wr.cell? ((⟨g, 0, none⟩ : Addr).add (k * 3)) = some (.int .i64 (a' : Int)) := hown.cells (g := g) rfl (k * 3) _ (by rw [List.getElem?_append_right (by rw [nCells_len, hk]; exact Nat.le_refl _), nCells_len, hk, Nat.sub_self]; rfl)
      have c1 : wr.cell? ((⟨g, 0, none⟩ : Addr).add (k * 3 + 1)) = some (.int .i64 (m' : Int)) := hown.cells (g := g) rfl (k * 3 + 1) _ (by rw [List.getElem?_append_right (by rw [nCells_len, hk]; omega), nCells_len, hk, show M.length * 3 + 1 - M.length * 3 = 1 by omega]; rfl)
      have c2 : wr.cell? ((⟨g, 0, none⟩ : Addr).add (k * 3 + 2)) = some (.int .i64 t') := hown.cells (g := g) rfl (k * 3 + 2) _ (by rw [List.getElem?_append_right (by rw [nCells_len, hk]; omega), nCells_len, hk, show M.length * 3 + 2 - M.length * 3 = 2 by omega]; rfl)
      rw [addr_add0] at c0 c1 c2
      have hfew := hL.few
      rw [wgt_app] at hfew
      have hwl := wgt_len M
      have hkb : k ≤ 65536 := by omega
      have HL := Lib.hid hL
      have HO := Lib.hid hown
      clear hL hown htk hwl hfew hlen hk
      rcases (show m' = 0 ∨ m' = 1 ∨ 2 ≤ m' by omega) with rfl | rfl | h2m
      · gi_wp2
        rename_i hK x1 x2 x3 x4
        refine ⟨(fun f hf => by cases hf), hK _ _ ?_⟩
        clear x4 x3 x2 x1 hK
        gi_wp2
        obtain ⟨q1, q2, q3, q4⟩ := LS.pop HL.out HM.out HJ.out #[.int .i64 (a' : Int), .int .i64 0, .int .i64 t']
        obtain ⟨r1, r2⟩ := q2 _ pre (by rw [q4, parts_none]; rfl) q3 q1.b q1.sz q1.sb q1.j
        exact ⟨⟨M, pre, r1⟩, r2⟩
      · have hp : pre ++ [t'] <+: X := by
          have := HL.out.out
          rw [outs_app] at this
          rw [this]
          simp only [outs, parts_one, List.nil_append]
          exact ⟨outs D M, by simp⟩
        obtain ⟨q1, q2, q3, q4⟩ := LS.pop HL.out HM.out HJ.out #[.int .i64 (a' : Int), .int .i64 1, .int .i64 t']
        have hL1 : X = pre ++ (parts D a' 1 t' ++ outs D M) → X = (pre ++ [t']) ++ outs D M := fun e => by rw [e, parts_one]; simp
        obtain ⟨fn, tmps, assign, body, hy, hR⟩ := HY.out pre t' _ q1.j hp
        have ho := hL1 q4
        gi_wp2
        refine ⟨fun _ => by omega, ?_⟩
        refine hR.mono ?_
        rintro E wy ⟨rfl, hj2, hk2⟩
        gi_wp2
        obtain ⟨r1, r2⟩ := q2 wy (pre ++ [t']) ho (hk2.row q3 (by decide) (by decide)) (q1.b.trans hk2.below) (Nat.le_trans q1.sz hk2.below.size) (hk2.blk _ _ _ q1.sb (by decide) (by decide)) hj2
        exact ⟨⟨M, _, r1⟩, r2⟩
      · have m1 : ¬ (m' : Int) ≤ 1 := by omega
        have m2 : ¬ (m' : Int) = 1 := by omega
        have m3 : (1 : Int) < (m' : Int) := by omega
        obtain ⟨q1, q2, q3, q4⟩ := LS.pop HL.out HM.out HJ.out #[.int .i64 (a' : Int), .int .i64 (m' : Int), .int .i64 t']
        have hmem : (a', m', t') ∈ M ++ [(a', m', t')] := by simp
        have hin := HL.out.inv _ hmem
        have HQ := Lib.hid (And.intro q1 (And.intro q2 (And.intro q3 q4)))
        have hN3 := h.below q1.b
        have hw := HH.out.walk a' m' t' hin h2m _ hN3
        have HL' := Lib.hid (HH.out.left a' m' t' hin h2m)
        have HR' := Lib.hid (HH.out.right a' m' t' hin h2m)
        have HP : Hid (parts D a' m' t' = parts D a' (m' / 2) (D a' m' t') ++ parts D (a' + m' / 2) (m' - m' / 2) (t' - D a' m' t')) := Lib.hid (parts_two D a' m' t' h2m)
        have HMS : Hid (max 1 (2 * (m' / 2) - 1) + max 1 (2 * (m' - m' / 2) - 1) < max 1 (2 * m' - 1) ∧ max 1 (m' / 2) + max 1 (m' - m' / 2) ≤ max 1 m') := Lib.hid (by omega)
        generalize D a' m' t' = dx at *
        generalize t' - dx = dy at *
        generalize a' + m' / 2 = ar at *
        generalize m' - m' / 2 = mr at *
        generalize m' / 2 = ml at *
        have HW := Lib.hid hw
        clear hw hin
        have s2 := q1.sb
        clear hN3 q1 q2 q3 q4 hmem
        have d0 : (wr.alloc (.cells #[.int .i64 (a' : Int), .int .i64 (m' : Int), .int .i64 t'] 53)).cell? ⟨gs, 0, none⟩ = some (.string s) := s2.at_ rfl
        have d1 : (wr.alloc (.cells #[.int .i64 (a' : Int), .int .i64 (m' : Int), .int .i64 t'] 53)).cell? ⟨gs, 1, none⟩ = some (.slice A n c) := s2.at_ rfl
        have d2 : (wr.alloc (.cells #[.int .i64 (a' : Int), .int .i64 (m' : Int), .int .i64 t'] 53)).cell? ⟨gs, 2, none⟩ = some (.int .i64 T) := s2.at_ rfl
        have d3 : (wr.alloc (.cells #[.int .i64 (a' : Int), .int .i64 (m' : Int), .int .i64 t'] 53)).cell? ⟨gs, 3, none⟩ = some (.int .i64 N) := s2.at_ rfl
        have d4 : (wr.alloc (.cells #[.int .i64 (a' : Int), .int .i64 (m' : Int), .int .i64 t'] 53)).cell? ⟨gs, 4, none⟩ = some (.int .i64 lo) := s2.at_ rfl
        have d5 : (wr.alloc (.cells #[.int .i64 (a' : Int), .int .i64 (m' : Int), .int .i64 t'] 53)).cell? ⟨gs, 5, none⟩ = some (.int .i64 hi) := s2.at_ rfl
        clear s2
        gi_wp2
        refine ⟨trivial, fun _ => by omega, ?_⟩
        refine (callsIn_wide.2 HW.out).mono ?_
        rintro E w2 ⟨rfl, b2⟩
        clear d0 d1 d2 d3 d4 d5 c0 c1 c2
        have hq1 := HQ.out.2.2.1
        have ho2 := own_below hq1 b2
        have ho3 := Lib.hid ((ho2.alloc (.cells #[.int .i64 (a' : Int), .int .i64 (ml : Int), .int .i64 dx] 53)).alloc (.cells #[.int .i64 (ar : Int), .int .i64 (mr : Int), .int .i64 dy] 53))
        have hkk : (k + 2) * 24 ≤ 140737488355328 := by omega
        clear hq1 ho2
        obtain ⟨i0, hi0, hz0, hz1, hz2⟩ := info_parts info_nd
        have hbs : W.heap.size ≤ w2.heap.size := Nat.le_trans HQ.out.1.sz b2.size
        have hnew : Hid (∀ (o1 o2 : Obj) (j : Nat) (u : Value), (nCells [(ar, mr, dy), (a', ml, dx)])[j]? = some u → (((w2.alloc o1).alloc o2).alloc (.cells #[.int .i64 (ar : Int), .int .i64 (mr : Int), .int .i64 dy, .int .i64 (a' : Int), .int .i64 (ml : Int), .int .i64 dx] 53)).cell? ((⟨w2.heap.size + 1 + 1, 0, none⟩ : Addr).add j) = some u) := Lib.hid (fun o1 o2 j u hu => by
          rw [addr_add0]
          have hz : w2.heap.size + 1 + 1 = ((w2.alloc o1).alloc o2).heap.size := by simp
          rw [hz]
          exact (Blk.new _ 53 _).at_ (by simpa [nCells] using hu))
        have hone := Lib.hid (nCells_one [(ar, mr, dy), (a', ml, dx)])
        gi_wp2_with (gi_at_builtin; refine wpListIn_append_own _ rfl _ _ 63 rfl W.heap.size 53 i0 (.agg #[.int .i64 0, .int .i64 0, .int .i64 0]) 3 24 Tryd.underlying63 hi0 hz0 hz1 hz2 rfl (by decide) _ _ _ rfl (ho3.out.alloc _) ⟨w2.heap.size + 1 + 1, 0, none⟩ 2 2 (nCells [(ar, mr, dy), (a', ml, dx)]) rfl rfl (hnew.out _ _) hone.out (by unfold maxLen; omega) hkk (by simp; omega) ?_; intro v' w' ho' hg' _)
        obtain ⟨q1, q2, q3, q4⟩ := HQ.out
        exact LS.push HL.out HM.out HJ.out q1 q3 q4 b2 ho' hg' HP.out HMS.out HR'.out HL'.out
end Go.Proofs.YtnionejefpnfoaaDoor
