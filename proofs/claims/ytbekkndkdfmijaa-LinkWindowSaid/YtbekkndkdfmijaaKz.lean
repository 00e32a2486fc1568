/- slices.Clone of rows of bytes (44), Copy of an end (31). Condition: at most a thousand messages wait. -/
import Derived.Test.YtbekkndkdfmijaaKr
import Derived.Maps.RangeWalk
import Derived.Maps.Ext
set_option linter.unusedSimpArgs false
set_option linter.unusedVariables false
namespace Go.Proofs.Ytbekkndkdfmijaa
open Go.RowKit Go

theorem eql_nil28 (W : World) (A : Option Addr) (n c : Nat) : (binOp .eql 28 (.slice A n c) (.slice none 0 0)).run Try.prog W = .ok (.bool A.isNone) W := by
  exact Lib.run_eql_slice_nil W 28 33 A n c 0 0 Try.underlying28
set_option maxRecDepth 100000 in
set_option maxHeartbeats 2000000 in
theorem cloneRows_any (A : Option Addr) (n c : Nat) (vs : List Value) (w : World) (ho : w.ownsRow 0 33 1 (.slice A n c) n vs) (h1 : ∀ u ∈ vs, u.oneCell' = true) (hn : n ≤ 1000000) :
    Calls Try.prog 44 #[.slice A n c] w fun e W' => ∃ v, e = .returned v ∧ W'.ownsRow w.heap.size 33 1 v n vs ∧ Below w.heap.size w W' := by
  obtain ⟨i0, hi, hz0, hz1, hz2⟩ := info_parts info33
  have hl := Reads.of_own ho
  have hq := fun W => eql_nil28 W A n c
  have hvs : vs.length = n := by have := ho.1; omega
  cases hA : A.isNone with
  | true =>
    rw [hA] at hq
    obtain rfl : A = none := by simpa using hA
    have h0 : n = 0 := by
      rcases Nat.eq_zero_or_pos n with h0 | h0
      · exact h0
      · obtain ⟨ad, h, _⟩ := hl.2 h0
        cases h
    subst h0
    obtain rfl : vs = [] := List.length_eq_zero_iff.1 hvs
    clear hvs hA
    go_enter Try.func44, Try.ntmps44
    go_wp2_with fail
    go_ret
    exact ⟨_, rfl, World.ownsRow_nil _ _ _ _, Below.refl _ w⟩
  | false =>
    rw [hA] at hq
    have HV := Lib.hid hvs
    clear hvs hA
    go_enter Try.func44, Try.ntmps44
    go_wp2_with (at_builtin; refine wpList_append_reads _ rfl _ _ 28 rfl w.heap.size 33 i0 (.slice none 0 0) 1 24 Try.underlying28 hi hz0 hz1 hz2 rfl (by decide) _ _ _ rfl (own_new w 33 #[] _ (Nat.le_refl _) (by unfold maxLen; simp)) _ A n c vs rfl (hl.alloc (Nat.le_refl _) _) h1 (by unfold maxLen; simp; omega) (by simp; omega) (by simp) ?_; intro v' w3 hown' hgrow)
    go_ret
    refine ⟨_, rfl, by simpa using hown', ?_⟩
    have hb : Below w.heap.size w (w.alloc (.cells #[] 33)) := (Below.refl _ w).alloc (Nat.le_refl _) _
    refine hb.grown hgrow (by simp) ?_
    intro k hk
    have hk2 : some w.heap.size = some k := hk
    injection hk2 with hk2
    omega
set_option maxRecDepth 100000 in
set_option maxHeartbeats 4000000 in
theorem copy_any (g h N : Nat) (q : Option Nat) (E : EndV) (w : World) (H : EndAt w g q h N E) (hwl : E.wait.length ≤ 1000) (hN : N ≤ 100000) :
    Calls Try.prog 31 #[.pointer (some ⟨g, 0, none⟩)] w fun e W' => ∃ g' h' q', e = .returned (.pointer (some ⟨g', 0, none⟩)) ∧ EndAt W' g' q' h' N E ∧ (∀ i ∈ g' :: h' :: q'.toList, w.heap.size ≤ i) ∧ Below w.heap.size w W' := by
  have hmm := @run_makeMap Try.prog
  have H0 := H
  obtain ⟨A, n, c, vs, D, k, rfl, ho, hq, hr, hM, hH⟩ := H
  have c0 : w.cell? ⟨g, 0, none⟩ = some (.int .i64 (E.win : Int)) := k.at_ rfl
  have c1 : w.cell? ⟨g, 1, none⟩ = some (.int .u64 (E.key : Int)) := k.at_ rfl
  have c2 : w.cell? ⟨g, 2, none⟩ = some (.slice A E.wait.length c) := k.at_ rfl
  have c3 : w.cell? ⟨g, 3, none⟩ = some (.int .i64 (E.ack : Int)) := k.at_ rfl
  have c4 : w.cell? ⟨g, 4, none⟩ = some (.int .i64 (E.got : Int)) := k.at_ rfl
  have c5 : w.cell? ⟨g, 5, none⟩ = some (.map (some h)) := k.at_ rfl
  have c6 : w.cell? ⟨g, 6, none⟩ = some (.bool E.owe) := k.at_ rfl
  have c7 : w.cell? ⟨g, 7, none⟩ = some (.int .i64 (E.forg : Int)) := k.at_ rfl
  go_enter Try.func31, Try.ntmps31
  go_upto_region 2 with fail
  have k1 := Blk.new w 65 (endV E A E.wait.length c h)
  have b1 : Below w.heap.size w (w.alloc (.cells (endV E A E.wait.length c h) 65)) := (Below.refl _ w).alloc (Nat.le_refl _) _
  have z1 : (w.alloc (.cells (endV E A E.wait.length c h) 65)).heap.size = w.heap.size + 1 := by simp
  have hr1 := hr.one
  generalize w.alloc (.cells (endV E A E.wait.length c h) 65) = w1 at *
  have d2 : w1.cell? ⟨g, 2, none⟩ = some (.slice A E.wait.length c) := (k.thru b1).at_ rfl
  have HR := Lib.hid hr
  have HM := Lib.hid hM
  have HH := Lib.hid hH
  have HQ := Lib.hid hq
  have HO := Lib.hid ho
  clear c0 c1 c2 c3 c4 c5 c6 c7 hr hM hH hq ho
  go_wp2_with fail
  refine (cloneRows_any A E.wait.length c vs w1 (own_ok HO.out b1) hr1 (by omega)).mono ?_
  rintro - w2 ⟨v2, rfl, ho2, b2⟩
  obtain ⟨A2, c2, rfl, -, -, -⟩ := own_slice ho2
  have k2 := k1.ok b2
  have t2 : w2.cell? ⟨w.heap.size, 2, none⟩ = some (.slice A E.wait.length c) := k2.at_ rfl
  have f2 := k2.frozen 2
  clear d2
  go_upto_region 3 with fail
  have hb2 := below_next b1 b2
  have z2 := b2.size
  have k3 : Blk (w2.setCell ⟨w.heap.size, 2, none⟩ (.slice A2 E.wait.length c2)) w.heap.size 65 (endV E A2 E.wait.length c2 h) := k2.set_ 2 _
  have b3 : Below w.heap.size w (w2.setCell ⟨w.heap.size, 2, none⟩ (.slice A2 E.wait.length c2)) := hb2.setCell (p := ⟨w.heap.size, 2, none⟩) (Nat.le_refl _) _
  have o3 := own_fr ho2 ((Fr.refl [w.heap.size] w2).setCell (p := ⟨w.heap.size, 2, none⟩) (.inl (by simp)) (.slice A2 E.wait.length c2)) (fun i e hm => by have := (ho2.lt i e).1; simp at hm; omega)
  have s3 : (w2.setCell ⟨w.heap.size, 2, none⟩ (.slice A2 E.wait.length c2)).heap.size = w2.heap.size := by simp [World.setCell]
  generalize w2.setCell ⟨w.heap.size, 2, none⟩ (.slice A2 E.wait.length c2) = w3 at *
  have z3 : w.heap.size + 1 ≤ w3.heap.size := by omega
  clear t2 f2 k2 ho2 b2 hb2 s3 k1 b1 z2
  have k4 := k3.alloc (.map #[] 0)
  have t4 : (w3.alloc (.map #[] 0)).cell? ⟨w.heap.size, 5, none⟩ = some (.map (some h)) := k4.at_ rfl
  have f4 := k4.frozen 5
  go_upto_region 4 with fail
  have m4 := World.ownsMap_made (H := Value) w3 Try.prog 3 hR
  have F5 := (Fr.refl [w.heap.size] (w3.alloc (.map #[] 0))).setCell (p := ⟨w.heap.size, 5, none⟩) (.inl (by simp)) (.map (some w3.heap.size))
  have m5 := map_fr m4 F5 (by simp; omega)
  have k5 : Blk ((w3.alloc (.map #[] 0)).setCell ⟨w.heap.size, 5, none⟩ (.map (some w3.heap.size))) w.heap.size 65 (endV E A2 E.wait.length c2 w3.heap.size) := k4.set_ 5 _
  have b5 : Below w.heap.size w ((w3.alloc (.map #[] 0)).setCell ⟨w.heap.size, 5, none⟩ (.map (some w3.heap.size))) := (b3.alloc (by omega) _).setCell (p := ⟨w.heap.size, 5, none⟩) (Nat.le_refl _) _
  have o5 := own_fr (o3.alloc (.map #[] 0)) F5 (fun i e hm => by have := (o3.lt i e).1; simp at hm; omega)
  have s5 : ((w3.alloc (.map #[] 0)).setCell ⟨w.heap.size, 5, none⟩ (.map (some w3.heap.size))).heap.size = w3.heap.size + 1 := by simp [World.setCell]
  generalize (w3.alloc (.map #[] 0)).setCell ⟨w.heap.size, 5, none⟩ (.map (some w3.heap.size)) = w5 at *
  have hrow : ∀ i, (Value.slice A2 E.wait.length c2).ownBlock = some i → w.heap.size < i ∧ i < w3.heap.size := fun i e => by have := o3.lt i e; omega
  generalize w3.heap.size = hC at *
  generalize hgC : w.heap.size = gC at *
  have hM5 := map_fr HM.out (Fr.of_below (hgC ▸ b5) []) (by simp)
  have d5 : w5.cell? ⟨g, 5, none⟩ = some (.map (some h)) := (k.thru (hgC ▸ b5)).at_ rfl
  have hlt := H0.lt
  have hgl := hlt g (by simp)
  have hhl := hlt h (by simp)
  have hsz := HM.out.size_le
  clear t4 f4 k4 m4 F5 k3 b3 o3 k
  go_wp2_with (first
    | (at_range; refine wpList_range_own _ rfl _ 63 rfl 3 33 intKey Try.underlying63 hR h N D rfl hM5 ?_; intro w0 hrg0 hg0 hs0)
    | go_in)
  go_frame
  rw [s5] at hrg0 hs0 ⊢
  have HROW := Lib.hid hrow
  have HD5 := Lib.hid hsz
  have m0 := m5.kept hg0 (by simp)
  have k0 := k5.grown hg0 (by intro e; cases e)
  have F0 : Fr [] w5 w0 := Fr.of_grown hg0 (fun i e => by cases e)
  have o0 := own_fr o5 F0 (fun i _ => by simp)
  have hb0 : Below gC w w0 := b5.trans (F0.belowB (by rw [s5]; omega) (fun i hi => by cases hi))
  go_loopw [4] (fun _ wr => ∃ (left : Lit → Bool) (cnt : Nat) (Dout : DataW Value), wr.ranges Try.prog 3 hR h (hC + 1) N D left cnt ∧ cnt ≤ Maps.size D ∧ wr.ownsMap Try.prog 3 hR hC (Maps.size D - cnt) Dout ∧ Maps.Agree Dout D left ∧
      Blk wr gC 65 (endV E A2 E.wait.length c2 hC) ∧ wr.ownsRow w1.heap.size 33 1 (.slice A2 E.wait.length c2) E.wait.length vs ∧ Below gC w wr) (fun _ wr => wr.rangeLeft h (hC + 1))
  case atStart => exact ⟨_, _, .map [], hrg0, Nat.le_refl _, m0.mono (Nat.zero_le _), Maps.agree_start D, k0, o0, hb0⟩
  case round =>
    clear hrg0 hg0 hs0 m0 k0 F0 o0 hb0 m5 k5 o5 b5 hM5 d5 hrow hsz
    obtain ⟨left, cnt, Dout, hrg, hcs, hout, hA, kk, oo, hnx⟩ := hrel
    go_wp2_with (first
      | (at_next; refine wpList_next_ranges _ rfl _ rfl 3 intKey hR (Value.int .i64) (fun v : Value => v) (fun key kl hkey => by obtain ⟨x, rfl, _⟩ := Maps.keyOf_int_inv Try.underlying3 hkey; exact ⟨x, rfl⟩) (fun v y _ => ⟨v, rfl⟩) h (hC + 1) N _ _ _ rfl hrg ?_ ?_)
      | go_in)
    · intro hc0 hl0
      go_wp2_with fail
      go_ret
      subst hc0
      have e := Maps.agree_end hA hl0 (hout.canon intKey) (HM.out.canon intKey)
      subst e
      have u8 : U8 w wr := U8.bel (hgC ▸ hnx)
      refine ⟨gC, hC, (Value.slice A2 E.wait.length c2).ownBlock, rfl, ⟨A2, E.wait.length, c2, vs, _, kk, rfl, own_le oo (Nat.zero_le _), rfl, HR.out.u8 u8, hout.mono (by have := HD5.out; omega), HH.out.u8 u8⟩, fun i hi => ?_, hgC ▸ hnx⟩
      simp at hi
      rcases hi with rfl | rfl | hi
      · omega
      · omega
      · have := HROW.out i hi
        omega
    · intro x c' kl yd yl w6 cnt1 hkl hlx hy hat hrg1 hlt1 hg1 hs1 hen
      obtain ⟨x', ex, rfl, hwx⟩ := Maps.keyOf_int_inv Try.underlying3 hkl
      cases ex
      have hyy : yd = .held c' := by
        have : hR c' = some (yd, yl) := hy
        unfold hR at this
        injection this with this
        injection this with this
        exact this.symm
      subst hyy
      have hout1 := hout.kept hg1 (by simp)
      have hszD := HD5.out
      have hmx : Maps.size D - cnt < maxLen := by unfold maxLen; omega
      have HMX := Lib.hid hmx
      clear hmx
      have kk1 := kk.grown hg1 (by intro e; injection e with e; omega)
      have t5 : w6.cell? ⟨gC, 5, none⟩ = some (.map (some hC)) := kk1.at_ rfl
      go_wp2_with (first
        | (at_mapUpdate; refine wpList_mapUpdate_own _ rfl _ _ _ 63 rfl 3 33 intKey Try.underlying63 hR hC _ _ rfl hout1 HMX.out _ _ (.int .i64 x) rfl rfl hkl (.held c') [] rfl ?_; intro w7 hout2 hg2; go_frame)
        | go_in)
      have hrg2 := hrg1.kept hg2 (fun e => by have := Option.some.inj e; omega) (fun e => by have := Option.some.inj e; omega)
      have kk2 := kk1.grown hg2 (by intro e; injection e with e; omega)
      have oo1 := own_fr oo (Fr.of_grown (S := [hC + 1]) hg1 (fun i e => by injection e with e; simp [e])) (fun i e hm => by have := HROW.out i e; simp at hm; omega)
      have oo2 := own_fr oo1 (Fr.of_grown (S := [hC]) hg2 (fun i e => by injection e with e; simp [e])) (fun i e hm => by have := HROW.out i e; simp at hm; omega)
      have hnx2 := (hnx.grown hg1 (hgC ▸ hnx.size) (fun j hj => by injection hj with hj; omega)).grown hg2 (by have := hnx.size; omega) (fun j hj => by injection hj with hj; omega)
      go_roundw
      case rel => exact ⟨_, cnt1, _, hrg2, by omega, hout2.mono (by omega), Maps.agree_step hA hout.isMap trivial hat, kk2, oo2, hnx2⟩
      case measure => rw [hrg2.left_eq, hrg.left_eq]; exact hlt1
end Go.Proofs.Ytbekkndkdfmijaa
