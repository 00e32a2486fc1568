/- The walk of the law SplitParts. Conditions: the round constants lie in their variables; the list's numbers and the others have 64 bits. -/
import Derived.Test.YtnionejefpnfoaaDoorVl
import Derived.Test.YtnionejefpnfoaaDoorVm
import Derived.Deep.CutRange
set_option linter.unusedSimpArgs false
set_option linter.unusedVariables false
namespace Go.Proofs.YtnionejefpnfoaaDoor
open Go.RowKit Go.Shelf Go

theorem put_lit (l : List Value) (d : List Deferred) (i : Nat) (v : Value) : Act.put ⟨l.toArray, d⟩ (some i) v = ⟨(l.set i v).toArray, d⟩ := by simp [Act.put]
section
variable {P : Program} {ops : Array Oper} {Q : Exit → Act → World → Prop} {md : Region.Mode} {S : World → Prop} {bs : List Nat}
theorem wpBut_pureL (i k : Nat) {o : Oper} {v : Value} {f : Nat} {L : Array Bool} {l : List Value} {d : List Deferred} {w : World} (hi : ops[i]? = some o) (hd : o.dst = some k) (hB : takeOk md ops bs L i = true)
    (hQ : ∀ c a w, Q (.panic c) (a.put o.dst v) w → Q (.panic c) a w) (hy : Region.wanted o (yielded ops (⟨l.toArray, d⟩ : Act).tmps) = true ∧ ∀ w, (execOp (Act.eval ⟨l.toArray, d⟩) o).run P w = .ok (.value v) w) (hS : owes bs L = true → S w)
    (h : wpBut P md ops Q S bs f (L.setIfInBounds i true) ⟨(l.set k v).toArray, d⟩ w) : wpBut P md ops Q S bs (f + 1) L ⟨l.toArray, d⟩ w := by
  refine wpBut_pure i hi hB hQ hy hS ?_
  rw [hd, put_lit]
  exact h
theorem wpBut_takeL (i k : Nat) {o : Oper} {v : Value} {f : Nat} {L : Array Bool} {l : List Value} {d : List Deferred} {w : World} (hi : ops[i]? = some o) (hd : o.dst = some k) (hB : (takeOk md ops bs L i && bs.all (waits2 md ops · i)) = true)
    (hQ : ∀ c a w, Q (.panic c) (a.put o.dst v) w → Q (.panic c) a w) (hy : Region.wanted o (yielded ops (⟨l.toArray, d⟩ : Act).tmps) = true ∧ ∀ w, S w → (execOp (Act.eval ⟨l.toArray, d⟩) o).run P w = .ok (.value v) w) (hS : S w)
    (h : wpBut P md ops Q S bs f (L.setIfInBounds i true) ⟨(l.set k v).toArray, d⟩ w) : wpBut P md ops Q S bs (f + 1) L ⟨l.toArray, d⟩ w := by
  refine wpBut_take i hi hB hQ hy hS ?_
  rw [hd, put_lit]
  exact h
theorem wpBut_callL (i k : Nat) {o : Oper} {v : Value} {f : Nat} {L : Array Bool} {l : List Value} {d : List Deferred} {w : World} (hi : ops[i]? = some o) (hd : o.dst = some k) (hB : (takeOk md ops bs L i && bs.all (waits2 md ops · i)) = true)
    (hQ : ∀ c a w, Q (.panic c) (a.put o.dst v) w → Q (.panic c) a w) (hy : GivesC P ops S o v ⟨l.toArray, d⟩) (hS : S w)
    (h : wpBut P md ops Q S bs f (L.setIfInBounds i true) ⟨(l.set k v).toArray, d⟩ w) : wpBut P md ops Q S bs (f + 1) L ⟨l.toArray, d⟩ w := by
  refine wpBut_call i hi hB hQ hy hS ?_
  rw [hd, put_lit]
  exact h
end
theorem el_of {j : Nat} {W w4 : World} {s : ByteArray} {A : Option Addr} {n : Nat} (c : Nat) {l : List Int} {T N lo hi : Int} (h : BentOf j W s A n l T N lo hi) (hj : j ≤ 2) (hW : Ok W w4) (hK : Consts w4) (hR : RConsts w4) (h1 : 1 < w4.heap.size) : El w4 s A n c l T N lo hi := by
  obtain ⟨hr, hc, i1, i2, i3, i4⟩ := h
  have hl := hr.int_len
  have hz := hc.size
  have hn := hc.len
  have n0 := hc.n0
  have n1 := hc.n1
  refine ⟨fun V hV => ?_, ⟨by omega, by omega, i1, by unfold I64; omega, i2, i3⟩, hc.more hj, hl.symm⟩
  have r4 := (hr.below hW).more hW.size
  exact ⟨⟨(r4.below hV).more hV.size, i4, by omega, by omega, hK.below (Below.mono hV (by omega)), Nat.lt_of_lt_of_le (by omega) hV.size⟩, hR.below (Below.mono hV h1), Nat.lt_of_lt_of_le h1 hV.size, by omega, by omega⟩
theorem el_nil {w4 : World} (hK : Consts w4) (hR : RConsts w4) (h1 : 1 < w4.heap.size) : El w4 ⟨#[]⟩ none 0 0 [] 0 0 0 0 :=
  el_of 0 (j := 0) (W := w4) ⟨Reads.nil_ _ _ _ _, ⟨⟨0, 0, by omega, seedC_base.1, .inl (by omega)⟩, .inr (.inl ⟨by simp, by simp⟩), by omega, by omega, by decide, by simp⟩, by unfold I64; omega, by unfold I64; omega, by unfold I64; omega, by simp⟩ (by omega) (Ok.refl _) hK hR h1
set_option maxRecDepth 100000 in
set_option maxHeartbeats 64000000 in
theorem splitParts_any (A0 : Option Addr) (n0 c0 : Nat) (l0 : List Int) (how by_ k : Int) (w : World) (hl : Reads w w.heap.size 1 A0 n0 (ints l0)) (hI : ∀ x ∈ l0, I64 x) (hh : I64 how) (hb : I64 by_) (hk : I64 k) (hK : Consts w) (hR : RConsts w) (h1 : 1 < w.heap.size) :
    Calls Tryd.prog 3 #[.slice A0 n0 c0, .int .i64 how, .int .i64 by_, .int .i64 k] w fun E W' => E = .returned (.bool true) ∧ Below w.heap.size w W' := by
  have hr1 := rAt_lt l0 1 13 (by omega)
  have hr2 := rAt_lt l0 2 7 (by omega)
  have hr3 := rAt_lt l0 3 12 (by omega)
  have hr4 := rAt_lt l0 4 4 (by omega)
  have HM := Lib.hid (made_split A0 n0 c0 l0 w hl hI)
  have HK : Hid (∀ W, Ok w W → Consts W ∧ RConsts W ∧ 1 < W.heap.size) := Lib.hid fun W hW => ⟨hW.consts hK (by omega), hR.below (Below.mono hW h1), Nat.lt_of_lt_of_le h1 hW.size⟩
  have HV := Lib.hid (fun W (hW : Ok w W) => splitLives_any W (HK.out W hW).1 (by have := (HK.out W hW).2.2; omega))
  obtain ⟨h7, hh7⟩ : ∃ x, how.tdiv 7 = x := ⟨_, rfl⟩
  have hb7 : I64 h7 := by
    rw [← hh7]
    unfold I64 at hh ⊢
    have e1 : (how.tdiv 7).natAbs = how.natAbs / 7 := Int.natAbs_tdiv how 7
    omega
  have hw7 : IntKind.i64.wrap h7 = h7 := wrap_small hb7.1 hb7.2
  obtain ⟨k3, hk3⟩ : ∃ x, k.tdiv 3 = x := ⟨_, rfl⟩
  have hb3 : I64 k3 := by
    rw [← hk3]
    unfold I64 at hk ⊢
    have e1 : (k.tdiv 3).natAbs = k.natAbs / 3 := Int.natAbs_tdiv k 3
    omega
  have hw3 : IntKind.i64.wrap k3 = k3 := wrap_small hb3.1 hb3.2
  have HBI := Lib.hid (And.intro hh (And.intro hb (And.intro hk (And.intro hb7 hb3))))
  have HAR : Hid (∀ W (x m : Int), I64 x → I64 m → Calls Tryd.prog 12 #[.int .i64 x, .int .i64 m] W fun e w' => e = .returned (.int .i64 (around x m)) ∧ w' = W) := Lib.hid fun W x m hx hm => around_any x m W hx.1 hx.2 hm.1 hm.2
  clear hl hI hK hR hh hb hk hb7 hb3
  go_enter Tryd.func3, Tryd.ntmps3
  go_wp2_with fail
  refine HM.out.mono ?_
  rintro E w1 ⟨x, P, q, d, p, T, m, lo, hi, rfl, hx0, hx1, hm, hlo, hhi, hq, hp, hrd, ht0, ht1, b1⟩
  have ok1 : Ok w w1 := b1
  generalize rAt l0 1 13 = r1 at *
  generalize rAt l0 2 7 = r2 at *
  generalize rAt l0 3 12 = r3 at *
  generalize rAt l0 4 4 = r4 at *
  have hpl : p.length = q := hrd.int_len
  have hm12 : m ≤ 12 := by omega
  have hC0 : Cls 0 (seedOf x) p (m : Int) := ⟨⟨0, 0, by omega, seedC_of x, .inl (by omega)⟩, .inr (.inl ⟨by omega, hp⟩), by omega, by omega, by unfold seedOf; split <;> (try split) <;> decide, by omega⟩
  have e1 : (m : Int) * (-2) ≤ (m : Int) * lo := Int.mul_le_mul_of_nonneg_left (by omega) (by omega)
  have e2 : (m : Int) * hi ≤ (m : Int) * 15 := Int.mul_le_mul_of_nonneg_left (by omega) (by omega)
  have hB0 : BentOf 0 w1 (seedOf x) P q p T (m : Int) lo hi := ⟨hrd, hC0, by unfold I64; omega, by unfold I64; omega, by unfold I64; omega, fun y hy => by have := hp y hy; unfold I64; omega⟩
  have HB0 := Lib.hid hB0
  generalize seedOf x = s at *
  generalize (m : Int) = N at *
  clear hr1 hr2 hr3 hr4 hx0 hx1 hm hlo hhi hq hp hrd ht0 ht1 b1 hpl hm12 hC0 e1 e2 hB0
  have k9 := Blk.new w1 24 (spC s P q d T N lo hi)
  have ok9 := (Ok.refl w1).alloc (.cells (spC s P q d T N lo hi) 24)
  have HB1 := Lib.hid (bent_any (c := d) (j := 0) (by omega) _ ((HB0.out.1.below ok9).more ok9.size) HB0.out.2.1 HB0.out.2.2.1 HB0.out.2.2.2.1 HB0.out.2.2.2.2.1 HB0.out.2.2.2.2.2 how by_ HBI.out.1 HBI.out.2.1)
  go_wp2_with fail
  refine HB1.out.mono ?_
  rintro E w2 ⟨s2, A2, n2, c2, l2, T2, N2, lo2, hi2, rfl, hB2, b2⟩
  clear HB1
  have HB2 := Lib.hid hB2
  have ok2 := ok9.step b2
  have k92 := k9.thru b2
  clear k9 ok9 b2 hB2
  go_upto_region 3 with fail
  obtain ⟨g10, hg10⟩ : ∃ g, g = w2.heap.size := ⟨_, rfl⟩
  have k10 := Blk.new w2 24 (spC s2 A2 n2 c2 T2 N2 lo2 hi2)
  have k93 := k92.alloc (.cells (spC s2 A2 n2 c2 T2 N2 lo2 hi2) 24)
  have ok23 : Ok w2 (w2.alloc (.cells (spC s2 A2 n2 c2 T2 N2 lo2 hi2) 24)) := (Ok.refl w2).alloc _
  rw [← hg10] at k10 ⊢
  generalize w2.alloc (.cells (spC s2 A2 n2 c2 T2 N2 lo2 hi2) 24) = w3 at *
  obtain ⟨g9, hg9⟩ : ∃ g, g = w1.heap.size := ⟨_, rfl⟩
  rw [← hg9] at k93 ⊢
  clear k92 hg10 hg9
  have ok13 : Ok w1 w3 := ok2.step ok23
  have HB3 := Lib.hid (fun W (hW : Ok w3 W) => bent_any (c := c2) (j := 1) (by omega) W (((HB2.out.1.below ok23).more ok23.size |>.below hW).more hW.size) HB2.out.2.1 HB2.out.2.2.1 HB2.out.2.2.2.1 HB2.out.2.2.2.2.1 HB2.out.2.2.2.2.2 by_ h7 HBI.out.2.1 HBI.out.2.2.2.1)
  refine wp_region_but (fun W => Ok w3 W ∧ W.cell? ⟨g9, 0, none⟩ = some (.string s) ∧ W.cell? ⟨g9, 1, none⟩ = some (.slice P q d) ∧ W.cell? ⟨g9, 2, none⟩ = some (.int .i64 T) ∧ W.cell? ⟨g9, 3, none⟩ = some (.int .i64 N) ∧ W.cell? ⟨g9, 4, none⟩ = some (.int .i64 lo) ∧ W.cell? ⟨g9, 5, none⟩ = some (.int .i64 hi) ∧ W.cell? ⟨g10, 0, none⟩ = some (.string s2) ∧ W.cell? ⟨g10, 1, none⟩ = some (.slice A2 n2 c2) ∧ W.cell? ⟨g10, 2, none⟩ = some (.int .i64 T2) ∧ W.cell? ⟨g10, 3, none⟩ = some (.int .i64 N2) ∧ W.cell? ⟨g10, 4, none⟩ = some (.int .i64 lo2) ∧ W.cell? ⟨g10, 5, none⟩ = some (.int .i64 hi2)) [9] (by as_aux_lemma => kernel_rfl) ⟨(Ok.refl w3).drew, k93.drew.at_ rfl, k93.drew.at_ rfl, k93.drew.at_ rfl, k93.drew.at_ rfl, k93.drew.at_ rfl, k93.drew.at_ rfl, k10.drew.at_ rfl, k10.drew.at_ rfl, k10.drew.at_ rfl, k10.drew.at_ rfl, k10.drew.at_ rfl, k10.drew.at_ rfl⟩ fun hS0 => ?_
  refine wpBut_takeL 0 40 (v := spV s P q d T N lo hi) rfl rfl (by as_aux_lemma => kernel_rfl) (fun _ _ _ h => h) ⟨by rfl, fun W hW => ?_⟩ hS0 ?_
  · obtain ⟨s9, e0, e1, e2, e3, e4, e5, b0, b1, b2, b3, b4, b5⟩ := hW
    go_simp
  dsimp only [List.set_cons_zero, List.set_cons_succ]
  refine wpBut_takeL 1 41 (v := spV s2 A2 n2 c2 T2 N2 lo2 hi2) rfl rfl (by as_aux_lemma => kernel_rfl) (fun _ _ _ h => h) ⟨by rfl, fun W hW => ?_⟩ hS0 ?_
  · obtain ⟨s9, e0, e1, e2, e3, e4, e5, b0, b1, b2, b3, b4, b5⟩ := hW
    go_simp
  dsimp only [List.set_cons_zero, List.set_cons_succ]
  refine wpBut_takeL 2 42 (v := spV s2 A2 n2 c2 T2 N2 lo2 hi2) rfl rfl (by as_aux_lemma => kernel_rfl) (fun _ _ _ h => h) ⟨by rfl, fun W hW => ?_⟩ hS0 ?_
  · obtain ⟨s9, e0, e1, e2, e3, e4, e5, b0, b1, b2, b3, b4, b5⟩ := hW
    go_simp
  dsimp only [List.set_cons_zero, List.set_cons_succ]
  refine wpBut_pureL 3 43 (v := .int .i64 by_) rfl rfl (by as_aux_lemma => kernel_rfl) (fun _ _ _ h => h) ⟨by rfl, fun W => ?_⟩ (fun _ => hS0) ?_
  · go_simp
  dsimp only [List.set_cons_zero, List.set_cons_succ]
  refine wpBut_pureL 4 44 (v := .int .i64 how) rfl rfl (by as_aux_lemma => kernel_rfl) (fun _ _ _ h => h) ⟨by rfl, fun W => ?_⟩ (fun _ => hS0) ?_
  · go_simp
  dsimp only [List.set_cons_zero, List.set_cons_succ]
  refine wpBut_pureL 5 45 (v := .int .i64 h7) rfl rfl (by as_aux_lemma => kernel_rfl) (fun _ _ _ h => h) ⟨by rfl, fun W => ?_⟩ (fun _ => hS0) ?_
  · go_simp
  dsimp only [List.set_cons_zero, List.set_cons_succ]
  refine wpBut_pureL 7 47 (v := spV ⟨#[]⟩ none 0 0 0 0 0 0) rfl rfl (by as_aux_lemma => kernel_rfl) (fun _ _ _ h => h) ⟨by rfl, fun W => ?_⟩ (fun _ => hS0) ?_
  · go_simp
  dsimp only [List.set_cons_zero, List.set_cons_succ]
  refine wpBut_one 6 rfl (by as_aux_lemma => kernel_rfl) fun K hK => ?_
  go_simp
  go_at_call 5
  refine (HB3.out _ (Ok.refl w3).drew).mono ?_
  rintro E3 w4 ⟨s3, A3, n3, c3, l3, T3, N3, lo3, hi3, rfl, hB3, b3⟩
  have HB3' := Lib.hid hB3
  clear hB3
  have ok34 : Ok w3 w4 := Ok.step (Ok.refl w3).drew b3
  have k94 := k93.thru ok34
  have k104 := k10.thru ok34
  refine hK.out _ _ ⟨ok34, k94.at_ rfl, k94.at_ rfl, k94.at_ rfl, k94.at_ rfl, k94.at_ rfl, k94.at_ rfl, k104.at_ rfl, k104.at_ rfl, k104.at_ rfl, k104.at_ rfl, k104.at_ rfl, k104.at_ rfl⟩ fun hS4 => ?_
  clear hK K
  refine wpBut_one 8 rfl (by as_aux_lemma => kernel_rfl) fun K hK => ?_
  go_simp
  have okL : Ok w4 (w4.alloc (.cells #[.string s, .slice P q d, .int .i64 T, .int .i64 N, .int .i64 lo, .int .i64 hi, .string s2, .slice A2 n2 c2, .int .i64 T2, .int .i64 N2, .int .i64 lo2, .int .i64 hi2, .string s3, .slice A3 n3 c3, .int .i64 T3, .int .i64 N3, .int .i64 lo3, .int .i64 hi3, .string ⟨#[]⟩, .slice none 0 0, .int .i64 0, .int .i64 0, .int .i64 0, .int .i64 0] 24)) := (Ok.refl w4).alloc _
  have kL := Blk.new w4 24 #[.string s, .slice P q d, .int .i64 T, .int .i64 N, .int .i64 lo, .int .i64 hi, .string s2, .slice A2 n2 c2, .int .i64 T2, .int .i64 N2, .int .i64 lo2, .int .i64 hi2, .string s3, .slice A3 n3 c3, .int .i64 T3, .int .i64 N3, .int .i64 lo3, .int .i64 hi3, .string ⟨#[]⟩, .slice none 0 0, .int .i64 0, .int .i64 0, .int .i64 0, .int .i64 0]
  obtain ⟨gL, hgL⟩ : ∃ g, g = w4.heap.size := ⟨_, rfl⟩
  rw [← hgL] at kL ⊢
  have k95 := k94.alloc (.cells #[.string s, .slice P q d, .int .i64 T, .int .i64 N, .int .i64 lo, .int .i64 hi, .string s2, .slice A2 n2 c2, .int .i64 T2, .int .i64 N2, .int .i64 lo2, .int .i64 hi2, .string s3, .slice A3 n3 c3, .int .i64 T3, .int .i64 N3, .int .i64 lo3, .int .i64 hi3, .string ⟨#[]⟩, .slice none 0 0, .int .i64 0, .int .i64 0, .int .i64 0, .int .i64 0] 24)
  have k105 := k104.alloc (.cells #[.string s, .slice P q d, .int .i64 T, .int .i64 N, .int .i64 lo, .int .i64 hi, .string s2, .slice A2 n2 c2, .int .i64 T2, .int .i64 N2, .int .i64 lo2, .int .i64 hi2, .string s3, .slice A3 n3 c3, .int .i64 T3, .int .i64 N3, .int .i64 lo3, .int .i64 hi3, .string ⟨#[]⟩, .slice none 0 0, .int .i64 0, .int .i64 0, .int .i64 0, .int .i64 0] 24)
  have ok35 := ok34.alloc (.cells #[.string s, .slice P q d, .int .i64 T, .int .i64 N, .int .i64 lo, .int .i64 hi, .string s2, .slice A2 n2 c2, .int .i64 T2, .int .i64 N2, .int .i64 lo2, .int .i64 hi2, .string s3, .slice A3 n3 c3, .int .i64 T3, .int .i64 N3, .int .i64 lo3, .int .i64 hi3, .string ⟨#[]⟩, .slice none 0 0, .int .i64 0, .int .i64 0, .int .i64 0, .int .i64 0] 24)
  refine hK.out _ _ ⟨ok35, k95.at_ rfl, k95.at_ rfl, k95.at_ rfl, k95.at_ rfl, k95.at_ rfl, k95.at_ rfl, k105.at_ rfl, k105.at_ rfl, k105.at_ rfl, k105.at_ rfl, k105.at_ rfl, k105.at_ rfl⟩ fun hS5 => ?_
  clear hK K
  refine wpBut_seq 9 (g := 0) (by decide) (by decide) (by rfl) (by as_aux_lemma => kernel_rfl) ?_
  simp only [List.drop_succ_cons, List.drop_zero]
  generalize hw5 : w4.alloc (.cells #[.string s, .slice P q d, .int .i64 T, .int .i64 N, .int .i64 lo, .int .i64 hi, .string s2, .slice A2 n2 c2, .int .i64 T2, .int .i64 N2, .int .i64 lo2, .int .i64 hi2, .string s3, .slice A3 n3 c3, .int .i64 T3, .int .i64 N3, .int .i64 lo3, .int .i64 hi3, .string ⟨#[]⟩, .slice none 0 0, .int .i64 0, .int .i64 0, .int .i64 0, .int .i64 0] 24) = w5 at *
  clear hw5 hgL
  have ok05 : Ok w w5 := Ok.step ok1 (Ok.step ok13 ok35)
  obtain ⟨hK5, hR5, h15⟩ := HK.out w5 ok05
  have HEL : Hid (∀ j : Nat, j < 4 → ∃ s A n c l T N lo hi, El w5 s A n c l T N lo hi ∧ ∀ W, Ok w5 W → W.cell? ⟨gL, j * 6, none⟩ = some (.string s) ∧ W.cell? ⟨gL, j * 6 + 1, none⟩ = some (.slice A n c) ∧ W.cell? ⟨gL, j * 6 + 2, none⟩ = some (.int .i64 T) ∧ W.cell? ⟨gL, j * 6 + 3, none⟩ = some (.int .i64 N) ∧ W.cell? ⟨gL, j * 6 + 4, none⟩ = some (.int .i64 lo) ∧ W.cell? ⟨gL, j * 6 + 5, none⟩ = some (.int .i64 hi)) := Lib.hid (by
    have kk : ∀ W, Ok w5 W → Blk W gL 24 #[.string s, .slice P q d, .int .i64 T, .int .i64 N, .int .i64 lo, .int .i64 hi, .string s2, .slice A2 n2 c2, .int .i64 T2, .int .i64 N2, .int .i64 lo2, .int .i64 hi2, .string s3, .slice A3 n3 c3, .int .i64 T3, .int .i64 N3, .int .i64 lo3, .int .i64 hi3, .string ⟨#[]⟩, .slice none 0 0, .int .i64 0, .int .i64 0, .int .i64 0, .int .i64 0] := fun W hW => kL.thru hW
    have f0 := el_of d HB0.out (by omega) (Ok.step ok13 ok35) hK5 hR5 h15
    have f1 := el_of c2 HB2.out (by omega) (Ok.step ok23 ok35) hK5 hR5 h15
    have f2 := el_of c3 HB3'.out (by omega) okL hK5 hR5 h15
    have f3 := el_nil hK5 hR5 h15
    intro j hj
    rcases (show j = 0 ∨ j = 1 ∨ j = 2 ∨ j = 3 by omega) with rfl | rfl | rfl | rfl
    · exact ⟨_, _, _, _, _, _, _, _, _, f0, fun W hW => ⟨(kk W hW).at_ rfl, (kk W hW).at_ rfl, (kk W hW).at_ rfl, (kk W hW).at_ rfl, (kk W hW).at_ rfl, (kk W hW).at_ rfl⟩⟩
    · exact ⟨_, _, _, _, _, _, _, _, _, f1, fun W hW => ⟨(kk W hW).at_ rfl, (kk W hW).at_ rfl, (kk W hW).at_ rfl, (kk W hW).at_ rfl, (kk W hW).at_ rfl, (kk W hW).at_ rfl⟩⟩
    · exact ⟨_, _, _, _, _, _, _, _, _, f2, fun W hW => ⟨(kk W hW).at_ rfl, (kk W hW).at_ rfl, (kk W hW).at_ rfl, (kk W hW).at_ rfl, (kk W hW).at_ rfl, (kk W hW).at_ rfl⟩⟩
    · exact ⟨_, _, _, _, _, _, _, _, _, f3, fun W hW => ⟨(kk W hW).at_ rfl, (kk W hW).at_ rfl, (kk W hW).at_ rfl, (kk W hW).at_ rfl, (kk W hW).at_ rfl, (kk W hW).at_ rfl⟩⟩)
  clear HB0 HB2 HB3 HB3' HM HK hS0 hS4 hS5 k93 k10 k94 k104 k95 k105 kL okL ok34 ok35 ok13 ok23 ok2 b3 hK5 hR5 h15
  go_wp2_with fail
  go_loopw [12] (fun i wr => ∃ j : Nat, j ≤ 4 ∧ i = .int .i64 (j : Int) ∧ Ok w5 wr) (fun i _ => 4 - (intOf i).toNat)
  case atStart => exact ⟨0, by omega, rfl, Ok.refl w5⟩
  case round =>
    obtain ⟨j, hj, rfl, okr⟩ := hrel
    by_cases hlt : j < 4
    · have hji : (j : Int) < 4 := by omega
      obtain ⟨s, A, n, c, l, T, N, lo, hi, hE, hC⟩ := HEL.out j hlt
      have HE := Lib.hid hE
      have HC := Lib.hid hC
      obtain ⟨e0, e1, e2, e3, e4, e5⟩ := hC wr okr
      have HO := Lib.hid (fun W => own_any s A n c T N lo hi W)
      obtain ⟨ev, hv1, hv2⟩ := el_valid (c := c) hE
      have HV1 := Lib.hid hv1
      have HV2 := Lib.hid hv2
      obtain ⟨XS, xm, xe, hxm, ha1, ha2⟩ := el_all (c := c) hE
      have HA1 := Lib.hid ha1
      have HA2 := Lib.hid ha2
      have HPA := Lib.hid (el_part (c := c) hE)
      have HBE := Lib.hid (el_before (c := c) hE)
      have HFI := Lib.hid (el_find (c := c) hE)
      have HNM := Lib.hid (And.intro hE.cls.n0 (And.intro hE.cls.n1 hE.num.t))
      clear hE hC hv1 hv2 ha1 ha2
      obtain ⟨wo, rfl⟩ : ∃ wo : World, wo = wr := ⟨_, rfl⟩
      go_wp2_with fail
      refine (HO.out _).mono ?_
      rintro E v1 ⟨rfl, b1⟩
      have okv1 := okr.step b1
      clear e0 e1 e2 e3 e4 e5 b1 okr
      have kB := Blk.new v1 28 (spC s A n c T N lo hi)
      have okv2 := okv1.alloc (.cells (spC s A n c T N lo hi) 28)
      go_upto_region 8 with fail
      obtain ⟨gB, hgB⟩ : ∃ g, g = v1.heap.size := ⟨_, rfl⟩
      rw [← hgB] at kB ⊢
      generalize v1.alloc (.cells (spC s A n c T N lo hi) 28) = v2 at *
      clear hgB okv1
      have HST : Hid (∀ W, Ok v2 W → Ok v2 W ∧ W.cell? ⟨gL, j * 6, none⟩ = some (.string s) ∧ W.cell? ⟨gL, j * 6 + 1, none⟩ = some (.slice A n c) ∧ W.cell? ⟨gL, j * 6 + 2, none⟩ = some (.int .i64 T) ∧ W.cell? ⟨gL, j * 6 + 3, none⟩ = some (.int .i64 N) ∧ W.cell? ⟨gL, j * 6 + 4, none⟩ = some (.int .i64 lo) ∧ W.cell? ⟨gL, j * 6 + 5, none⟩ = some (.int .i64 hi) ∧ W.cell? ⟨gB, 0, none⟩ = some (.string s) ∧ W.cell? ⟨gB, 1, none⟩ = some (.slice A n c) ∧ W.cell? ⟨gB, 2, none⟩ = some (.int .i64 T) ∧ W.cell? ⟨gB, 3, none⟩ = some (.int .i64 N) ∧ W.cell? ⟨gB, 4, none⟩ = some (.int .i64 lo) ∧ W.cell? ⟨gB, 5, none⟩ = some (.int .i64 hi)) := Lib.hid fun W hW => by
        obtain ⟨e0, e1, e2, e3, e4, e5⟩ := HC.out W (okv2.step hW)
        exact ⟨hW, e0, e1, e2, e3, e4, e5, (kB.thru hW).at_ rfl, (kB.thru hW).at_ rfl, (kB.thru hW).at_ rfl, (kB.thru hW).at_ rfl, (kB.thru hW).at_ rfl, (kB.thru hW).at_ rfl⟩
      refine wp_region_but (fun W => Ok v2 W ∧ W.cell? ⟨gL, j * 6, none⟩ = some (.string s) ∧ W.cell? ⟨gL, j * 6 + 1, none⟩ = some (.slice A n c) ∧ W.cell? ⟨gL, j * 6 + 2, none⟩ = some (.int .i64 T) ∧ W.cell? ⟨gL, j * 6 + 3, none⟩ = some (.int .i64 N) ∧ W.cell? ⟨gL, j * 6 + 4, none⟩ = some (.int .i64 lo) ∧ W.cell? ⟨gL, j * 6 + 5, none⟩ = some (.int .i64 hi) ∧ W.cell? ⟨gB, 0, none⟩ = some (.string s) ∧ W.cell? ⟨gB, 1, none⟩ = some (.slice A n c) ∧ W.cell? ⟨gB, 2, none⟩ = some (.int .i64 T) ∧ W.cell? ⟨gB, 3, none⟩ = some (.int .i64 N) ∧ W.cell? ⟨gB, 4, none⟩ = some (.int .i64 lo) ∧ W.cell? ⟨gB, 5, none⟩ = some (.int .i64 hi)) [7] (by as_aux_lemma => kernel_rfl) (HST.out _ (Ok.refl v2).drew) fun hS0 => ?_
      refine wpBut_takeL 0 60 (v := spV s A n c T N lo hi) rfl rfl (by as_aux_lemma => kernel_rfl) (fun _ _ _ h => h) ⟨by rfl, fun W hW => ?_⟩ hS0 ?_
      · obtain ⟨s9, e0, e1, e2, e3, e4, e5, b0, b1, b2, b3, b4, b5⟩ := hW
        go_simp
      dsimp only [List.set_cons_zero, List.set_cons_succ]
      refine wpBut_pureL 2 62 (v := .slice (some ⟨gL, 0, none⟩) 4 4) rfl rfl (by as_aux_lemma => kernel_rfl) (fun _ _ _ h => h) ⟨by rfl, fun W => ?_⟩ (fun _ => hS0) ?_
      · go_simp
      dsimp only [List.set_cons_zero, List.set_cons_succ]
      refine wpBut_pureL 3 63 (v := .int .i64 (j : Int)) rfl rfl (by as_aux_lemma => kernel_rfl) (fun _ _ _ h => h) ⟨by rfl, fun W => ?_⟩ (fun _ => hS0) ?_
      · go_simp
      dsimp only [List.set_cons_zero, List.set_cons_succ]
      refine wpBut_pureL 4 64 (v := .pointer (some ⟨gL, j * 6, none⟩)) rfl rfl (by as_aux_lemma => kernel_rfl) (fun _ _ _ h => h) ⟨by rfl, fun W => ?_⟩ (fun _ => hS0) ?_
      · go_simp
      dsimp only [List.set_cons_zero, List.set_cons_succ]
      refine wpBut_takeL 5 65 (v := spV s A n c T N lo hi) rfl rfl (by as_aux_lemma => kernel_rfl) (fun _ _ _ h => h) ⟨by rfl, fun W hW => ?_⟩ hS0 ?_
      · obtain ⟨s9, e0, e1, e2, e3, e4, e5, b0, b1, b2, b3, b4, b5⟩ := hW
        go_simp
      dsimp only [List.set_cons_zero, List.set_cons_succ]
      refine wpBut_one 1 rfl (by as_aux_lemma => kernel_rfl) fun K hK => ?_
      go_simp
      go_at_call 7
      refine (HV1.out _ (okv2.step (Ok.refl v2).drew)).mono ?_
      rintro E1 v3 ⟨rfl, b_v3⟩
      have ok_v3 := Ok.step (Ok.refl v2).drew b_v3
      refine hK.out _ _ (HST.out _ ok_v3) fun hS3 => ?_
      clear hK K
      refine wpBut_one 6 rfl (by as_aux_lemma => kernel_rfl) fun K hK => ?_
      go_simp
      go_at_call 8
      refine (HV2.out _ (okv2.step ok_v3)).mono ?_
      rintro E1 v4 ⟨rfl, b_v4⟩
      have ok_v4 := Ok.step ok_v3 b_v4
      refine hK.out _ _ (HST.out _ ok_v4) fun hS4 => ?_
      clear hK K
      refine wpBut_seq 7 (g := 0) (by decide) (by decide) (by rfl) (by as_aux_lemma => kernel_rfl) ?_
      simp only [List.drop_succ_cons, List.drop_zero]
      clear hS0 hS3 hS4 b_v3 b_v4 ok_v3
      obtain ⟨-, e0, e1, e2, e3, e4, e5, b0, b1, b2, b3, b4, b5⟩ := HST.out _ ok_v4
      have gev : (ev != ev) = false := by simp
      go_upto_if 73 with fail
      go_cut [14, 15, 16, 17] from 49 to 233 (fun _ _ _ _ wx => Ok v2 wx)
      case first =>
        by_cases hN40 : N ≤ 40
        · go_wp2_with fail
          refine (HA1.out _ (okv2.step ok_v4)).mono ?_
          rintro E u1 ⟨va, rfl, oa, a1⟩
          have oku1 := Ok.step ok_v4 a1
          obtain ⟨Aa, ca, rfl, -⟩ := own_reads1 oa
          clear e0 e1 e2 e3 e4 e5 b0 b1 b2 b3 b4 b5
          obtain ⟨-, e0, e1, e2, e3, e4, e5, b0, b1, b2, b3, b4, b5⟩ := HST.out _ oku1
          go_wp2_with fail
          refine (HA2.out _ (okv2.step oku1)).mono ?_
          rintro E u2 ⟨vb, rfl, ob, a2⟩
          have oku2 := Ok.step oku1 a2
          obtain ⟨Ab, cb, rfl, -⟩ := own_reads1 ob
          have ra := (Reads.of_own (own_below oa a2))
          have rb := (Reads.of_own ob)
          have hsm := sameInts_any Aa Ab xm xm ca cb XS XS _ u2 ra rb (by omega) (by omega)
          rw [decide_eq_true (rfl : XS = XS)] at hsm
          have gxe : (xe != xe) = false := by simp
          clear ra rb oa ob a1 a2 e0 e1 e2 e3 e4 e5 b0 b1 b2 b3 b4 b5
          go_wp2_with fail
          refine hsm.mono ?_
          rintro E u3 ⟨rfl, qn, rfl⟩
          go_wp2_with fail
          go_meet
          exact Ok.drewN oku2 qn
        · have hN41 : ¬ N ≤ 40 := hN40
          go_wp2_with fail
          go_meet
          exact ok_v4
      clear e0 e1 e2 e3 e4 e5 b0 b1 b2 b3 b4 b5
      have ok_vc := hcut
      obtain ⟨nm0, nm1, nm2⟩ := HNM.out
      unfold I64 at nm2
      obtain ⟨MX, hMX⟩ : ∃ x : Int, (if (0 : Int) > N then 0 else N) = x := ⟨_, rfl⟩
      have hMXb : 0 ≤ MX ∧ MX ≤ 65540 := by rw [← hMX]; split <;> omega
      obtain ⟨MT, hMT⟩ : ∃ x : Int, (if (0 : Int) > T then 0 else T) = x := ⟨_, rfl⟩
      have hMTb : 0 ≤ MT ∧ MT ≤ 9223372036854775807 := by rw [← hMT]; split <;> omega
      obtain ⟨MM, hMM⟩ : ∃ x : Int, (if (1099511627776 : Int) < MT then 1099511627776 else MT) = x := ⟨_, rfl⟩
      have hMMb : 0 ≤ MM ∧ MM ≤ 1099511627776 := by rw [← hMM]; split <;> omega
      have mx1 := fun ts t W => run_max_int2 (P := Tryd.prog) (w := W) ts t .i64 .i64 N 0
      rw [hMX] at mx1
      have mx2 := fun ts t W => run_max_int2 (P := Tryd.prog) (w := W) ts t .i64 .i64 T 0
      rw [hMT] at mx2
      have mn1 := fun ts t W => run_min_int2 (P := Tryd.prog) (w := W) ts t .i64 .i64 MT 1099511627776
      rw [hMM] at mn1
      have ww1 : IntKind.i64.wrap (MX + 3) = MX + 3 := wrap_small (by omega) (by omega)
      have ww2 : IntKind.i64.wrap (MM + 2) = MM + 2 := wrap_small (by omega) (by omega)
      have hq0 := around_lt k (MX + 3) (by omega)
      have hq1 := around_lt k3 (MM + 2) (by omega)
      have HC0 := Lib.hid (fun W => HAR.out W k (MX + 3) HBI.out.2.2.1 (by unfold I64; omega))
      have HC1 := Lib.hid (fun W => HAR.out W k3 (MM + 2) HBI.out.2.2.2.2 (by unfold I64; omega))
      generalize around k (MX + 3) = q0 at *
      generalize around k3 (MM + 2) = q1 at *
      have ww3 : IntKind.i64.wrap (q0 - 1) = q0 - 1 := wrap_small (by omega) (by omega)
      have ww4 : IntKind.i64.wrap (q1 - 1) = q1 - 1 := wrap_small (by omega) (by omega)
      clear hMX hMT hMM nm2
      go_upto_region 15 with fail
      refine wp_region_but (fun W => Ok v2 W ∧ W.cell? ⟨gL, j * 6, none⟩ = some (.string s) ∧ W.cell? ⟨gL, j * 6 + 1, none⟩ = some (.slice A n c) ∧ W.cell? ⟨gL, j * 6 + 2, none⟩ = some (.int .i64 T) ∧ W.cell? ⟨gL, j * 6 + 3, none⟩ = some (.int .i64 N) ∧ W.cell? ⟨gL, j * 6 + 4, none⟩ = some (.int .i64 lo) ∧ W.cell? ⟨gL, j * 6 + 5, none⟩ = some (.int .i64 hi) ∧ W.cell? ⟨gB, 0, none⟩ = some (.string s) ∧ W.cell? ⟨gB, 1, none⟩ = some (.slice A n c) ∧ W.cell? ⟨gB, 2, none⟩ = some (.int .i64 T) ∧ W.cell? ⟨gB, 3, none⟩ = some (.int .i64 N) ∧ W.cell? ⟨gB, 4, none⟩ = some (.int .i64 lo) ∧ W.cell? ⟨gB, 5, none⟩ = some (.int .i64 hi)) [34] (by as_aux_lemma => kernel_rfl) (HST.out _ ok_vc.drew) fun hS0 => ?_
      refine wpBut_pureL 0 96 (v := .int .i64 k) rfl rfl (by as_aux_lemma => kernel_rfl) (fun _ _ _ h => h) ⟨by rfl, fun W => ?_⟩ (fun _ => hS0) ?_
      · go_simp
      dsimp only [List.set_cons_zero, List.set_cons_succ]
      refine wpBut_pureL 1 97 (v := .slice (some ⟨gL, 0, none⟩) 4 4) rfl rfl (by as_aux_lemma => kernel_rfl) (fun _ _ _ h => h) ⟨by rfl, fun W => ?_⟩ (fun _ => hS0) ?_
      · go_simp
      dsimp only [List.set_cons_zero, List.set_cons_succ]
      refine wpBut_pureL 2 98 (v := .int .i64 (j : Int)) rfl rfl (by as_aux_lemma => kernel_rfl) (fun _ _ _ h => h) ⟨by rfl, fun W => ?_⟩ (fun _ => hS0) ?_
      · go_simp
      dsimp only [List.set_cons_zero, List.set_cons_succ]
      refine wpBut_pureL 3 99 (v := .pointer (some ⟨gL, j * 6, none⟩)) rfl rfl (by as_aux_lemma => kernel_rfl) (fun _ _ _ h => h) ⟨by rfl, fun W => ?_⟩ (fun _ => hS0) ?_
      · go_simp
      dsimp only [List.set_cons_zero, List.set_cons_succ]
      refine wpBut_pureL 4 100 (v := .pointer (some ⟨gL, j * 6 + 3, none⟩)) rfl rfl (by as_aux_lemma => kernel_rfl) (fun _ _ _ h => h) ⟨by rfl, fun W => ?_⟩ (fun _ => hS0) ?_
      · go_simp
      dsimp only [List.set_cons_zero, List.set_cons_succ]
      refine wpBut_takeL 5 101 (v := .int .i64 N) rfl rfl (by as_aux_lemma => kernel_rfl) (fun _ _ _ h => h) ⟨by rfl, fun W hW => ?_⟩ hS0 ?_
      · obtain ⟨s9, e0, e1, e2, e3, e4, e5, b0, b1, b2, b3, b4, b5⟩ := hW
        go_simp
      dsimp only [List.set_cons_zero, List.set_cons_succ]
      refine wpBut_pureL 6 102 (v := .int .i64 MX) rfl rfl (by as_aux_lemma => kernel_rfl) (fun _ _ _ h => h) ⟨by rfl, fun W => ?_⟩ (fun _ => hS0) ?_
      · go_simp
      dsimp only [List.set_cons_zero, List.set_cons_succ]
      refine wpBut_pureL 7 103 (v := .int .i64 (MX + 3)) rfl rfl (by as_aux_lemma => kernel_rfl) (fun _ _ _ h => h) ⟨by rfl, fun W => ?_⟩ (fun _ => hS0) ?_
      · go_simp
      dsimp only [List.set_cons_zero, List.set_cons_succ]
      refine wpBut_callL 8 104 (v := .int .i64 q0) rfl rfl (by as_aux_lemma => kernel_rfl) (fun _ _ _ h => h) ⟨by rfl, fun W hW => ⟨12, _, ?_, HC0.out W⟩⟩ hS0 ?_
      · go_simp
      dsimp only [List.set_cons_zero, List.set_cons_succ]
      refine wpBut_pureL 9 105 (v := .int .i64 (q0 - 1)) rfl rfl (by as_aux_lemma => kernel_rfl) (fun _ _ _ h => h) ⟨by rfl, fun W => ?_⟩ (fun _ => hS0) ?_
      · go_simp
      dsimp only [List.set_cons_zero, List.set_cons_succ]
      refine wpBut_pureL 10 106 (v := .int .i64 k) rfl rfl (by as_aux_lemma => kernel_rfl) (fun _ _ _ h => h) ⟨by rfl, fun W => ?_⟩ (fun _ => hS0) ?_
      · go_simp
      dsimp only [List.set_cons_zero, List.set_cons_succ]
      refine wpBut_pureL 11 107 (v := .int .i64 k3) rfl rfl (by as_aux_lemma => kernel_rfl) (fun _ _ _ h => h) ⟨by rfl, fun W => ?_⟩ (fun _ => hS0) ?_
      · go_simp
      dsimp only [List.set_cons_zero, List.set_cons_succ]
      refine wpBut_pureL 12 108 (v := .slice (some ⟨gL, 0, none⟩) 4 4) rfl rfl (by as_aux_lemma => kernel_rfl) (fun _ _ _ h => h) ⟨by rfl, fun W => ?_⟩ (fun _ => hS0) ?_
      · go_simp
      dsimp only [List.set_cons_zero, List.set_cons_succ]
      refine wpBut_pureL 13 109 (v := .int .i64 (j : Int)) rfl rfl (by as_aux_lemma => kernel_rfl) (fun _ _ _ h => h) ⟨by rfl, fun W => ?_⟩ (fun _ => hS0) ?_
      · go_simp
      dsimp only [List.set_cons_zero, List.set_cons_succ]
      refine wpBut_pureL 14 110 (v := .pointer (some ⟨gL, j * 6, none⟩)) rfl rfl (by as_aux_lemma => kernel_rfl) (fun _ _ _ h => h) ⟨by rfl, fun W => ?_⟩ (fun _ => hS0) ?_
      · go_simp
      dsimp only [List.set_cons_zero, List.set_cons_succ]
      refine wpBut_pureL 15 111 (v := .pointer (some ⟨gL, j * 6 + 2, none⟩)) rfl rfl (by as_aux_lemma => kernel_rfl) (fun _ _ _ h => h) ⟨by rfl, fun W => ?_⟩ (fun _ => hS0) ?_
      · go_simp
      dsimp only [List.set_cons_zero, List.set_cons_succ]
      refine wpBut_takeL 16 112 (v := .int .i64 T) rfl rfl (by as_aux_lemma => kernel_rfl) (fun _ _ _ h => h) ⟨by rfl, fun W hW => ?_⟩ hS0 ?_
      · obtain ⟨s9, e0, e1, e2, e3, e4, e5, b0, b1, b2, b3, b4, b5⟩ := hW
        go_simp
      dsimp only [List.set_cons_zero, List.set_cons_succ]
      refine wpBut_pureL 17 113 (v := .int .i64 MT) rfl rfl (by as_aux_lemma => kernel_rfl) (fun _ _ _ h => h) ⟨by rfl, fun W => ?_⟩ (fun _ => hS0) ?_
      · go_simp
      dsimp only [List.set_cons_zero, List.set_cons_succ]
      refine wpBut_pureL 18 114 (v := .int .i64 MM) rfl rfl (by as_aux_lemma => kernel_rfl) (fun _ _ _ h => h) ⟨by rfl, fun W => ?_⟩ (fun _ => hS0) ?_
      · go_simp
      dsimp only [List.set_cons_zero, List.set_cons_succ]
      refine wpBut_pureL 19 115 (v := .int .i64 (MM + 2)) rfl rfl (by as_aux_lemma => kernel_rfl) (fun _ _ _ h => h) ⟨by rfl, fun W => ?_⟩ (fun _ => hS0) ?_
      · go_simp
      dsimp only [List.set_cons_zero, List.set_cons_succ]
      refine wpBut_callL 20 116 (v := .int .i64 q1) rfl rfl (by as_aux_lemma => kernel_rfl) (fun _ _ _ h => h) ⟨by rfl, fun W hW => ⟨12, _, ?_, HC1.out W⟩⟩ hS0 ?_
      · go_simp
      dsimp only [List.set_cons_zero, List.set_cons_succ]
      refine wpBut_pureL 21 117 (v := .int .i64 (q1 - 1)) rfl rfl (by as_aux_lemma => kernel_rfl) (fun _ _ _ h => h) ⟨by rfl, fun W => ?_⟩ (fun _ => hS0) ?_
      · go_simp
      dsimp only [List.set_cons_zero, List.set_cons_succ]
      refine wpBut_pureL 22 118 (v := .int .i64 k) rfl rfl (by as_aux_lemma => kernel_rfl) (fun _ _ _ h => h) ⟨by rfl, fun W => ?_⟩ (fun _ => hS0) ?_
      · go_simp
      dsimp only [List.set_cons_zero, List.set_cons_succ]
      refine wpBut_pureL 23 119 (v := .slice (some ⟨gL, 0, none⟩) 4 4) rfl rfl (by as_aux_lemma => kernel_rfl) (fun _ _ _ h => h) ⟨by rfl, fun W => ?_⟩ (fun _ => hS0) ?_
      · go_simp
      dsimp only [List.set_cons_zero, List.set_cons_succ]
      refine wpBut_pureL 24 120 (v := .int .i64 (j : Int)) rfl rfl (by as_aux_lemma => kernel_rfl) (fun _ _ _ h => h) ⟨by rfl, fun W => ?_⟩ (fun _ => hS0) ?_
      · go_simp
      dsimp only [List.set_cons_zero, List.set_cons_succ]
      refine wpBut_pureL 25 121 (v := .pointer (some ⟨gL, j * 6, none⟩)) rfl rfl (by as_aux_lemma => kernel_rfl) (fun _ _ _ h => h) ⟨by rfl, fun W => ?_⟩ (fun _ => hS0) ?_
      · go_simp
      dsimp only [List.set_cons_zero, List.set_cons_succ]
      refine wpBut_pureL 26 122 (v := .pointer (some ⟨gL, j * 6 + 3, none⟩)) rfl rfl (by as_aux_lemma => kernel_rfl) (fun _ _ _ h => h) ⟨by rfl, fun W => ?_⟩ (fun _ => hS0) ?_
      · go_simp
      dsimp only [List.set_cons_zero, List.set_cons_succ]
      refine wpBut_takeL 27 123 (v := .int .i64 N) rfl rfl (by as_aux_lemma => kernel_rfl) (fun _ _ _ h => h) ⟨by rfl, fun W hW => ?_⟩ hS0 ?_
      · obtain ⟨s9, e0, e1, e2, e3, e4, e5, b0, b1, b2, b3, b4, b5⟩ := hW
        go_simp
      dsimp only [List.set_cons_zero, List.set_cons_succ]
      refine wpBut_pureL 28 124 (v := .slice (some ⟨gL, 0, none⟩) 4 4) rfl rfl (by as_aux_lemma => kernel_rfl) (fun _ _ _ h => h) ⟨by rfl, fun W => ?_⟩ (fun _ => hS0) ?_
      · go_simp
      dsimp only [List.set_cons_zero, List.set_cons_succ]
      refine wpBut_pureL 29 125 (v := .int .i64 (j : Int)) rfl rfl (by as_aux_lemma => kernel_rfl) (fun _ _ _ h => h) ⟨by rfl, fun W => ?_⟩ (fun _ => hS0) ?_
      · go_simp
      dsimp only [List.set_cons_zero, List.set_cons_succ]
      refine wpBut_pureL 30 126 (v := .pointer (some ⟨gL, j * 6, none⟩)) rfl rfl (by as_aux_lemma => kernel_rfl) (fun _ _ _ h => h) ⟨by rfl, fun W => ?_⟩ (fun _ => hS0) ?_
      · go_simp
      dsimp only [List.set_cons_zero, List.set_cons_succ]
      refine wpBut_pureL 31 127 (v := .pointer (some ⟨gL, j * 6 + 2, none⟩)) rfl rfl (by as_aux_lemma => kernel_rfl) (fun _ _ _ h => h) ⟨by rfl, fun W => ?_⟩ (fun _ => hS0) ?_
      · go_simp
      dsimp only [List.set_cons_zero, List.set_cons_succ]
      refine wpBut_takeL 32 128 (v := .int .i64 T) rfl rfl (by as_aux_lemma => kernel_rfl) (fun _ _ _ h => h) ⟨by rfl, fun W hW => ?_⟩ hS0 ?_
      · obtain ⟨s9, e0, e1, e2, e3, e4, e5, b0, b1, b2, b3, b4, b5⟩ := hW
        go_simp
      dsimp only [List.set_cons_zero, List.set_cons_succ]
      refine wpBut_one 33 rfl (by as_aux_lemma => kernel_rfl) fun K hK => ?_
      go_simp
      have okP := Ok.drew (Ok.alloc ok_vc (.cells #[.int .i64 (q0 - 1), .int .i64 (q1 - 1), .int .i64 k, .int .i64 N, .int .i64 T] 3))
      have kP := (Blk.new wc 3 #[.int .i64 (q0 - 1), .int .i64 (q1 - 1), .int .i64 k, .int .i64 N, .int .i64 T]).drew
      obtain ⟨gP, hgP⟩ : ∃ g, g = wc.heap.size := ⟨_, rfl⟩
      rw [← hgP] at kP ⊢
      refine hK.out _ _ (HST.out _ okP) fun hS1 => ?_
      clear hK K
      refine wpBut_seq 34 (g := 0) (by decide) (by decide) (by rfl) (by as_aux_lemma => kernel_rfl) ?_
      simp only [List.drop_succ_cons, List.drop_zero]
      have okP : Ok v2 (wc.alloc (.cells #[.int .i64 (q0 - 1), .int .i64 (q1 - 1), .int .i64 k, .int .i64 N, .int .i64 T] 3)).drew := okP
      have kP : Blk (wc.alloc (.cells #[.int .i64 (q0 - 1), .int .i64 (q1 - 1), .int .i64 k, .int .i64 N, .int .i64 T] 3)).drew gP 3 #[.int .i64 (q0 - 1), .int .i64 (q1 - 1), .int .i64 k, .int .i64 N, .int .i64 T] := kP
      clear hS0 hS1 hgP mx1 mx2 mn1 ww1 ww2 ww3 ww4 HC0 HC1 hMXb hMTb hMMb hq0 hq1
      go_upto_region 16 with fail
      generalize hv6 : (wc.alloc (.cells #[.int .i64 (q0 - 1), .int .i64 (q1 - 1), .int .i64 k, .int .i64 N, .int .i64 T] 3)).drew = v6 at *
      clear hv6
      have HP : Hid (∀ y : Nat, y < 5 → ∃ pv : Int, ∀ W, Ok v6 W → W.cell? ⟨gP, y, none⟩ = some (.int .i64 pv)) := Lib.hid (by
        intro y hy
        rcases (show y = 0 ∨ y = 1 ∨ y = 2 ∨ y = 3 ∨ y = 4 by omega) with rfl | rfl | rfl | rfl | rfl
        all_goals exact ⟨_, fun W hW => (kP.thru hW).at_ rfl⟩)
      have okw6 : Ok w5 v6 := okv2.step okP
      go_wp2_with fail
      go_loopw [19] (fun i wr => ∃ y : Nat, y ≤ 5 ∧ i = .int .i64 (y : Int) ∧ Ok v6 wr) (fun i _ => 5 - (intOf i).toNat)
      case atStart => exact ⟨0, by omega, rfl, Ok.refl v6⟩
      case round =>
        obtain ⟨y, hy, rfl, oky⟩ := hrel
        by_cases hyl : y < 5
        · have hyi : (y : Int) < 5 := by omega
          obtain ⟨pv, hpv⟩ := HP.out y hyl
          obtain ⟨av, ae, hav1, hav2⟩ := HPA.out pv
          obtain ⟨bv, be, hbv1, hbv2⟩ := HBE.out pv
          obtain ⟨fv, fu, fe, hfv1, hfv2⟩ := HFI.out pv
          have H19 := Lib.hid hav1
          have H20 := Lib.hid hav2
          have H21 := Lib.hid hbv1
          have H22 := Lib.hid hbv2
          have H23 := Lib.hid hfv1
          have H24 := Lib.hid hfv2
          clear hav1 hav2 hbv1 hbv2 hfv1 hfv2
          have HSP : Hid (∀ W, Ok v6 W → Ok v6 W ∧ W.cell? ⟨gL, j * 6, none⟩ = some (.string s) ∧ W.cell? ⟨gL, j * 6 + 1, none⟩ = some (.slice A n c) ∧ W.cell? ⟨gL, j * 6 + 2, none⟩ = some (.int .i64 T) ∧ W.cell? ⟨gL, j * 6 + 3, none⟩ = some (.int .i64 N) ∧ W.cell? ⟨gL, j * 6 + 4, none⟩ = some (.int .i64 lo) ∧ W.cell? ⟨gL, j * 6 + 5, none⟩ = some (.int .i64 hi) ∧ W.cell? ⟨gB, 0, none⟩ = some (.string s) ∧ W.cell? ⟨gB, 1, none⟩ = some (.slice A n c) ∧ W.cell? ⟨gB, 2, none⟩ = some (.int .i64 T) ∧ W.cell? ⟨gB, 3, none⟩ = some (.int .i64 N) ∧ W.cell? ⟨gB, 4, none⟩ = some (.int .i64 lo) ∧ W.cell? ⟨gB, 5, none⟩ = some (.int .i64 hi) ∧ W.cell? ⟨gP, y, none⟩ = some (.int .i64 pv)) := Lib.hid fun W hW => by
            obtain ⟨-, e0, e1, e2, e3, e4, e5, b0, b1, b2, b3, b4, b5⟩ := HST.out W (okP.step hW)
            exact ⟨hW, e0, e1, e2, e3, e4, e5, b0, b1, b2, b3, b4, b5, hpv W hW⟩
          clear hpv
          have ok18 : Ok v6 wr := oky
          go_upto_region 19 with fail
          refine wp_region_but (fun W => Ok v6 W ∧ W.cell? ⟨gL, j * 6, none⟩ = some (.string s) ∧ W.cell? ⟨gL, j * 6 + 1, none⟩ = some (.slice A n c) ∧ W.cell? ⟨gL, j * 6 + 2, none⟩ = some (.int .i64 T) ∧ W.cell? ⟨gL, j * 6 + 3, none⟩ = some (.int .i64 N) ∧ W.cell? ⟨gL, j * 6 + 4, none⟩ = some (.int .i64 lo) ∧ W.cell? ⟨gL, j * 6 + 5, none⟩ = some (.int .i64 hi) ∧ W.cell? ⟨gB, 0, none⟩ = some (.string s) ∧ W.cell? ⟨gB, 1, none⟩ = some (.slice A n c) ∧ W.cell? ⟨gB, 2, none⟩ = some (.int .i64 T) ∧ W.cell? ⟨gB, 3, none⟩ = some (.int .i64 N) ∧ W.cell? ⟨gB, 4, none⟩ = some (.int .i64 lo) ∧ W.cell? ⟨gB, 5, none⟩ = some (.int .i64 hi) ∧ W.cell? ⟨gP, y, none⟩ = some (.int .i64 pv)) [9] (by as_aux_lemma => kernel_rfl) (HSP.out _ ok18.drew) fun hS0 => ?_
          refine wpBut_takeL 0 137 (v := spV s A n c T N lo hi) rfl rfl (by as_aux_lemma => kernel_rfl) (fun _ _ _ h => h) ⟨by rfl, fun W hW => ?_⟩ hS0 ?_
          · obtain ⟨s9, e0, e1, e2, e3, e4, e5, b0, b1, b2, b3, b4, b5, p0⟩ := hW
            go_simp
          dsimp only [List.set_cons_zero, List.set_cons_succ]
          refine wpBut_pureL 1 138 (v := .slice (some ⟨gP, 0, none⟩) 5 5) rfl rfl (by as_aux_lemma => kernel_rfl) (fun _ _ _ h => h) ⟨by rfl, fun W => ?_⟩ (fun _ => hS0) ?_
          · go_simp
          dsimp only [List.set_cons_zero, List.set_cons_succ]
          refine wpBut_pureL 2 139 (v := .int .i64 (y : Int)) rfl rfl (by as_aux_lemma => kernel_rfl) (fun _ _ _ h => h) ⟨by rfl, fun W => ?_⟩ (fun _ => hS0) ?_
          · go_simp
          dsimp only [List.set_cons_zero, List.set_cons_succ]
          refine wpBut_pureL 3 140 (v := .pointer (some ⟨gP, y, none⟩)) rfl rfl (by as_aux_lemma => kernel_rfl) (fun _ _ _ h => h) ⟨by rfl, fun W => ?_⟩ (fun _ => hS0) ?_
          · go_simp
          dsimp only [List.set_cons_zero, List.set_cons_succ]
          refine wpBut_takeL 4 141 (v := .int .i64 pv) rfl rfl (by as_aux_lemma => kernel_rfl) (fun _ _ _ h => h) ⟨by rfl, fun W hW => ?_⟩ hS0 ?_
          · obtain ⟨s9, e0, e1, e2, e3, e4, e5, b0, b1, b2, b3, b4, b5, p0⟩ := hW
            go_simp
          dsimp only [List.set_cons_zero, List.set_cons_succ]
          refine wpBut_one 5 rfl (by as_aux_lemma => kernel_rfl) fun K hK => ?_
          go_simp
          go_at_call 13
          refine (H19.out _ (okw6.step ok18.drew)).mono ?_
          rintro E1 z19 ⟨rfl, b_z⟩
          have ok19 := Ok.step ok18.drew b_z
          refine hK.out _ _ (HSP.out _ ok19) fun hS1 => ?_
          clear hK K hS0 b_z
          try simp only [Act.put, List.setIfInBounds_toArray, List.set_cons_zero, List.set_cons_succ]
          refine wpBut_pureL 6 136 (v := .tuple #[.int .i64 av, .int .i64 ae]) rfl rfl (by as_aux_lemma => kernel_rfl) (fun _ _ _ h => h) ⟨by rfl, fun W => ?_⟩ (fun _ => hS1) ?_
          · go_simp
          dsimp only [List.set_cons_zero, List.set_cons_succ]
          refine wpBut_pureL 7 143 (v := .int .i64 av) rfl rfl (by as_aux_lemma => kernel_rfl) (fun _ _ _ h => h) ⟨by rfl, fun W => ?_⟩ (fun _ => hS1) ?_
          · go_simp
          dsimp only [List.set_cons_zero, List.set_cons_succ]
          refine wpBut_pureL 8 144 (v := .int .i64 ae) rfl rfl (by as_aux_lemma => kernel_rfl) (fun _ _ _ h => h) ⟨by rfl, fun W => ?_⟩ (fun _ => hS1) ?_
          · go_simp
          dsimp only [List.set_cons_zero, List.set_cons_succ]
          refine wpBut_seq 9 (g := 1) (by decide) (by decide) (by rfl) (by as_aux_lemma => kernel_rfl) ?_
          simp only [List.drop_succ_cons, List.drop_zero]
          clear hS1
          go_upto_region 20 with fail
          refine wp_region_but (fun W => Ok v6 W ∧ W.cell? ⟨gL, j * 6, none⟩ = some (.string s) ∧ W.cell? ⟨gL, j * 6 + 1, none⟩ = some (.slice A n c) ∧ W.cell? ⟨gL, j * 6 + 2, none⟩ = some (.int .i64 T) ∧ W.cell? ⟨gL, j * 6 + 3, none⟩ = some (.int .i64 N) ∧ W.cell? ⟨gL, j * 6 + 4, none⟩ = some (.int .i64 lo) ∧ W.cell? ⟨gL, j * 6 + 5, none⟩ = some (.int .i64 hi) ∧ W.cell? ⟨gB, 0, none⟩ = some (.string s) ∧ W.cell? ⟨gB, 1, none⟩ = some (.slice A n c) ∧ W.cell? ⟨gB, 2, none⟩ = some (.int .i64 T) ∧ W.cell? ⟨gB, 3, none⟩ = some (.int .i64 N) ∧ W.cell? ⟨gB, 4, none⟩ = some (.int .i64 lo) ∧ W.cell? ⟨gB, 5, none⟩ = some (.int .i64 hi) ∧ W.cell? ⟨gP, y, none⟩ = some (.int .i64 pv)) [12] (by as_aux_lemma => kernel_rfl) (HSP.out _ ok19.drew) fun hS0 => ?_
          refine wpBut_pureL 0 146 (v := .slice (some ⟨gL, 0, none⟩) 4 4) rfl rfl (by as_aux_lemma => kernel_rfl) (fun _ _ _ h => h) ⟨by rfl, fun W => ?_⟩ (fun _ => hS0) ?_
          · go_simp
          dsimp only [List.set_cons_zero, List.set_cons_succ]
          refine wpBut_pureL 1 147 (v := .int .i64 (j : Int)) rfl rfl (by as_aux_lemma => kernel_rfl) (fun _ _ _ h => h) ⟨by rfl, fun W => ?_⟩ (fun _ => hS0) ?_
          · go_simp
          dsimp only [List.set_cons_zero, List.set_cons_succ]
          refine wpBut_pureL 2 148 (v := .pointer (some ⟨gL, j * 6, none⟩)) rfl rfl (by as_aux_lemma => kernel_rfl) (fun _ _ _ h => h) ⟨by rfl, fun W => ?_⟩ (fun _ => hS0) ?_
          · go_simp
          dsimp only [List.set_cons_zero, List.set_cons_succ]
          refine wpBut_takeL 3 149 (v := spV s A n c T N lo hi) rfl rfl (by as_aux_lemma => kernel_rfl) (fun _ _ _ h => h) ⟨by rfl, fun W hW => ?_⟩ hS0 ?_
          · obtain ⟨s9, e0, e1, e2, e3, e4, e5, b0, b1, b2, b3, b4, b5, p0⟩ := hW
            go_simp
          dsimp only [List.set_cons_zero, List.set_cons_succ]
          refine wpBut_pureL 4 150 (v := .slice (some ⟨gP, 0, none⟩) 5 5) rfl rfl (by as_aux_lemma => kernel_rfl) (fun _ _ _ h => h) ⟨by rfl, fun W => ?_⟩ (fun _ => hS0) ?_
          · go_simp
          dsimp only [List.set_cons_zero, List.set_cons_succ]
          refine wpBut_pureL 5 151 (v := .int .i64 (y : Int)) rfl rfl (by as_aux_lemma => kernel_rfl) (fun _ _ _ h => h) ⟨by rfl, fun W => ?_⟩ (fun _ => hS0) ?_
          · go_simp
          dsimp only [List.set_cons_zero, List.set_cons_succ]
          refine wpBut_pureL 6 152 (v := .pointer (some ⟨gP, y, none⟩)) rfl rfl (by as_aux_lemma => kernel_rfl) (fun _ _ _ h => h) ⟨by rfl, fun W => ?_⟩ (fun _ => hS0) ?_
          · go_simp
          dsimp only [List.set_cons_zero, List.set_cons_succ]
          refine wpBut_takeL 7 153 (v := .int .i64 pv) rfl rfl (by as_aux_lemma => kernel_rfl) (fun _ _ _ h => h) ⟨by rfl, fun W hW => ?_⟩ hS0 ?_
          · obtain ⟨s9, e0, e1, e2, e3, e4, e5, b0, b1, b2, b3, b4, b5, p0⟩ := hW
            go_simp
          dsimp only [List.set_cons_zero, List.set_cons_succ]
          refine wpBut_one 8 rfl (by as_aux_lemma => kernel_rfl) fun K hK => ?_
          go_simp
          go_at_call 14
          refine (H20.out _ (okw6.step ok19.drew)).mono ?_
          rintro E1 z20 ⟨rfl, b_z⟩
          have ok20 := Ok.step ok19.drew b_z
          refine hK.out _ _ (HSP.out _ ok20) fun hS1 => ?_
          clear hK K hS0 b_z
          try simp only [Act.put, List.setIfInBounds_toArray, List.set_cons_zero, List.set_cons_succ]
          refine wpBut_pureL 9 145 (v := .tuple #[.int .i64 av, .int .i64 ae]) rfl rfl (by as_aux_lemma => kernel_rfl) (fun _ _ _ h => h) ⟨by rfl, fun W => ?_⟩ (fun _ => hS1) ?_
          · go_simp
          dsimp only [List.set_cons_zero, List.set_cons_succ]
          refine wpBut_pureL 10 155 (v := .int .i64 av) rfl rfl (by as_aux_lemma => kernel_rfl) (fun _ _ _ h => h) ⟨by rfl, fun W => ?_⟩ (fun _ => hS1) ?_
          · go_simp
          dsimp only [List.set_cons_zero, List.set_cons_succ]
          refine wpBut_pureL 11 156 (v := .int .i64 ae) rfl rfl (by as_aux_lemma => kernel_rfl) (fun _ _ _ h => h) ⟨by rfl, fun W => ?_⟩ (fun _ => hS1) ?_
          · go_simp
          dsimp only [List.set_cons_zero, List.set_cons_succ]
          refine wpBut_seq 12 (g := 1) (by decide) (by decide) (by rfl) (by as_aux_lemma => kernel_rfl) ?_
          simp only [List.drop_succ_cons, List.drop_zero]
          clear hS1
          go_upto_region 21 with fail
          refine wp_region_but (fun W => Ok v6 W ∧ W.cell? ⟨gL, j * 6, none⟩ = some (.string s) ∧ W.cell? ⟨gL, j * 6 + 1, none⟩ = some (.slice A n c) ∧ W.cell? ⟨gL, j * 6 + 2, none⟩ = some (.int .i64 T) ∧ W.cell? ⟨gL, j * 6 + 3, none⟩ = some (.int .i64 N) ∧ W.cell? ⟨gL, j * 6 + 4, none⟩ = some (.int .i64 lo) ∧ W.cell? ⟨gL, j * 6 + 5, none⟩ = some (.int .i64 hi) ∧ W.cell? ⟨gB, 0, none⟩ = some (.string s) ∧ W.cell? ⟨gB, 1, none⟩ = some (.slice A n c) ∧ W.cell? ⟨gB, 2, none⟩ = some (.int .i64 T) ∧ W.cell? ⟨gB, 3, none⟩ = some (.int .i64 N) ∧ W.cell? ⟨gB, 4, none⟩ = some (.int .i64 lo) ∧ W.cell? ⟨gB, 5, none⟩ = some (.int .i64 hi) ∧ W.cell? ⟨gP, y, none⟩ = some (.int .i64 pv)) [9] (by as_aux_lemma => kernel_rfl) (HSP.out _ ok20.drew) fun hS0 => ?_
          refine wpBut_takeL 0 158 (v := spV s A n c T N lo hi) rfl rfl (by as_aux_lemma => kernel_rfl) (fun _ _ _ h => h) ⟨by rfl, fun W hW => ?_⟩ hS0 ?_
          · obtain ⟨s9, e0, e1, e2, e3, e4, e5, b0, b1, b2, b3, b4, b5, p0⟩ := hW
            go_simp
          dsimp only [List.set_cons_zero, List.set_cons_succ]
          refine wpBut_pureL 1 159 (v := .slice (some ⟨gP, 0, none⟩) 5 5) rfl rfl (by as_aux_lemma => kernel_rfl) (fun _ _ _ h => h) ⟨by rfl, fun W => ?_⟩ (fun _ => hS0) ?_
          · go_simp
          dsimp only [List.set_cons_zero, List.set_cons_succ]
          refine wpBut_pureL 2 160 (v := .int .i64 (y : Int)) rfl rfl (by as_aux_lemma => kernel_rfl) (fun _ _ _ h => h) ⟨by rfl, fun W => ?_⟩ (fun _ => hS0) ?_
          · go_simp
          dsimp only [List.set_cons_zero, List.set_cons_succ]
          refine wpBut_pureL 3 161 (v := .pointer (some ⟨gP, y, none⟩)) rfl rfl (by as_aux_lemma => kernel_rfl) (fun _ _ _ h => h) ⟨by rfl, fun W => ?_⟩ (fun _ => hS0) ?_
          · go_simp
          dsimp only [List.set_cons_zero, List.set_cons_succ]
          refine wpBut_takeL 4 162 (v := .int .i64 pv) rfl rfl (by as_aux_lemma => kernel_rfl) (fun _ _ _ h => h) ⟨by rfl, fun W hW => ?_⟩ hS0 ?_
          · obtain ⟨s9, e0, e1, e2, e3, e4, e5, b0, b1, b2, b3, b4, b5, p0⟩ := hW
            go_simp
          dsimp only [List.set_cons_zero, List.set_cons_succ]
          refine wpBut_one 5 rfl (by as_aux_lemma => kernel_rfl) fun K hK => ?_
          go_simp
          go_at_call 15
          refine (H21.out _ (okw6.step ok20.drew)).mono ?_
          rintro E1 z21 ⟨rfl, b_z⟩
          have ok21 := Ok.step ok20.drew b_z
          refine hK.out _ _ (HSP.out _ ok21) fun hS1 => ?_
          clear hK K hS0 b_z
          try simp only [Act.put, List.setIfInBounds_toArray, List.set_cons_zero, List.set_cons_succ]
          refine wpBut_pureL 6 157 (v := .tuple #[.int .i64 bv, .int .i64 be]) rfl rfl (by as_aux_lemma => kernel_rfl) (fun _ _ _ h => h) ⟨by rfl, fun W => ?_⟩ (fun _ => hS1) ?_
          · go_simp
          dsimp only [List.set_cons_zero, List.set_cons_succ]
          refine wpBut_pureL 7 164 (v := .int .i64 bv) rfl rfl (by as_aux_lemma => kernel_rfl) (fun _ _ _ h => h) ⟨by rfl, fun W => ?_⟩ (fun _ => hS1) ?_
          · go_simp
          dsimp only [List.set_cons_zero, List.set_cons_succ]
          refine wpBut_pureL 8 165 (v := .int .i64 be) rfl rfl (by as_aux_lemma => kernel_rfl) (fun _ _ _ h => h) ⟨by rfl, fun W => ?_⟩ (fun _ => hS1) ?_
          · go_simp
          dsimp only [List.set_cons_zero, List.set_cons_succ]
          refine wpBut_seq 9 (g := 1) (by decide) (by decide) (by rfl) (by as_aux_lemma => kernel_rfl) ?_
          simp only [List.drop_succ_cons, List.drop_zero]
          clear hS1
          go_upto_region 22 with fail
          refine wp_region_but (fun W => Ok v6 W ∧ W.cell? ⟨gL, j * 6, none⟩ = some (.string s) ∧ W.cell? ⟨gL, j * 6 + 1, none⟩ = some (.slice A n c) ∧ W.cell? ⟨gL, j * 6 + 2, none⟩ = some (.int .i64 T) ∧ W.cell? ⟨gL, j * 6 + 3, none⟩ = some (.int .i64 N) ∧ W.cell? ⟨gL, j * 6 + 4, none⟩ = some (.int .i64 lo) ∧ W.cell? ⟨gL, j * 6 + 5, none⟩ = some (.int .i64 hi) ∧ W.cell? ⟨gB, 0, none⟩ = some (.string s) ∧ W.cell? ⟨gB, 1, none⟩ = some (.slice A n c) ∧ W.cell? ⟨gB, 2, none⟩ = some (.int .i64 T) ∧ W.cell? ⟨gB, 3, none⟩ = some (.int .i64 N) ∧ W.cell? ⟨gB, 4, none⟩ = some (.int .i64 lo) ∧ W.cell? ⟨gB, 5, none⟩ = some (.int .i64 hi) ∧ W.cell? ⟨gP, y, none⟩ = some (.int .i64 pv)) [12] (by as_aux_lemma => kernel_rfl) (HSP.out _ ok21.drew) fun hS0 => ?_
          refine wpBut_pureL 0 167 (v := .slice (some ⟨gL, 0, none⟩) 4 4) rfl rfl (by as_aux_lemma => kernel_rfl) (fun _ _ _ h => h) ⟨by rfl, fun W => ?_⟩ (fun _ => hS0) ?_
          · go_simp
          dsimp only [List.set_cons_zero, List.set_cons_succ]
          refine wpBut_pureL 1 168 (v := .int .i64 (j : Int)) rfl rfl (by as_aux_lemma => kernel_rfl) (fun _ _ _ h => h) ⟨by rfl, fun W => ?_⟩ (fun _ => hS0) ?_
          · go_simp
          dsimp only [List.set_cons_zero, List.set_cons_succ]
          refine wpBut_pureL 2 169 (v := .pointer (some ⟨gL, j * 6, none⟩)) rfl rfl (by as_aux_lemma => kernel_rfl) (fun _ _ _ h => h) ⟨by rfl, fun W => ?_⟩ (fun _ => hS0) ?_
          · go_simp
          dsimp only [List.set_cons_zero, List.set_cons_succ]
          refine wpBut_takeL 3 170 (v := spV s A n c T N lo hi) rfl rfl (by as_aux_lemma => kernel_rfl) (fun _ _ _ h => h) ⟨by rfl, fun W hW => ?_⟩ hS0 ?_
          · obtain ⟨s9, e0, e1, e2, e3, e4, e5, b0, b1, b2, b3, b4, b5, p0⟩ := hW
            go_simp
          dsimp only [List.set_cons_zero, List.set_cons_succ]
          refine wpBut_pureL 4 171 (v := .slice (some ⟨gP, 0, none⟩) 5 5) rfl rfl (by as_aux_lemma => kernel_rfl) (fun _ _ _ h => h) ⟨by rfl, fun W => ?_⟩ (fun _ => hS0) ?_
          · go_simp
          dsimp only [List.set_cons_zero, List.set_cons_succ]
          refine wpBut_pureL 5 172 (v := .int .i64 (y : Int)) rfl rfl (by as_aux_lemma => kernel_rfl) (fun _ _ _ h => h) ⟨by rfl, fun W => ?_⟩ (fun _ => hS0) ?_
          · go_simp
          dsimp only [List.set_cons_zero, List.set_cons_succ]
          refine wpBut_pureL 6 173 (v := .pointer (some ⟨gP, y, none⟩)) rfl rfl (by as_aux_lemma => kernel_rfl) (fun _ _ _ h => h) ⟨by rfl, fun W => ?_⟩ (fun _ => hS0) ?_
          · go_simp
          dsimp only [List.set_cons_zero, List.set_cons_succ]
          refine wpBut_takeL 7 174 (v := .int .i64 pv) rfl rfl (by as_aux_lemma => kernel_rfl) (fun _ _ _ h => h) ⟨by rfl, fun W hW => ?_⟩ hS0 ?_
          · obtain ⟨s9, e0, e1, e2, e3, e4, e5, b0, b1, b2, b3, b4, b5, p0⟩ := hW
            go_simp
          dsimp only [List.set_cons_zero, List.set_cons_succ]
          refine wpBut_one 8 rfl (by as_aux_lemma => kernel_rfl) fun K hK => ?_
          go_simp
          go_at_call 16
          refine (H22.out _ (okw6.step ok21.drew)).mono ?_
          rintro E1 z22 ⟨rfl, b_z⟩
          have ok22 := Ok.step ok21.drew b_z
          refine hK.out _ _ (HSP.out _ ok22) fun hS1 => ?_
          clear hK K hS0 b_z
          try simp only [Act.put, List.setIfInBounds_toArray, List.set_cons_zero, List.set_cons_succ]
          refine wpBut_pureL 9 166 (v := .tuple #[.int .i64 bv, .int .i64 be]) rfl rfl (by as_aux_lemma => kernel_rfl) (fun _ _ _ h => h) ⟨by rfl, fun W => ?_⟩ (fun _ => hS1) ?_
          · go_simp
          dsimp only [List.set_cons_zero, List.set_cons_succ]
          refine wpBut_pureL 10 176 (v := .int .i64 bv) rfl rfl (by as_aux_lemma => kernel_rfl) (fun _ _ _ h => h) ⟨by rfl, fun W => ?_⟩ (fun _ => hS1) ?_
          · go_simp
          dsimp only [List.set_cons_zero, List.set_cons_succ]
          refine wpBut_pureL 11 177 (v := .int .i64 be) rfl rfl (by as_aux_lemma => kernel_rfl) (fun _ _ _ h => h) ⟨by rfl, fun W => ?_⟩ (fun _ => hS1) ?_
          · go_simp
          dsimp only [List.set_cons_zero, List.set_cons_succ]
          refine wpBut_seq 12 (g := 1) (by decide) (by decide) (by rfl) (by as_aux_lemma => kernel_rfl) ?_
          simp only [List.drop_succ_cons, List.drop_zero]
          clear hS1
          go_upto_region 23 with fail
          refine wp_region_but (fun W => Ok v6 W ∧ W.cell? ⟨gL, j * 6, none⟩ = some (.string s) ∧ W.cell? ⟨gL, j * 6 + 1, none⟩ = some (.slice A n c) ∧ W.cell? ⟨gL, j * 6 + 2, none⟩ = some (.int .i64 T) ∧ W.cell? ⟨gL, j * 6 + 3, none⟩ = some (.int .i64 N) ∧ W.cell? ⟨gL, j * 6 + 4, none⟩ = some (.int .i64 lo) ∧ W.cell? ⟨gL, j * 6 + 5, none⟩ = some (.int .i64 hi) ∧ W.cell? ⟨gB, 0, none⟩ = some (.string s) ∧ W.cell? ⟨gB, 1, none⟩ = some (.slice A n c) ∧ W.cell? ⟨gB, 2, none⟩ = some (.int .i64 T) ∧ W.cell? ⟨gB, 3, none⟩ = some (.int .i64 N) ∧ W.cell? ⟨gB, 4, none⟩ = some (.int .i64 lo) ∧ W.cell? ⟨gB, 5, none⟩ = some (.int .i64 hi) ∧ W.cell? ⟨gP, y, none⟩ = some (.int .i64 pv)) [10] (by as_aux_lemma => kernel_rfl) (HSP.out _ ok22.drew) fun hS0 => ?_
          refine wpBut_takeL 0 179 (v := spV s A n c T N lo hi) rfl rfl (by as_aux_lemma => kernel_rfl) (fun _ _ _ h => h) ⟨by rfl, fun W hW => ?_⟩ hS0 ?_
          · obtain ⟨s9, e0, e1, e2, e3, e4, e5, b0, b1, b2, b3, b4, b5, p0⟩ := hW
            go_simp
          dsimp only [List.set_cons_zero, List.set_cons_succ]
          refine wpBut_pureL 1 180 (v := .slice (some ⟨gP, 0, none⟩) 5 5) rfl rfl (by as_aux_lemma => kernel_rfl) (fun _ _ _ h => h) ⟨by rfl, fun W => ?_⟩ (fun _ => hS0) ?_
          · go_simp
          dsimp only [List.set_cons_zero, List.set_cons_succ]
          refine wpBut_pureL 2 181 (v := .int .i64 (y : Int)) rfl rfl (by as_aux_lemma => kernel_rfl) (fun _ _ _ h => h) ⟨by rfl, fun W => ?_⟩ (fun _ => hS0) ?_
          · go_simp
          dsimp only [List.set_cons_zero, List.set_cons_succ]
          refine wpBut_pureL 3 182 (v := .pointer (some ⟨gP, y, none⟩)) rfl rfl (by as_aux_lemma => kernel_rfl) (fun _ _ _ h => h) ⟨by rfl, fun W => ?_⟩ (fun _ => hS0) ?_
          · go_simp
          dsimp only [List.set_cons_zero, List.set_cons_succ]
          refine wpBut_takeL 4 183 (v := .int .i64 pv) rfl rfl (by as_aux_lemma => kernel_rfl) (fun _ _ _ h => h) ⟨by rfl, fun W hW => ?_⟩ hS0 ?_
          · obtain ⟨s9, e0, e1, e2, e3, e4, e5, b0, b1, b2, b3, b4, b5, p0⟩ := hW
            go_simp
          dsimp only [List.set_cons_zero, List.set_cons_succ]
          refine wpBut_one 5 rfl (by as_aux_lemma => kernel_rfl) fun K hK => ?_
          go_simp
          go_at_call 17
          refine (H23.out _ (okw6.step ok22.drew)).mono ?_
          rintro E1 z23 ⟨rfl, b_z⟩
          have ok23 := Ok.step ok22.drew b_z
          refine hK.out _ _ (HSP.out _ ok23) fun hS1 => ?_
          clear hK K hS0 b_z
          try simp only [Act.put, List.setIfInBounds_toArray, List.set_cons_zero, List.set_cons_succ]
          refine wpBut_pureL 6 178 (v := .tuple #[.int .i64 fv, .int .i64 fu, .int .i64 fe]) rfl rfl (by as_aux_lemma => kernel_rfl) (fun _ _ _ h => h) ⟨by rfl, fun W => ?_⟩ (fun _ => hS1) ?_
          · go_simp
          dsimp only [List.set_cons_zero, List.set_cons_succ]
          refine wpBut_pureL 7 185 (v := .int .i64 fv) rfl rfl (by as_aux_lemma => kernel_rfl) (fun _ _ _ h => h) ⟨by rfl, fun W => ?_⟩ (fun _ => hS1) ?_
          · go_simp
          dsimp only [List.set_cons_zero, List.set_cons_succ]
          refine wpBut_pureL 8 186 (v := .int .i64 fu) rfl rfl (by as_aux_lemma => kernel_rfl) (fun _ _ _ h => h) ⟨by rfl, fun W => ?_⟩ (fun _ => hS1) ?_
          · go_simp
          dsimp only [List.set_cons_zero, List.set_cons_succ]
          refine wpBut_pureL 9 187 (v := .int .i64 fe) rfl rfl (by as_aux_lemma => kernel_rfl) (fun _ _ _ h => h) ⟨by rfl, fun W => ?_⟩ (fun _ => hS1) ?_
          · go_simp
          dsimp only [List.set_cons_zero, List.set_cons_succ]
          refine wpBut_seq 10 (g := 2) (by decide) (by decide) (by rfl) (by as_aux_lemma => kernel_rfl) ?_
          simp only [List.drop_succ_cons, List.drop_zero]
          clear hS1
          go_upto_region 24 with fail
          refine wp_region_but (fun W => Ok v6 W ∧ W.cell? ⟨gL, j * 6, none⟩ = some (.string s) ∧ W.cell? ⟨gL, j * 6 + 1, none⟩ = some (.slice A n c) ∧ W.cell? ⟨gL, j * 6 + 2, none⟩ = some (.int .i64 T) ∧ W.cell? ⟨gL, j * 6 + 3, none⟩ = some (.int .i64 N) ∧ W.cell? ⟨gL, j * 6 + 4, none⟩ = some (.int .i64 lo) ∧ W.cell? ⟨gL, j * 6 + 5, none⟩ = some (.int .i64 hi) ∧ W.cell? ⟨gB, 0, none⟩ = some (.string s) ∧ W.cell? ⟨gB, 1, none⟩ = some (.slice A n c) ∧ W.cell? ⟨gB, 2, none⟩ = some (.int .i64 T) ∧ W.cell? ⟨gB, 3, none⟩ = some (.int .i64 N) ∧ W.cell? ⟨gB, 4, none⟩ = some (.int .i64 lo) ∧ W.cell? ⟨gB, 5, none⟩ = some (.int .i64 hi) ∧ W.cell? ⟨gP, y, none⟩ = some (.int .i64 pv)) [13] (by as_aux_lemma => kernel_rfl) (HSP.out _ ok23.drew) fun hS0 => ?_
          refine wpBut_pureL 0 189 (v := .slice (some ⟨gL, 0, none⟩) 4 4) rfl rfl (by as_aux_lemma => kernel_rfl) (fun _ _ _ h => h) ⟨by rfl, fun W => ?_⟩ (fun _ => hS0) ?_
          · go_simp
          dsimp only [List.set_cons_zero, List.set_cons_succ]
          refine wpBut_pureL 1 190 (v := .int .i64 (j : Int)) rfl rfl (by as_aux_lemma => kernel_rfl) (fun _ _ _ h => h) ⟨by rfl, fun W => ?_⟩ (fun _ => hS0) ?_
          · go_simp
          dsimp only [List.set_cons_zero, List.set_cons_succ]
          refine wpBut_pureL 2 191 (v := .pointer (some ⟨gL, j * 6, none⟩)) rfl rfl (by as_aux_lemma => kernel_rfl) (fun _ _ _ h => h) ⟨by rfl, fun W => ?_⟩ (fun _ => hS0) ?_
          · go_simp
          dsimp only [List.set_cons_zero, List.set_cons_succ]
          refine wpBut_takeL 3 192 (v := spV s A n c T N lo hi) rfl rfl (by as_aux_lemma => kernel_rfl) (fun _ _ _ h => h) ⟨by rfl, fun W hW => ?_⟩ hS0 ?_
          · obtain ⟨s9, e0, e1, e2, e3, e4, e5, b0, b1, b2, b3, b4, b5, p0⟩ := hW
            go_simp
          dsimp only [List.set_cons_zero, List.set_cons_succ]
          refine wpBut_pureL 4 193 (v := .slice (some ⟨gP, 0, none⟩) 5 5) rfl rfl (by as_aux_lemma => kernel_rfl) (fun _ _ _ h => h) ⟨by rfl, fun W => ?_⟩ (fun _ => hS0) ?_
          · go_simp
          dsimp only [List.set_cons_zero, List.set_cons_succ]
          refine wpBut_pureL 5 194 (v := .int .i64 (y : Int)) rfl rfl (by as_aux_lemma => kernel_rfl) (fun _ _ _ h => h) ⟨by rfl, fun W => ?_⟩ (fun _ => hS0) ?_
          · go_simp
          dsimp only [List.set_cons_zero, List.set_cons_succ]
          refine wpBut_pureL 6 195 (v := .pointer (some ⟨gP, y, none⟩)) rfl rfl (by as_aux_lemma => kernel_rfl) (fun _ _ _ h => h) ⟨by rfl, fun W => ?_⟩ (fun _ => hS0) ?_
          · go_simp
          dsimp only [List.set_cons_zero, List.set_cons_succ]
          refine wpBut_takeL 7 196 (v := .int .i64 pv) rfl rfl (by as_aux_lemma => kernel_rfl) (fun _ _ _ h => h) ⟨by rfl, fun W hW => ?_⟩ hS0 ?_
          · obtain ⟨s9, e0, e1, e2, e3, e4, e5, b0, b1, b2, b3, b4, b5, p0⟩ := hW
            go_simp
          dsimp only [List.set_cons_zero, List.set_cons_succ]
          refine wpBut_one 8 rfl (by as_aux_lemma => kernel_rfl) fun K hK => ?_
          go_simp
          go_at_call 18
          refine (H24.out _ (okw6.step ok23.drew)).mono ?_
          rintro E1 z24 ⟨rfl, b_z⟩
          have ok24 := Ok.step ok23.drew b_z
          refine hK.out _ _ (HSP.out _ ok24) fun hS1 => ?_
          clear hK K hS0 b_z
          try simp only [Act.put, List.setIfInBounds_toArray, List.set_cons_zero, List.set_cons_succ]
          refine wpBut_pureL 9 188 (v := .tuple #[.int .i64 fv, .int .i64 fu, .int .i64 fe]) rfl rfl (by as_aux_lemma => kernel_rfl) (fun _ _ _ h => h) ⟨by rfl, fun W => ?_⟩ (fun _ => hS1) ?_
          · go_simp
          dsimp only [List.set_cons_zero, List.set_cons_succ]
          refine wpBut_pureL 10 198 (v := .int .i64 fv) rfl rfl (by as_aux_lemma => kernel_rfl) (fun _ _ _ h => h) ⟨by rfl, fun W => ?_⟩ (fun _ => hS1) ?_
          · go_simp
          dsimp only [List.set_cons_zero, List.set_cons_succ]
          refine wpBut_pureL 11 199 (v := .int .i64 fu) rfl rfl (by as_aux_lemma => kernel_rfl) (fun _ _ _ h => h) ⟨by rfl, fun W => ?_⟩ (fun _ => hS1) ?_
          · go_simp
          dsimp only [List.set_cons_zero, List.set_cons_succ]
          refine wpBut_pureL 12 200 (v := .int .i64 fe) rfl rfl (by as_aux_lemma => kernel_rfl) (fun _ _ _ h => h) ⟨by rfl, fun W => ?_⟩ (fun _ => hS1) ?_
          · go_simp
          dsimp only [List.set_cons_zero, List.set_cons_succ]
          refine wpBut_seq 13 (g := 2) (by decide) (by decide) (by rfl) (by as_aux_lemma => kernel_rfl) ?_
          simp only [List.drop_succ_cons, List.drop_zero]
          clear hS1
          have g_av : (av != av) = false := by simp
          have g_ae : (ae != ae) = false := by simp
          have g_bv : (bv != bv) = false := by simp
          have g_be : (be != be) = false := by simp
          have g_fv : (fv != fv) = false := by simp
          have g_fu : (fu != fu) = false := by simp
          have g_fe : (fe != fe) = false := by simp
          go_wp2_with fail
          go_roundw
          case rel => exact ⟨y + 1, by omega, by go_num, ok24⟩
          case measure => simp only [intOf]; omega
        · have hyi : ¬ (y : Int) < 5 := by omega
          go_wp2_with fail
          go_roundw
          case rel => exact ⟨j + 1, by omega, by go_num, okw6.step oky⟩
          case measure => simp only [intOf]; omega
    · have hji : ¬ (j : Int) < 4 := by omega
      go_wp2_with fail
      refine (HV.out _ (Ok.step ok05 okr)).mono ?_
      rintro E w9 ⟨rfl, b9⟩
      have ok9 := Ok.step ok05 (Ok.step okr b9)
      go_wp2_with fail
      go_ret
      exact ⟨rfl, ok9⟩
theorem splitParts_walk (A : Option Addr) (n c : Nat) (l : List Int) (how by_ k : Int) (w : World) (_ : n ≤ c) (_ : n ≤ maxLen) (hl : Reads w w.heap.size 1 A n (ints l)) (hI : ∀ x ∈ l, I64 x) (hh : I64 how) (hb : I64 by_) (hk : I64 k) (hK : Consts w) (hR : RConsts w) (h1 : 1 < w.heap.size) :
    Calls Tryd.prog 3 #[.slice A n c, .int .i64 how, .int .i64 by_, .int .i64 k] w fun E W' => E = .returned (.bool true) ∧ Below w.heap.size w W' := splitParts_any A n c l how by_ k w hl hI hh hb hk hK hR h1
end Go.Proofs.YtnionejefpnfoaaDoor
