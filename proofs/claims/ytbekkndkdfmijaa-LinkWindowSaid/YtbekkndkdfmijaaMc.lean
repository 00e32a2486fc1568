/- LinkWindow: the walk (function 8). No condition. -/
import Derived.Test.YtbekkndkdfmijaaMd
import Derived.Test.YtbekkndkdfmijaaKn
import Derived.BigQuiet
import Derived.Deep.OwnRows
set_option linter.unusedSimpArgs false
set_option linter.unusedVariables false
namespace Go.Proofs.Ytbekkndkdfmijaa
open Go.RowKit Go

/-- the end, and the block b that is written between the Sends -/
structure Wn (w W : World) (g h B0 : Nat) (E : EndV) (x : Int) : Prop where
  bel : Below w.heap.size w W
  e : ∃ q vs, EndVs W g q h 0 E vs ∧ (∀ u ∈ vs, NotB B0 u) ∧ ∀ j ∈ g :: h :: q.toList, w.heap.size ≤ j
  blk : Blk W B0 5 #[.int .u8 x]
  b0 : w.heap.size ≤ B0
  nohd : ∀ s, E.held s = none
theorem Wn.ok {w W W' : World} {g h B0 : Nat} {E : EndV} {x : Int} (H : Wn w W g h B0 E x) (b : Below W.heap.size W W') : Wn w W' g h B0 E x := by
  obtain ⟨q, vs, h1, h2, h3⟩ := H.e
  exact ⟨below_next H.bel b, ⟨q, vs, h1.bel b, h2, h3⟩, H.blk.ok b, H.b0, H.nohd⟩
theorem Wn.poke {w W : World} {g h B0 : Nat} {E : EndV} {x : Int} (H : Wn w W g h B0 E x) (y : Int) : Wn w (W.setCell ⟨B0, 0, none⟩ (.int .u8 y)) g h B0 E y := by
  obtain ⟨q, vs, h1, h2, h3⟩ := H.e
  exact ⟨H.bel.setCell (p := ⟨B0, 0, none⟩) H.b0 _, ⟨q, vs, h1.poke H.nohd h2 H.blk 0 _, h2, h3⟩, H.blk.set_ 0 _, H.b0, H.nohd⟩
theorem Wn.send {w W : World} {g h B0 : Nat} {E : EndV} {x : Nat} (H : Wn w W g h B0 E (x : Int)) (hx : x < 256) (hw : E.wait.length < 1000) :
    Calls Try.prog 11 #[.pointer (some ⟨g, 0, none⟩), .slice (some ⟨B0, 0, none⟩) 1 1] W fun e W' => e = .returned (.int .i64 0) ∧ Hid (Wn w W' g h B0 { E with wait := E.wait ++ [[byt x]] } (x : Int)) := by
  obtain ⟨q, vs, h1, h2, h3⟩ := H.e
  have hr : Reads W W.heap.size 1 (some ⟨B0, 0, none⟩) 1 (bytesV [byt x]) := ⟨rfl, fun _ => ⟨_, rfl, H.blk.lt, fun j u hu => by
    rw [addr_add0]
    refine H.blk.at_ ?_
    cases j with
    | zero => rw [← hu]; show _ = some (Value.int .u8 ((byt x).toNat : Int)); rw [byt_toNat hx]; rfl
    | succ j => simp [bytesV] at hu⟩⟩
  refine (send_vs g h 0 q E (some ⟨B0, 0, none⟩) 1 1 [byt x] vs W h1 hr (by omega) hw).mono ?_
  rintro e W' ⟨q', A1, c1, rfl, h4, h5, h6, h7⟩
  have hlt := H.blk.lt
  refine ⟨rfl, Lib.hid ⟨H.bel.trans (h7.belowB H.bel.size h3), ⟨q', _, h4, fun u hu => ?_, fun j hj => ?_⟩, H.blk.fr h7 (fun hm => h1.at_.not_u8 _ hm _ _ H.blk), H.b0, H.nohd⟩⟩
  · rcases List.mem_append.1 hu with hu | hu
    · exact h2 u hu
    · simp at hu; subst hu; exact h5.notB hlt
  · rcases h6 with rfl | ⟨i, rfl, hi⟩
    · exact h3 j hj
    · have := H.bel.size
      simp at hj
      rcases hj with rfl | rfl | rfl
      · exact h3 _ (by simp)
      · exact h3 _ (by simp)
      · omega
theorem blk_one {W : World} {b d : Nat} (k : Blk W b 5 #[.int .u8 (d : Int)]) (hd : d < 256) : Reads W W.heap.size 1 (some ⟨b, 0, none⟩) 1 (bytesV [byt d]) := ⟨rfl, fun _ => ⟨_, rfl, k.lt, fun j u hu => by
    rw [addr_add0]
    refine k.at_ ?_
    cases j with
    | zero => rw [← hu]; show _ = some (Value.int .u8 ((byt d).toNat : Int)); rw [byt_toNat hd]; rfl
    | succ j => simp [bytesV] at hu⟩⟩
/-- the reference's packet of one byte, its seal, the comparison -/
theorem rPkt_w {W : World} {b d : Nat} (s : Int) (hs : I64 s) (k : Blk W b 5 #[.int .u8 (d : Int)]) (hd : d < 256) :
    Calls Try.prog 18 #[.agg #[.int .i64 s, .int .i64 0, .slice (some ⟨b, 0, none⟩) 1 1]] W fun e W' => ∃ A N c, e = .returned (.slice A N c) ∧ Hid (Per W' A N (pktB s 0 [byt d])) ∧ Hid (N ≤ 1000) ∧ Below W.heap.size W W' := by
  have hl := pktB_le s 0 [byt d] hs (by unfold I64; omega) (by simp)
  refine (rPkt_any s 0 (some ⟨b, 0, none⟩) 1 1 [byt d] W hs (by unfold I64; omega) (blk_one k hd) (by omega)).mono ?_
  rintro e W' ⟨v, rfl, ho, hb⟩
  obtain ⟨A, c, rfl, hr⟩ := own_reads1 ho
  exact ⟨A, _, c, rfl, Lib.hid (per_of hr), Lib.hid (by simp at hl ⊢; omega), hb⟩
theorem rSeal_w {W0 W : World} {A : Option Addr} {N c key : Nat} {l : List UInt8} (HP : Hid (Per W0 A N l)) (HN : Hid (N ≤ 1000)) (k : Ok W0 W) (hk : key < 18446744073709551616) :
    Calls Try.prog 17 #[.int .u64 (key : Int), .slice A N c] W fun e W' => ∃ A' N' c', e = .returned (.slice A' N' c') ∧ Hid (Per W' A' N' (sealL key l)) ∧ Hid (N' ≤ 2000) ∧ Below W.heap.size W W' := by
  have hl := HP.out.len
  have hn := HN.out
  refine (rSeal_any key A N c l W hk (HP.out W k) (by omega)).mono ?_
  rintro e W' ⟨v, rfl, ho, hb⟩
  obtain ⟨A', c', rfl, hr⟩ := own_reads1 ho
  exact ⟨A', _, c', rfl, Lib.hid (per_of hr), Lib.hid (by rw [sealL_length]; omega), hb⟩
theorem same_w {W0 W1 W : World} {A B : Option Addr} {n m c d : Nat} {l : List UInt8} (HA : Hid (Per W0 A n l)) (HB : Hid (Per W1 B m l)) (k0 : Ok W0 W) (k1 : Ok W1 W) (HN : Hid (m ≤ 2000)) :
    Calls Try.prog 29 #[.slice A n c, .slice B m d] W fun e W' => e = .returned (.bool true) ∧ Below W.heap.size W W' := by
  have h1 := HA.out.len
  have h2 := HB.out.len
  have h3 := HN.out
  refine (same_any A B n m c d l l W.heap.size W (HA.out W k0) (HB.out W k1) (by omega) (by omega)).mono ?_
  rintro e W' ⟨rfl, hd⟩
  exact ⟨by rw [decide_eq_true rfl], hd.below _⟩
/-- the end and its copy -/
structure Pr (w W : World) (col : Nat → Nat) (g h N : Nat) (E : EndV) (g' h' N' : Nat) (E' : EndV) : Prop where
  a : EndOk w col W 0 g h N E
  c : EndOk w col W 1 g' h' N' E'
  bel : Below w.heap.size w W
section
variable {w W W' : World} {col : Nat → Nat} {g h N g' h' N' N2 c : Nat} {E E' E2 : EndV}
theorem Pr.ok (P : Pr w W col g h N E g' h' N' E') (b : Below W.heap.size W W') : Pr w W' col g h N E g' h' N' E' := ⟨P.a.ok b, P.c.ok b, below_next P.bel b⟩
theorem Pr.stepA (P : Pr w W col g h N E g' h' N' E') (H : EndOk w (recol col W.heap.size 0) W' 0 g h N2 E2 ∧ Chg w col 0 W W' ∧ Below w.heap.size w W') : Pr w W' (recol col W.heap.size 0) g h N2 E2 g' h' N' E' := ⟨H.1, P.c.other H.2.1 (by omega), H.2.2⟩
theorem Pr.stepC (P : Pr w W col g h N E g' h' N' E') (H : EndOk w (recol col W.heap.size 1) W' 1 g' h' N2 E2 ∧ Chg w col 1 W W' ∧ Below w.heap.size w W') : Pr w W' (recol col W.heap.size 1) g h N E g' h' N2 E2 := ⟨P.a.other H.2.1 (by omega), H.1, H.2.2⟩
theorem Pr.other (P : Pr w W col g h N E g' h' N' E') (C : Chg w col c W W') (hc : 2 ≤ c) : Pr w W' (recol col W.heap.size c) g h N E g' h' N' E' := ⟨P.a.other C (by omega), P.c.other C (by omega), C.bel P.bel⟩
end
set_option maxRecDepth 100000 in
set_option maxHeartbeats 16000000 in
theorem linkWindow_bad (win : Int) (key : Nat) (many ack : Int) (w : World) (hb : win < 1 ∨ 16 < win) :
    Calls Try.prog 8 #[.int .i64 win, .int .u64 (key : Int), .int .i64 many, .int .i64 ack] w fun e W' => e = .returned (.bool true) ∧ Below w.heap.size w W' := by
  by_cases h1 : win < 1
  · have d1 : decide (win < 1) = true := decide_eq_true h1
    go_enter Try.func8, Try.ntmps8
    go_wp2_with fail
    refine (new_bad win key w hb).mono ?_
    rintro - w1 ⟨rfl, b1⟩
    go_wp2_with fail
    refine (lives_any w1).mono ?_
    rintro - w2 ⟨rfl, b2⟩
    go_wp2_with fail
    go_ret
    exact ⟨rfl, below_next b1 b2⟩
  · have h2 : (16 : Int) < win := by omega
    have d1 : decide (win < 1) = false := decide_eq_false h1
    have d2 : decide ((16 : Int) < win) = true := decide_eq_true h2
    go_enter Try.func8, Try.ntmps8
    go_wp2_with fail
    refine (new_bad win key w hb).mono ?_
    rintro - w1 ⟨rfl, b1⟩
    go_wp2_with fail
    refine (lives_any w1).mono ?_
    rintro - w2 ⟨rfl, b2⟩
    go_wp2_with fail
    go_ret
    exact ⟨rfl, below_next b1 b2⟩
set_option maxRecDepth 100000 in
set_option maxHeartbeats 16000000 in
theorem linkWindow_good (W0 key : Nat) (many ack : Int) (w : World) (h1 : 1 ≤ W0) (h16 : W0 ≤ 16) (hkey : key < 18446744073709551616) (hm : I64 many) (ha : I64 ack) :
    Calls Try.prog 8 #[.int .i64 (W0 : Int), .int .u64 (key : Int), .int .i64 many, .int .i64 ack] w fun e W' => e = .returned (.bool true) ∧ Below w.heap.size w W' := by
  have n1 : ¬ (W0 : Int) < 1 := by omega
  have n2 : ¬ (16 : Int) < (W0 : Int) := by omega
  have d1 : decide ((W0 : Int) < 1) = false := decide_eq_false n1
  have d2 : decide ((16 : Int) < (W0 : Int)) = false := decide_eq_false n2
  go_enter Try.func8, Try.ntmps8
  go_wp2_with fail
  refine (new_any (W0 : Int) key w (by omega) (by omega)).mono ?_
  rintro - w1 ⟨g, h, rfl, H1, lg, lh, b1⟩
  rw [Int.toNat_natCast] at H1
  have HH := Lib.hid H1
  clear H1
  go_wp2_with fail
  refine (around_any many 40 w1 hm.1 hm.2 (by omega) (by omega)).mono ?_
  rintro - w2 ⟨rfl, rfl⟩
  obtain ⟨p1, p2⟩ := around_lt many 40 (by omega)
  obtain ⟨n, hn⟩ := Int.eq_ofNat_of_zero_le p1
  rw [hn] at p2 ⊢
  clear hn p1
  go_wp2_with fail
  have hW : Wn w (w2.alloc (.cells #[.int .u8 0] 5)) g h w2.heap.size (En W0 key 0) 0 := by
    obtain ⟨vs, hv⟩ := HH.out.vs
    have hb : Below w2.heap.size w2 (w2.alloc (.cells #[.int .u8 0] 5)) := (Below.refl _ w2).alloc (Nat.le_refl _) _
    have hl := hv.at_.lt
    refine ⟨below_next b1 hb, ⟨none, vs, hv.bel hb, fun u hu => ?_, fun j hj => ?_⟩, Blk.new _ _ _, b1.size, fun s => rfl⟩
    · obtain ⟨A, n', c, D, r1, r2, r3, r4, r5, r6, r7⟩ := hv
      have : vs = [] := List.eq_nil_of_length_eq_zero r5.1
      subst this
      cases hu
    · simp at hj
      rcases hj with rfl | rfl <;> assumption
  generalize w2.alloc (.cells #[.int .u8 0] 5) = w3 at *
  generalize w2.heap.size = B0 at *
  have HW := Lib.hid hW
  clear hW HH lg lh b1
  go_loopw [13] (fun iv wr => ∃ (i : Nat) (x : Int), i ≤ n ∧ iv = .int .i64 (i : Int) ∧ Hid (Wn w wr g h B0 (En W0 key i) x)) (fun iv _ => n - (intOf iv).toNat)
  case atStart => exact ⟨0, _, by omega, rfl, HW⟩
  case round =>
    clear HW
    obtain ⟨i, x, hi, rfl, HW⟩ := hrel
    by_cases hil : i < n
    · have hii : (i : Int) < (n : Int) := by omega
      have hb8 : IntKind.u8.wrap (i : Int) = (i : Int) := by rw [IntKind.wrap_u8]; omega
      have c0 : wr.cell? ⟨B0, 0, none⟩ = some (.int .u8 x) := HW.out.blk.at_ rfl
      have f0 := HW.out.blk.frozen 0
      have HP := Lib.hid (HW.out.poke (i : Int))
      go_wp2_with fail
      refine (HP.out.send (by omega) (by show (msgs i).length < 1000; rw [msgs_len]; omega)).mono ?_
      rintro - w5 ⟨rfl, H5⟩
      have h5 := H5.out
      rw [show ({ En W0 key i with wait := (En W0 key i).wait ++ [[byt i]] } : EndV) = En W0 key (i + 1) by unfold En; rw [msgs_succ]] at h5
      have HW5 := Lib.hid h5
      clear h5 H5 c0 f0
      go_wp2_with fail
      exact ⟨⟨i + 1, _, by omega, by go_num, HW5⟩, by simp [intOf]; omega⟩
    · obtain rfl : n = i := by omega
      have hii : ¬ (n : Int) < (n : Int) := by omega
      have c0 : wr.cell? ⟨B0, 0, none⟩ = some (.int .u8 x) := HW.out.blk.at_ rfl
      have f0 := HW.out.blk.frozen 0
      have HP := Lib.hid (HW.out.poke 99)
      go_wp2_with fail
      have hW := HP.out
      generalize wr.setCell ⟨B0, 0, none⟩ (.int .u8 99) = wA at *
      obtain ⟨q, vs, hV, -, hlow⟩ := hW.e
      have hbA := hW.bel
      have hold : ∀ b, wA.heap.size ≤ b → ∀ u ∈ vs, NotB b u := fun b hb u hu ad n' c' e => by
        obtain ⟨A, m, c, D, r1, r2, r3, r4, r5, r6, r7⟩ := hV
        obtain ⟨j, hj⟩ := List.getElem?_of_mem hu
        have hjl : j < (msgs n).length := by have := (List.getElem?_eq_some_iff.1 hj).1; have := r5.1; show j < _; exact this ▸ (by assumption)
        rw [msgs_len] at hjl
        obtain ⟨A2, n2, c2, e2, -, hy⟩ := r5.2 j u [byt j] hj (msgs_get hjl)
        rw [e] at e2
        injection e2 with e3 e4 e5
        have h1 := hy.1
        obtain ⟨ad2, cs, z, e6, hk, -⟩ := hy.2 (by simp at h1; omega)
        rw [← e3] at e6
        injection e6 with e6
        subst e6
        have := (Array.getElem?_eq_some_iff.1 hk).1
        omega
      refine (out_vs g h 0 q (En W0 key n) vs wA hV (Nat.zero_le _) (Nat.zero_le _) hkey h1 h16 (fun l hl => Nat.le_trans (msgs_le n l hl) (by omega)) (by show (msgs n).length ≤ 1000; rw [msgs_len]; omega)).mono ?_
      rintro - w6 ⟨v6, ps, rfl, ho6, hr6, hV6, F6, hall⟩
      have hV6 : EndVs w6 g q h 0 (En W0 key n) vs := hV6
      rw [out_En h1] at hr6 hall
      obtain ⟨L, hL⟩ : ∃ L, L = min n W0 := ⟨_, rfl⟩
      have hpl : ps.length = L := by rw [hr6.1, outTo_length, hL]
      rw [hpl] at ho6
      have hall2 : (∀ (j : Nat) u, ps[j]? = some u → w6.ownsRow wA.heap.size 5 1 u (sealL key (pktB ((j + 1 : Nat) : Int) 0 [byt j])).length (bytesV (sealL key (pktB ((j + 1 : Nat) : Int) 0 [byt j])))) := fun j u hj => by
        have hjl : j < min n W0 := by have := (List.getElem?_eq_some_iff.1 hj).1; omega
        have h3 := hall.2.1 j u ((outTo (En W0 key n) (min n W0))[j]?.getD []) hj (by rw [List.getElem?_eq_getElem (by rw [outTo_length]; exact hjl)]; rfl)
        rw [outTo_En hjl] at h3
        exact h3
      have hpw := hall.2.2
      obtain ⟨A6, d6, rfl, hd6, -, -⟩ := own_slice ho6
      have hb6 : Below w.heap.size w w6 := hbA.trans (F6.belowB hbA.size (fun i hi => by simp at hi; subst hi; exact hlow _ (by simp)))
      have HL := Lib.hid hL
      have HOLD := Lib.hid hold
      have HPW := Lib.hid hpw
      have HPL := Lib.hid hpl
      have HLOW := Lib.hid hlow
      have HV6 := Lib.hid hV6
      have HO6 := Lib.hid ho6
      have HA6 := Lib.hid hall2
      have HB6 := Lib.hid hb6
      have HZ := Lib.hid (And.intro hbA.size F6.size)
      clear hL hold hpw hpl hlow hV6 ho6 hall hall2 hb6 hV hr6 F6 hbA hW HP HW c0 f0
      go_wp2_with fail
      go_loopw [15] (fun iv wr => ∃ (i : Nat), i ≤ L ∧ iv = .int .i64 (i : Int) ∧ Hid (EndVs wr g q h 0 (En W0 key n) vs) ∧ Hid (wr.ownsRow wA.heap.size 33 1 (.slice A6 L d6) L ps) ∧
          Hid (∀ (j : Nat) u, i ≤ j → ps[j]? = some u → wr.ownsRow wA.heap.size 5 1 u (sealL key (pktB ((j + 1 : Nat) : Int) 0 [byt j])).length (bytesV (sealL key (pktB ((j + 1 : Nat) : Int) 0 [byt j])))) ∧ Hid (Below w.heap.size w wr)) (fun iv _ => L - (intOf iv).toNat)
      case atStart => exact ⟨0, by omega, rfl, HV6, HO6, Lib.hid fun j u _ hj => HA6.out j u hj, HB6⟩
      case round =>
        clear HV6 HO6 HA6 HB6
        obtain ⟨i, hi, rfl, HV, HO, HA, HB⟩ := hrel
        by_cases hil : i < L
        · have hii : (i : Int) < (L : Int) := by omega
          have hii0 : (0 : Int) ≤ (i : Int) := by omega
          have hL40 : L ≤ 40 := by have := HL.out; omega
          obtain ⟨u, hu⟩ : ∃ u, ps[i]? = some u := ⟨_, List.getElem?_eq_getElem (by have := HPL.out; omega)⟩
          have hown := HA.out i u (Nat.le_refl i) hu
          obtain ⟨pb, pc, cs, rfl, hpb, hpk, hpc, -, hcs⟩ := own_open hown (by rw [sealL_length]; omega)
          have hper := per_of (Reads.of_own hown)
          have h8 : 8 ≤ (sealL key (pktB ((i + 1 : Nat) : Int) 0 [byt i])).length := by rw [sealL_length]; omega
          obtain ⟨np, hnp⟩ : ∃ np, np = (sealL key (pktB ((i + 1 : Nat) : Int) 0 [byt i])).length := ⟨_, rfl⟩
          rw [← hnp] at hper h8 hpc hu hown
          have ec : ((i + 1 : Nat) : Int) = (i : Int) + 1 := by omega
          rw [ec] at hper
          have hI1 : I64 ((i : Int) + 1) := by unfold I64; omega
          have hw1 : IntKind.i64.wrap ((i : Int) + 1) = (i : Int) + 1 := by rw [IntKind.wrap_i64]; omega
          have hb8 : IntKind.u8.wrap (i : Int) = (i : Int) := by rw [IntKind.wrap_u8]; omega
          have hi256 : i < 256 := by omega
          obtain ⟨rb, cap, hv, -⟩ := HO.out.form (by omega)
          injection hv with hv1 hv2 hv3
          subst hv1
          have hS : ∀ W, Ok wr W → W.cell? ⟨rb, i, none⟩ = some (.slice (some ⟨pb, 0, none⟩) np pc) := fun W hW => by
            have h2 := (own_ok HO.out hW).cells (g := rb) rfl i _ hu
            rw [addr_add0] at h2
            exact h2
          obtain ⟨y0, hy0⟩ : ∃ y0, cs[0]? = some y0 := by
            have h9 : 0 < (bytesV (sealL key (pktB ((i + 1 : Nat) : Int) 0 [byt i]))).length := by rw [bytesV_length, ← hnp]; omega
            exact ⟨_, hcs 0 _ (List.getElem?_eq_getElem h9)⟩
          have HS := Lib.hid hS
          have HPER := Lib.hid hper
          have HI1 := Lib.hid hI1
          have HNP := Lib.hid hnp
          have HU := Lib.hid hu
          have HPB := Lib.hid (And.intro hpb hpk)
          have HY := Lib.hid hy0
          have hnp0 : (0 : Int) < (np : Int) := by omega
          have okw := Ok.refl wr
          have S0 := HS.out wr okw
          have S1 := HS.out wr.drew okw.drew
          clear hS hper hI1 hnp hu hpb hpk hy0 hcs hown hv2 hv3 ec
          go_wp2_with fail
          go_region_held3 (fun W => W.cell? ⟨rb, i, none⟩ = some (.slice (some ⟨pb, 0, none⟩) np pc))
            (first | (refine HS.out _ ?_; (repeat (first | with_reducible assumption | with_reducible exact Ok.refl _ | with_reducible apply Ok.drew | with_reducible apply Ok.alloc | with_reducible apply Ok.drewN)); done))
            (first
              | (go_at_call 18; (refine (rPkt_w _ HI1.out ?_ hi256).mono ?_); (focus ((repeat (first | with_reducible assumption | with_reducible exact Blk.new _ _ _ | (with_reducible refine Blk.new' rfl) | (with_reducible refine Blk.new' ?_; simp; done) | with_reducible apply Blk.alloc | with_reducible apply Blk.drew | (with_reducible apply Blk.thru; rotate_left; with_reducible assumption))); done)); (rintro E7 w7 ⟨A7, N7, c7, rfl, HP7, HN7, hb7⟩); (have ok7 : Ok wr w7 := Ok.step (by (repeat (first | with_reducible assumption | with_reducible exact Ok.refl _ | with_reducible apply Ok.drew | with_reducible apply Ok.alloc | with_reducible apply Ok.drewN))) hb7); (have ok77 := Ok.refl w7))
              | (go_at_call 17; (refine (rSeal_w HP7 HN7 ?_ hkey).mono ?_); (focus ((repeat (first | with_reducible assumption | with_reducible exact Ok.refl _ | with_reducible apply Ok.drew | with_reducible apply Ok.alloc | with_reducible apply Ok.drewN)); done)); (rintro E8 w8 ⟨A8, N8, c8, rfl, HP8, HN8, hb8'⟩); (have ok8 : Ok wr w8 := Ok.step (by (repeat (first | with_reducible assumption | with_reducible exact Ok.refl _ | with_reducible apply Ok.drew | with_reducible apply Ok.alloc | with_reducible apply Ok.drewN))) hb8'); (have ok88 := Ok.refl w8))
              | (go_at_call 29; (refine (same_w HPER HP8 ?_ ?_ HN8).mono ?_); (focus ((repeat (first | with_reducible assumption | with_reducible exact Ok.refl _ | with_reducible apply Ok.drew | with_reducible apply Ok.alloc | with_reducible apply Ok.drewN)); done)); (focus ((repeat (first | with_reducible assumption | with_reducible exact Ok.refl _ | with_reducible apply Ok.drew | with_reducible apply Ok.alloc | with_reducible apply Ok.drewN)); done)); (rintro E9 w9 ⟨rfl, hb9⟩); (have ok9 : Ok wr w9 := Ok.step (by (repeat (first | with_reducible assumption | with_reducible exact Ok.refl _ | with_reducible apply Ok.drew | with_reducible apply Ok.alloc | with_reducible apply Ok.drewN))) hb9)))
          all_goals
            have t9 := HS.out w9 ok9
            have k9 := HPB.out.2.ok ok9
            have y9 : w9.cell? ⟨pb, 0, none⟩ = some y0 := k9.at_ HY.out
            have f9 := k9.frozen 0
            go_wp2_with fail
            have Fp := (Fr.refl [pb] w9).setCell (p := ⟨pb, 0, none⟩) (.inl (by simp)) (.int .u8 77)
            have hzA := HZ.out
            refine ⟨⟨i + 1, by omega, by go_num, Lib.hid ((HV.out.bel ok9).poke (fun s => rfl) (HOLD.out pb HPB.out.1) k9 0 _), Lib.hid (own_fr (own_ok HO.out ok9) Fp (fun j e hm => ?_)), Lib.hid (fun j u hj hju => own_fr (own_ok (HA.out j u (by omega) hju) ok9) Fp (fun b e hm => ?_)), Lib.hid ((below_next HB.out ok9).setCell (p := ⟨pb, 0, none⟩) (by have := HPB.out.1; show w.heap.size ≤ pb; omega) _)⟩, by simp [intOf]; omega⟩
            · have hne := own_ne_blk (own_ok HO.out ok9) k9 (by decide)
              simp at hm
              subst hm
              exact hne e.symm
            · have hjl := (List.getElem?_eq_some_iff.1 hju).1
              have hil2 := (List.getElem?_eq_some_iff.1 HU.out).1
              have hp := List.pairwise_iff_getElem.1 HPW.out i j hil2 hjl (by omega) pb (by rw [(List.getElem?_eq_some_iff.1 HU.out).2]; rfl)
              rw [(List.getElem?_eq_some_iff.1 hju).2] at hp
              simp at hm
              subst hm
              exact hp e
        · obtain rfl : L = i := by omega
          have hii : ¬ (L : Int) < (L : Int) := by omega
          go_wp2_with fail
          have hA0 : EndOk w (fun _ => 0) wr 0 g h 0 (En W0 key n) := ⟨q, HV.out.at_, fun i hi => ⟨rfl, HLOW.out i hi⟩⟩
          have hwn : (En W0 key n).wait.length = n := msgs_len n
          have hLe := HL.out
          refine (copy_ok 1 hA0 HB.out (by omega) (by omega)).mono ?_
          rintro - w7 ⟨g', h', rfl, H7⟩
          have hP7 : Pr w w7 (recol (fun _ => 0) wr.heap.size 1) g h 0 (En W0 key n) g' h' 0 (En W0 key n) := ⟨hA0.other (Chg.of_ok H7.out.2 1) (by omega), H7.out.1, below_next HB.out H7.out.2⟩
          generalize recol (fun _ => 0) wr.heap.size 1 = col7 at *
          have hmin : ∀ ts t W, (Builtin.min_ ts t #[.int .i64 (n : Int), .int .i64 (W0 : Int)]).run Try.prog W = .ok (.int .i64 (L : Int)) W := fun ts t W => by
            rw [run_min_int2, hLe]
            congr 2
            split <;> omega
          have hn1 : IntKind.i64.wrap ((n : Int) + 1) = (n : Int) + 1 := by rw [IntKind.wrap_i64]; omega
          have HP7 := Lib.hid hP7
          have HWN := Lib.hid hwn
          clear hP7 hA0 H7 HV HO HA HB hwn hLe HOLD HPW HPL HLOW HZ
          go_wp2_with fail
          refine (around_any ack ((n : Int) + 1) w7 ha.1 ha.2 (by omega) (by omega)).mono ?_
          rintro - w8 ⟨rfl, rfl⟩
          obtain ⟨p3, p4⟩ := around_lt ack ((n : Int) + 1) (by omega)
          obtain ⟨k, hk⟩ := Int.eq_ofNat_of_zero_le p3
          rw [hk] at p4 ⊢
          clear hk p3
          have hkn : k ≤ n := by omega
          go_wp2_with fail
          have r9 := rAck_w (W := w8) (n + 1) (by omega)
          rw [show ((n + 1 : Nat) : Int) = (n : Int) + 1 by omega] at r9
          refine r9.mono ?_
          rintro - w9 ⟨A9, N9, c9, rfl, HP9, HN9, b9⟩
          clear r9
          go_wp2_with fail
          refine (rSeal_a HP9 HN9 hkey).mono ?_
          rintro - w10 ⟨A10, N10, c10, rfl, HS10, b10⟩
          have P10 := (HP7.out.ok b9).ok b10
          go_wp2_with fail
          have hF1 : inF (En W0 key n) (sealL key (pktB 0 ((n : Int) + 1) [])) = ([], 0, En W0 key n) := by
            have := in_far (E := En W0 key n) (key := key) (k := n + 1) rfl (by rw [HWN.out]; show 0 + n < n + 1; omega) (by omega)
            rw [show ((n + 1 : Nat) : Int) = (n : Int) + 1 by omega] at this
            exact this
          refine (in_ok P10.a P10.bel hF1 (HS10.out.1 _ (Ok.refl _)) (by have := HS10.out.2.1; omega) HS10.out.2.2 hkey (Nat.zero_le _) (Nat.zero_le _) (Nat.zero_le _) (by rw [HWN.out]; omega) (by omega) (fun k l hk => by cases hk)).mono ?_
          rintro - w11 ⟨A11, d11, rfl, H11⟩
          have HP11 := Lib.hid (P10.stepA H11.out)
          generalize recol col7 w10.heap.size 0 = col11 at *
          clear P10 H11 HS10 HP9 HN9 b9 b10 hF1 HP7
          go_wp2_with fail
          refine (rAck_w k (by omega)).mono ?_
          rintro - w12 ⟨A12, N12, c12, rfl, HP12, HN12, b12⟩
          go_wp2_with fail
          refine (rSeal_a HP12 HN12 hkey).mono ?_
          rintro - w13 ⟨A13, N13, c13, rfl, HS13, b13⟩
          have P13 := (HP11.out.ok b12).ok b13
          go_wp2_with fail
          obtain ⟨E3, hF3, e1, e2, e3, e4, e5, e6, e7⟩ := in_ack (win := W0) (key := key) hkn (by omega)
          refine (in_ok P13.a P13.bel hF3 (HS13.out.1 _ (Ok.refl _)) (by have := HS13.out.2.1; omega) HS13.out.2.2 hkey (Nat.zero_le _) (Nat.zero_le _) (Nat.zero_le _) (by rw [HWN.out]; omega) (by omega) (fun k l hk => by cases hk)).mono ?_
          rintro - w14 ⟨A14, d14, rfl, H14⟩
          have HP14 := Lib.hid (P13.stepA H14.out)
          generalize recol col11 w13.heap.size 0 = col14 at *
          have HE3 := Lib.hid (And.intro e1 (And.intro e2 (And.intro e3 (And.intro e4 (And.intro e5 (And.intro e6 e7))))))
          clear P13 H14 HS13 HP12 HN12 b12 b13 hF3 HP11 e1 e2 e3 e4 e5 e6 e7
          go_wp2_with fail
          obtain ⟨f1, f2, f3, f4, f5, f6, f7⟩ := HE3.out
          refine (out_ok HP14.out.a HP14.out.bel (by rw [f3]; exact hkey) (by rw [f5]; omega) (by rw [f6]; omega) (by rw [f2]; exact h1) (by rw [f2]; exact h16) (fun l hl => by have := f7 l hl; omega) (by rw [f1]; omega)).mono ?_
          rintro - w15 ⟨A15, d15, rfl, H15, -⟩
          have hq : (outF E3).length = min (n - k) W0 := by
            unfold outF
            rw [if_neg (fun h => by rw [f4] at h; cases h.2), outTo_length]
            unfold outN
            rw [f1, f2]
          obtain ⟨Lq, hLq⟩ : ∃ Lq, Lq = (outF E3).length := ⟨_, rfl⟩
          rw [← hLq] at hq ⊢
          have HP15 := Lib.hid (HP14.out.stepA H15.out)
          generalize recol col14 w14.heap.size 0 = col15 at *
          have HLQ := Lib.hid hq
          clear hLq hq H15 HP14 f1 f2 f3 f4 f5 f6 f7
          go_wp2_with fail
          refine (out_ok HP15.out.c HP15.out.bel hkey (Nat.zero_le _) (Nat.zero_le _) h1 h16 (fun l hl => Nat.le_trans (msgs_le n l hl) (by omega)) (by rw [HWN.out]; omega)).mono ?_
          rintro - w16 ⟨A16, d16, rfl, H16, HR16⟩
          have hr16 := HR16.out
          have hFl : (outF (En W0 key n)).length = L := by rw [out_En h1, outTo_length]; exact HL.out.symm
          rw [hFl] at hr16 ⊢
          rw [out_En h1] at hr16
          have HP16 := Lib.hid (HP15.out.stepC H16.out)
          have HR := Lib.hid hr16
          have HFL := Lib.hid hFl
          generalize recol col15 w15.heap.size 1 = col16 at *
          clear hr16 H16 HP15 HR16 hFl
          go_wp2_with fail
          go_loopw [24] (fun iv wr => ∃ (i : Nat), i ≤ L ∧ iv = .int .i64 (i : Int) ∧ Ok w16 wr) (fun iv _ => L - (intOf iv).toNat)
          case atStart => exact ⟨0, by omega, rfl, Ok.refl _⟩
          case round =>
            obtain ⟨i, hi, rfl, hok⟩ := hrel
            by_cases hil : i < L
            · have hii : (i : Int) < (L : Int) := by omega
              have hii0 : (0 : Int) ≤ (i : Int) := by omega
              have hL40 : L ≤ 40 := by have := HL.out; omega
              have hiL : i < min n W0 := by have := HL.out; omega
              obtain ⟨rb, rd, hv, -, Ap, np, cp, Mi⟩ := HR.out.get (j := i) (by rw [outTo_length]; exact hiL)
              injection hv with hv1 hv2 hv3
              subst hv1
              rw [outTo_En hiL] at Mi
              have hper : Per w16 Ap np (sealL key (pktB ((i + 1 : Nat) : Int) 0 [byt i])) := fun W hW => (Mi.ok hW).byt.reads
              have ec : ((i + 1 : Nat) : Int) = (i : Int) + 1 := by omega
              rw [ec] at hper
              have hI1 : I64 ((i : Int) + 1) := by unfold I64; omega
              have hw1 : IntKind.i64.wrap ((i : Int) + 1) = (i : Int) + 1 := by rw [IntKind.wrap_i64]; omega
              have hb8 : IntKind.u8.wrap (i : Int) = (i : Int) := by rw [IntKind.wrap_u8]; omega
              have hi256 : i < 256 := by omega
              have hS : ∀ W, Ok w16 W → W.cell? ⟨rb, i, none⟩ = some (.slice Ap np cp) := fun W hW => (Mi.ok hW).cell
              have HS := Lib.hid hS
              have HPER := Lib.hid hper
              have HI1 := Lib.hid hI1
              have S0 := HS.out wr hok
              have S1 := HS.out wr.drew hok.drew
              clear hS hper hI1 hv2 hv3 ec Mi
              go_wp2_with fail
              go_region_held3 (fun W => W.cell? ⟨rb, i, none⟩ = some (.slice Ap np cp))
                (first | (refine HS.out _ ?_; (repeat (first | with_reducible assumption | with_reducible exact Ok.refl _ | with_reducible apply Ok.drew | with_reducible apply Ok.alloc | with_reducible apply Ok.drewN)); done))
                (first
                  | (go_at_call 18; (refine (rPkt_w _ HI1.out ?_ hi256).mono ?_); (focus ((repeat (first | with_reducible assumption | with_reducible exact Blk.new _ _ _ | (with_reducible refine Blk.new' rfl) | (with_reducible refine Blk.new' ?_; simp; done) | with_reducible apply Blk.alloc | with_reducible apply Blk.drew | (with_reducible apply Blk.thru; rotate_left; with_reducible assumption))); done)); (rintro E7 w7' ⟨A7, N7, c7, rfl, HP7, HN7, hb7⟩); (have ok7 : Ok w16 w7' := Ok.step (by (repeat (first | with_reducible assumption | with_reducible exact Ok.refl _ | with_reducible apply Ok.drew | with_reducible apply Ok.alloc | with_reducible apply Ok.drewN))) hb7); (have ok77 := Ok.refl w7'))
                  | (go_at_call 17; (refine (rSeal_w HP7 HN7 ?_ hkey).mono ?_); (focus ((repeat (first | with_reducible assumption | with_reducible exact Ok.refl _ | with_reducible apply Ok.drew | with_reducible apply Ok.alloc | with_reducible apply Ok.drewN)); done)); (rintro E8 w8' ⟨A8, N8, c8, rfl, HP8, HN8, hb8'⟩); (have ok8 : Ok w16 w8' := Ok.step (by (repeat (first | with_reducible assumption | with_reducible exact Ok.refl _ | with_reducible apply Ok.drew | with_reducible apply Ok.alloc | with_reducible apply Ok.drewN))) hb8'); (have ok88 := Ok.refl w8'))
                  | (go_at_call 29; (refine (same_w HPER HP8 ?_ ?_ HN8).mono ?_); (focus ((repeat (first | with_reducible assumption | with_reducible exact Ok.refl _ | with_reducible apply Ok.drew | with_reducible apply Ok.alloc | with_reducible apply Ok.drewN)); done)); (focus ((repeat (first | with_reducible assumption | with_reducible exact Ok.refl _ | with_reducible apply Ok.drew | with_reducible apply Ok.alloc | with_reducible apply Ok.drewN)); done)); (rintro E9 w9' ⟨rfl, hb9⟩); (have ok9 : Ok w16 w9' := Ok.step (by (repeat (first | with_reducible assumption | with_reducible exact Ok.refl _ | with_reducible apply Ok.drew | with_reducible apply Ok.alloc | with_reducible apply Ok.drewN))) hb9)))
              all_goals
                go_wp2_with fail
                exact ⟨⟨i + 1, by omega, by go_num, ok9⟩, by simp [intOf]; omega⟩
            · obtain rfl : L = i := by omega
              have hii : ¬ (L : Int) < (L : Int) := by omega
              have hP := HP16.out.ok hok
              have hR := HR.out.ok hok
              have hfin : ∀ (W : World) (colz : Nat → Nat), Pr w W colz g h 2 { E3 with owe := false } g' h' 0 { En W0 key n with owe := false } →
                  Calls Try.prog 21 #[.pointer (some ⟨g, 0, none⟩)] W (fun e W' => e = .returned (.int .i64 ((n : Int) - (k : Int))) ∧ W' = W) ∧ Calls Try.prog 21 #[.pointer (some ⟨g', 0, none⟩)] W (fun e W' => e = .returned (.int .i64 (n : Int)) ∧ W' = W) ∧
                  (∀ A c W2, Ok W W2 → Calls Try.prog 11 #[.pointer (some ⟨g, 0, none⟩), .slice A 65537 c] W2 fun e W' => e = .returned (.int .i64 4) ∧ W' = W2) := fun W colz P => by
                obtain ⟨qa, HEa, -⟩ := P.a
                obtain ⟨qc, HEc, -⟩ := P.c
                refine ⟨?_, ?_, fun A c W2 hW2 => send_long _ _ _ _ _ A 65537 c W2 (HEa.bel hW2) (by omega)⟩
                · have h3 := waiting_any _ _ _ _ _ _ HEa
                  have h4 : (({ E3 with owe := false } : EndV).wait.length : Int) = (n : Int) - (k : Int) := by show (E3.wait.length : Int) = _; rw [HE3.out.1]; omega
                  rw [h4] at h3
                  exact h3
                · have h3 := waiting_any _ _ _ _ _ _ HEc
                  have h4 : (({ En W0 key n with owe := false } : EndV).wait.length : Int) = (n : Int) := by show ((msgs n).length : Int) = _; rw [msgs_len]
                  rw [h4] at h3
                  exact h3
              have hmin2 : ∀ ts t W, (Builtin.min_ ts t #[.int .i64 ((n : Int) - (k : Int)), .int .i64 (W0 : Int)]).run Try.prog W = .ok (.int .i64 (Lq : Int)) W := fun ts t W => by
                rw [run_min_int2, HLQ.out]
                congr 2
                split <;> omega
              have hnk : IntKind.i64.wrap ((n : Int) - (k : Int)) = (n : Int) - (k : Int) := by rw [IntKind.wrap_i64]; omega
              have HFIN := Lib.hid hfin
              have HP := Lib.hid hP
              have HR2 := Lib.hid hR
              clear hfin hP hR
              have hmk0 : ∃ MC, ∀ W, (Instr.makeSlice 33 (.int .i64 65537) (.int .i64 65537)).run Try.prog W = .ok (.slice (some ⟨W.heap.size, 0, none⟩) 65537 65537) (W.alloc (.cells MC 5)) := ⟨_, fun W => run_make_row' (P := Try.prog) 33 5 (.int .u8 0) 1 Try.underlying33 info_u8 rfl .i64 .i64 65537 (by omega) (by omega) W⟩
              obtain ⟨MC, hmkW⟩ := hmk0
              have HMK := Lib.hid hmkW
              clear hmkW
              by_cases hL1 : 1 < L
              · have hL1i : (1 : Int) < (L : Int) := by omega
                have hL0i : (0 : Int) < (L : Int) := by omega
                go_wp2_with fail
                refine (new_ok (col := col16) 2 key HP.out.bel).mono ?_
                rintro - w20 ⟨g2, h2, rfl, H20⟩
                have P20 := Lib.hid (HP.out.other (Chg.of_ok H20.out.2 2) (Nat.le_refl 2))
                have R20 := Lib.hid (HR2.out.other (Chg.of_ok H20.out.2 2) (by omega : (1 : Nat) ≠ 2))
                have D20 := Lib.hid H20.out.1
                generalize recol col16 wr.heap.size 2 = col20 at *
                obtain ⟨E1, E2, xx, hF1, hF2, hx2, q1, q2, q3, q4, q5, q6, q7⟩ := in_two (key := key)
                have HQ := Lib.hid (And.intro hF1 (And.intro hF2 (And.intro hx2 (And.intro q1 (And.intro q2 (And.intro q4 (And.intro q5 (And.intro q6 q7))))))))
                clear hF1 hF2 hx2 q1 q2 q3 q4 q5 q6 q7 H20
                have hjn : ∀ j, j < 2 → j < min n W0 := fun j hj => by have := HL.out; omega
                have HJN := Lib.hid hjn
                clear hjn
                obtain ⟨rb, rd, hv, -, Ap, np, cp, M1⟩ := R20.out.get (j := 1) (by rw [outTo_length]; exact HJN.out 1 (by omega))
                injection hv with hv1 hv2 hv3
                subst hv1
                rw [outTo_En (HJN.out 1 (by omega))] at M1
                have HM1 := Lib.hid M1
                have m1 := M1.cell
                have hnp1 : np ≤ 1000 := by
                  have h3 := M1.byt.1
                  have h4 := pktB_le ((1 + 1 : Nat) : Int) 0 [byt 1] (by unfold I64; omega) (by unfold I64; omega) (by simp)
                  rw [sealL_length] at h3
                  rw [List.length_singleton] at h4
                  omega
                clear M1 hv2 hv3
                go_wp2_with fail
                refine (in_ok D20.out P20.out.bel HQ.out.1 HM1.out.byt.reads (by omega) HM1.out.le hkey (Nat.zero_le _) (Nat.zero_le _) (Nat.zero_le _) (Nat.zero_le _) (by omega) (fun k l hk => by cases hk)).mono ?_
                rintro - w21 ⟨A21, d21, rfl, H21⟩
                have P21 := Lib.hid (P20.out.other H21.out.2.1 (Nat.le_refl 2))
                have R21 := Lib.hid (R20.out.other H21.out.2.1 (by omega))
                have D21 := Lib.hid H21.out.1
                generalize recol col20 w20.heap.size 2 = col21 at *
                clear H21 P20 R20 D20 HM1 m1 hnp1
                go_wp2_with fail
                refine (copy_ok 3 D21.out P21.out.bel (by rw [HQ.out.2.2.2.1]; simp) (by omega)).mono ?_
                rintro - w22 ⟨g3, h3, rfl, H22⟩
                have P22 := Lib.hid (P21.out.other (Chg.of_ok H22.out.2 3) (by omega))
                have R22 := Lib.hid (R21.out.other (Chg.of_ok H22.out.2 3) (by omega))
                have D22 := Lib.hid (D21.out.other (Chg.of_ok H22.out.2 3) (by omega))
                have O22 := Lib.hid H22.out.1
                generalize recol col21 w21.heap.size 3 = col22 at *
                clear H22 P21 R21 D21
                obtain ⟨rb2, rd2, hv, -, Aq, nq0, cq, M0⟩ := R22.out.get (j := 0) (by rw [outTo_length]; exact HJN.out 0 (by omega))
                injection hv with hv1 hv2 hv3
                injection hv1 with hv1
                injection hv1 with hv1
                subst hv1
                rw [outTo_En (HJN.out 0 (by omega))] at M0
                have HM0 := Lib.hid M0
                have m0 := M0.cell
                have hnp0 : nq0 ≤ 1000 := by
                  have h3 := M0.byt.1
                  have h4 := pktB_le ((0 + 1 : Nat) : Int) 0 [byt 0] (by unfold I64; omega) (by unfold I64; omega) (by simp)
                  rw [sealL_length] at h3
                  rw [List.length_singleton] at h4
                  omega
                clear M0 hv2 hv3
                go_wp2_with fail
                obtain ⟨-, hF2, hx2, q1, q2, q4, q5, q6, q7⟩ := HQ.out
                refine (in_ok D22.out P22.out.bel hF2 HM0.out.byt.reads (by omega) HM0.out.le (by rw [q2]; exact hkey) (by rw [q4]; omega) (by rw [q5]; omega) (by rw [q6]; omega) (by rw [q1]; simp) (by omega) (fun k l hk => by have := q7 k l hk; rw [q5]; omega)).mono ?_
                rintro - w23 ⟨A23, d23, rfl, H23⟩
                rw [hx2]
                have P23 := Lib.hid (P22.out.other H23.out.2.1 (Nat.le_refl 2))
                have R23 := Lib.hid (R22.out.other H23.out.2.1 (by omega))
                have O23 := Lib.hid (O22.out.other H23.out.2.1 (by omega))
                generalize recol col22 w22.heap.size 2 = col23 at *
                clear H23 P22 R22 D22 O22 HM0 m0 hnp0 hF2 hx2 q1 q2 q4 q5 q6 q7
                obtain ⟨rb3, rd3, hv, -, Ar, nr0, cr, M0⟩ := R23.out.get (j := 0) (by rw [outTo_length]; exact HJN.out 0 (by omega))
                injection hv with hv1 hv2 hv3
                injection hv1 with hv1
                injection hv1 with hv1
                subst hv1
                rw [outTo_En (HJN.out 0 (by omega))] at M0
                have HM0 := Lib.hid M0
                have m0 := M0.cell
                have hnp0 : nr0 ≤ 1000 := by
                  have h3 := M0.byt.1
                  have h4 := pktB_le ((0 + 1 : Nat) : Int) 0 [byt 0] (by unfold I64; omega) (by unfold I64; omega) (by simp)
                  rw [sealL_length] at h3
                  rw [List.length_singleton] at h4
                  omega
                clear M0 hv2 hv3
                go_wp2_with fail
                obtain ⟨-, hF2, hx2, q1, q2, q4, q5, q6, q7⟩ := HQ.out
                refine (in_ok O23.out P23.out.bel hF2 HM0.out.byt.reads (by omega) HM0.out.le (by rw [q2]; exact hkey) (by rw [q4]; omega) (by rw [q5]; omega) (by rw [q6]; omega) (by rw [q1]; simp) (by omega) (fun k l hk => by have := q7 k l hk; rw [q5]; omega)).mono ?_
                rintro - w24 ⟨A24, d24, rfl, H24⟩
                rw [hx2]
                have HPZ := Lib.hid (P23.out.other H24.out.2.1 (by omega))
                clear H24 P23 R23 O23 HM0 m0 hnp0 hF2 hx2 q1 q2 q4 q5 q6 q7 HP HR2
                go_wp2_with fail
                obtain ⟨t1, t2, t3⟩ := HFIN.out w24 _ HPZ.out
                have HT3 := Lib.hid t3
                refine t1.mono ?_
                rintro - w40 ⟨rfl, rfl⟩
                clear t1 t3
                go_wp2_with fail
                refine t2.mono ?_
                rintro - w41 ⟨rfl, rfl⟩
                clear t2
                have hmk := HMK.out w41
                go_wp2_with fail
                refine (HT3.out _ _ _ (Ok.alloc (Ok.refl _) _)).mono ?_
                rintro - w42 ⟨rfl, rfl⟩
                go_wp2_with fail
                refine (lives_any _).mono ?_
                rintro - w43 ⟨rfl, b43⟩
                go_wp2_with fail
                go_ret
                exact ⟨rfl, below_next HPZ.out.bel (Ok.step (Ok.alloc (Ok.refl _) _) b43)⟩
              · have hL1i : ¬ (1 : Int) < (L : Int) := by omega
                have HPZ := HP
                go_wp2_with fail
                obtain ⟨t1, t2, t3⟩ := HFIN.out wr _ HPZ.out
                have HT3 := Lib.hid t3
                refine t1.mono ?_
                rintro - w40 ⟨rfl, rfl⟩
                clear t1 t3
                go_wp2_with fail
                refine t2.mono ?_
                rintro - w41 ⟨rfl, rfl⟩
                clear t2
                have hmk := HMK.out w41
                go_wp2_with fail
                refine (HT3.out _ _ _ (Ok.alloc (Ok.refl _) _)).mono ?_
                rintro - w42 ⟨rfl, rfl⟩
                go_wp2_with fail
                refine (lives_any _).mono ?_
                rintro - w43 ⟨rfl, b43⟩
                go_wp2_with fail
                go_ret
                exact ⟨rfl, below_next HPZ.out.bel (Ok.step (Ok.alloc (Ok.refl _) _) b43)⟩
theorem linkWindow_any (win kz many ack : Int) (w : World) (hw : I64 win) (hk : (Lit.int .u64 kz).wf = true) (hm : I64 many) (ha : I64 ack) :
    Calls Try.prog 8 #[.int .i64 win, .int .u64 kz, .int .i64 many, .int .i64 ack] w fun e W' => e = .returned (.bool true) ∧ Below w.heap.size w W' := by
  have bk := bounds_u64 hk
  obtain ⟨key, rfl⟩ := Int.eq_ofNat_of_zero_le bk.1
  by_cases hb : win < 1 ∨ 16 < win
  · exact linkWindow_bad win key many ack w hb
  · obtain ⟨W0, rfl⟩ := Int.eq_ofNat_of_zero_le (show 0 ≤ win by omega)
    exact linkWindow_good W0 key many ack w (by omega) (by omega) (by omega) hm ha
end Go.Proofs.Ytbekkndkdfmijaa
