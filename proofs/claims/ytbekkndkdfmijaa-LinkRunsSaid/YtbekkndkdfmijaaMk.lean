/- The reference's Out (14). Condition: sizes. -/
import Derived.Test.YtbekkndkdfmijaaMm
import Derived.BigQuiet
set_option linter.unusedSimpArgs false
set_option linter.unusedVariables false
namespace Go.Proofs.Ytbekkndkdfmijaa
open Go.RowKit Go

theorem rPkt_o {W0 W : World} {X : Option Addr} {y z : Nat} {m : List UInt8} (s a : Int) (hs : I64 s) (ha : I64 a) (HB : Hid (Byt W0 X y m ∧ y ≤ 100)) (k : Ok W0 W) :
    Calls Try.prog 18 #[.agg #[.int .i64 s, .int .i64 a, .slice X y z]] W fun e W' => ∃ A N c, e = .returned (.slice A N c) ∧ Hid (Per W' A N (pktB s a m)) ∧ Hid (N ≤ 1000) ∧ Below W.heap.size W W' := by
  obtain ⟨hb, hy⟩ := HB.out
  have hm := hb.1
  have hl := pktB_le s a m hs ha (by omega)
  refine (rPkt_any s a X y z m W hs ha (hb.u8 (U8.bel k)).reads (by omega)).mono ?_
  rintro e W' ⟨v, rfl, ho, hbl⟩
  obtain ⟨A, c, rfl, hr⟩ := own_reads1 ho
  exact ⟨A, _, c, rfl, Lib.hid (per_of hr), Lib.hid (by omega), hbl⟩
theorem ok_fin {w W W' : World} (h : Ok w W) (k : Below w.heap.size W W') : Ok w W' := Below.trans h k
theorem rSeal_o {W0 W : World} {A : Option Addr} {N c key : Nat} {l : List UInt8} (HP : Hid (Per W0 A N l)) (HN : Hid (N ≤ 1000)) (k : Ok W0 W) (hk : key < 18446744073709551616) :
    Calls Try.prog 17 #[.int .u64 (key : Int), .slice A N c] W fun e W' => ∃ A' N' c', e = .returned (.slice A' N' c') ∧ Hid (Sl W' (.slice A' N' c') (sealL key l)) ∧ Below W.heap.size W W' := by
  have hn := HN.out
  refine (rSeal_any key A N c l W hk (HP.out W k) (by omega)).mono ?_
  rintro e W' ⟨v, rfl, ho, hb⟩
  have hs := Sl.of_own ho
  obtain ⟨A', c', rfl, -, -, -⟩ := own_slice ho
  exact ⟨A', _, c', rfl, Lib.hid hs, hb⟩
set_option maxRecDepth 100000 in
set_option maxHeartbeats 16000000 in
theorem rOut_any {w : World} {B g key i : Nat} {vS vH : Value} {S : List (List UInt8)} {ss : List Int} {bs : List (List UInt8)} {E : EndV} (H : RefAt w B g vS vH S ss bs E) (I : EndR key E S i) (hi : i ≤ 1000) (hkey0 : key < 18446744073709551616) :
    Calls Try.prog 14 #[.pointer (some ⟨g, 0, none⟩)] w fun e W' => ∃ v vs, e = .returned v ∧ W'.ownsRow w.heap.size 33 1 v vs.length vs ∧ Rws W' vs (outF E) ∧ RefAt W' B g vS vH S ss bs { E with owe := false } ∧ Fr [g] w W' := by
  obtain ⟨vs, ho, hr⟩ := H.sent
  obtain ⟨A0, d, rfl, hd, -, -⟩ := own_slice ho
  obtain ⟨M, hM⟩ : ∃ M, M = outN E := ⟨_, rfl⟩
  have hwl := I.waitLen
  have hack := I.ack
  have hsl := I.slen
  have hgot := I.got
  have hw0 := I.win0
  have hw := I.win
  have hM2 : M = min E.wait.length E.win := hM
  have hkey : E.key < 18446744073709551616 := by rw [I.key]; exact hkey0
  have c0 : w.cell? ⟨g, 0, none⟩ = some (.int .i64 (E.win : Int)) := H.blk.at_ rfl
  have c2 : w.cell? ⟨g, 2, none⟩ = some (.slice A0 S.length d) := H.blk.at_ rfl
  have c3 : w.cell? ⟨g, 3, none⟩ = some (.int .i64 (E.ack : Int)) := H.blk.at_ rfl
  have hgl := H.blk.lt
  have hclose : ∀ (wr : World) (v : Value) (n : Nat) (ws : List Value), Ok w wr → wr.ownsRow w.heap.size 33 1 v n ws → Rws wr ws (outF E) → (wr.setCell ⟨g, 6, none⟩ (.bool false)).ownsRow w.heap.size 33 1 v ws.length ws ∧ Rws (wr.setCell ⟨g, 6, none⟩ (.bool false)) ws (outF E) ∧ RefAt (wr.setCell ⟨g, 6, none⟩ (.bool false)) B g (.slice A0 S.length d) vH S ss bs { E with owe := false } ∧ Fr [g] w (wr.setCell ⟨g, 6, none⟩ (.bool false)) := fun wr v n ws hok ow rw_ => by
    have hl : ws.length = n := by have := ow.1; omega
    rw [hl]
    exact ⟨own_fr ow ((Fr.refl [g] wr).setCell (p := ⟨g, 6, none⟩) (.inl (by simp)) _) (fun i e hm => by have := (ow.lt i e).1; simp at hm; omega), rw_.u8 (U8.set (H.blk.ok hok) (by decide) 6 _), (H.ok hok).set6 false, (Fr.of_below hok [g]).setCell (p := ⟨g, 6, none⟩) (.inl (by simp)) _⟩
  have HCL := Lib.hid hclose
  have HM := Lib.hid hM
  have HO := Lib.hid (And.intro ho hr)
  have HH := Lib.hid H
  have HI0 := Lib.hid I
  have k00 := H.blk
  have hwin : (E.ack : Int) + (E.win : Int) ≤ 2000 := by omega
  have hww : IntKind.i64.wrap ((E.ack : Int) + (E.win : Int)) = (E.ack : Int) + (E.win : Int) := by rw [IntKind.wrap_i64]; omega
  have HML := Lib.hid (show M ≤ E.wait.length ∧ M ≤ 16 from by omega)
  have HM2 := Lib.hid hM2
  clear ho hr hM hM2 H I hclose hwl hgot
  go_enter Try.func14, Try.ntmps14
  go_wp2_with fail
  go_loopw [3, 4] (fun v iv wr => ∃ (L : List (List UInt8)) (ws : List Value) (i : Nat), L.length ≤ M ∧ Hid (i = E.ack + L.length) ∧ iv = .int .i64 (i : Int) ∧ wr.ownsRow w.heap.size 33 1 v L.length ws ∧ Rws wr ws L ∧ Hid (L = outTo E L.length) ∧ Ok w wr) (fun _ iv _ => E.ack + M - (intOf iv).toNat)
  case atStart => exact ⟨[], [], E.ack, by simp, Lib.hid rfl, rfl, World.ownsRow_nil _ _ _ _, Rws.nil_ _, Lib.hid rfl, Ok.refl w⟩
  case round =>
    obtain ⟨L, ws, i, hj, HIJ, rfl, ow, rw_, HL, hok⟩ := hrel
    have hij := HIJ.out
    obtain ⟨A3, c3', rfl, -, -, -⟩ := own_slice ow
    have k := k00.ok hok
    have d2 : wr.cell? ⟨g, 2, none⟩ = some (.slice A0 S.length d) := k.at_ rfl
    have d3 : wr.cell? ⟨g, 3, none⟩ = some (.int .i64 (E.ack : Int)) := k.at_ rfl
    have d0 : wr.cell? ⟨g, 0, none⟩ = some (.int .i64 (E.win : Int)) := k.at_ rfl
    by_cases hlt : L.length < M
    · have hml := HML.out
      have hM2 := HM2.out
      have hwl := HI0.out.waitLen
      have hgot := HI0.out.got
      have q1 : (i : Int) < (S.length : Int) := by omega
      have q2 : (i : Int) < (E.ack : Int) + (E.win : Int) := by omega
      have q3 : (0 : Int) ≤ (i : Int) := by omega
      have hiS : i < S.length := by omega
      obtain ⟨b, cap, hv, -⟩ := HO.out.1.form (by omega)
      injection hv with hv1 hv2 hv3
      subst hv1
      obtain ⟨X, y, z, l, h1, h2, h3, h4⟩ := HO.out.2.at_ (i := i) hiS
      have hcell : w.cell? ⟨b, i, none⟩ = some (.slice X y z) := by
        have := HO.out.1.cells (g := b) rfl i _ h1
        rwa [addr_add0] at this
      have hE : E.wait[L.length]?.getD [] = l := by
        rw [HI0.out.wait, List.getElem?_drop, ← hij, h2]
        rfl
      have hly : y ≤ 100 := by
        have e := h4.1
        have := HI0.out.msgs l (List.mem_of_getElem? h2)
        omega
      have hsucc := outTo_succ E L.length
      rw [hE, ← HL.out, show (E.ack : Int) + (L.length : Int) + 1 = (i : Int) + 1 by omega] at hsucc
      have HSU := Lib.hid hsucc
      have hS : ∀ W, Ok w W → W.cell? ⟨g, 1, none⟩ = some (.int .u64 (E.key : Int)) ∧ W.cell? ⟨g, 4, none⟩ = some (.int .i64 (E.got : Int)) ∧ W.cell? ⟨g, 2, none⟩ = some (.slice (some ⟨b, 0, none⟩) S.length d) ∧ W.cell? ⟨b, i, none⟩ = some (.slice X y z) := fun W hW => ⟨(k00.ok hW).at_ rfl, (k00.ok hW).at_ rfl, (k00.ok hW).at_ rfl, (Below.cell hW (World.block_lt_of_cell? _ _ hcell)).trans hcell⟩
      have HS2 := Lib.hid hS
      have HS : Hid (∀ W, Ok wr W → W.cell? ⟨g, 1, none⟩ = some (.int .u64 (E.key : Int)) ∧ W.cell? ⟨g, 4, none⟩ = some (.int .i64 (E.got : Int)) ∧ W.cell? ⟨g, 2, none⟩ = some (.slice (some ⟨b, 0, none⟩) S.length d) ∧ W.cell? ⟨b, i, none⟩ = some (.slice X y z)) := Lib.hid fun W hW => hS W (Ok.step hok hW)
      have HBY : Hid (Byt wr X y l ∧ y ≤ 100) := Lib.hid ⟨h4.u8 (U8.bel hok), hly⟩
      have HOW : Hid (wr.ownsRow w.heap.size 33 1 (.slice A3 L.length c3') L.length ws ∧ Rws wr ws L) := Lib.hid ⟨ow, rw_⟩
      have HLN : Hid (L.length ≤ 100000) := Lib.hid (by omega)
      have HB : Hid (w.heap.size ≤ wr.heap.size) := Lib.hid (Below.size hok)
      have HI : Hid (I64 ((i : Int) + 1) ∧ I64 (E.got : Int)) := Lib.hid ⟨by unfold I64; omega, by unfold I64; omega⟩
      have hiw : IntKind.i64.wrap ((i : Int) + 1) = (i : Int) + 1 := by rw [IntKind.wrap_i64]; omega
      have okw := Ok.refl wr
      obtain ⟨g1, g4, g2, gc⟩ := hS wr hok
      clear h1 h2 h3 h4 hcell hE hly hsucc hS hv2 hv3 ow rw_ hml hwl hgot k c0 c2 c3 hij hM2
      go_wp2_with fail
      go_quiet (fail)
      have okn : Ok wr (wr.drewN nq) := okw.drewN nq
      have okn2 : Ok w (wr.drewN nq) := hok.drewN nq
      obtain ⟨t1, t4, t2, tc⟩ := HS2.out _ okn2
      go_wp2_with fail
      go_region_held3 (fun W => W.cell? ⟨g, 1, none⟩ = some (.int .u64 (E.key : Int)) ∧ W.cell? ⟨g, 4, none⟩ = some (.int .i64 (E.got : Int)) ∧ W.cell? ⟨g, 2, none⟩ = some (.slice (some ⟨b, 0, none⟩) S.length d) ∧ W.cell? ⟨b, i, none⟩ = some (.slice X y z))
        (first | (refine HS.out _ ?_; (focus ((repeat (first | with_reducible assumption | with_reducible exact Ok.refl _ | with_reducible apply Ok.drew | with_reducible apply Ok.alloc | with_reducible apply Ok.drewN)); done))) | exact HS2.out _ (by assumption))
        (first
          | (go_at_call 18; (refine (rPkt_o ((i : Int) + 1) (E.got : Int) HI.out.1 HI.out.2 HBY ?_).mono ?_); (focus ((repeat (first | with_reducible assumption | with_reducible exact Ok.refl _ | with_reducible apply Ok.drew | with_reducible apply Ok.alloc | with_reducible apply Ok.drewN)); done)); (rintro E7 w7 ⟨A7, N7, c7, rfl, HP7, HN7, hb7⟩); (have ok7 : Ok wr w7 := Ok.step (by ((repeat (first | with_reducible assumption | with_reducible exact Ok.refl _ | with_reducible apply Ok.drew | with_reducible apply Ok.alloc | with_reducible apply Ok.drewN)); done)) hb7); (have ok77 := Ok.refl w7))
          | (go_at_call 17; (refine (rSeal_o HP7 HN7 ?_ hkey).mono ?_); (focus ((repeat (first | with_reducible assumption | with_reducible exact Ok.refl _ | with_reducible apply Ok.drew | with_reducible apply Ok.alloc | with_reducible apply Ok.drewN)); done)); (rintro E8 w8 ⟨A8, N8, c8, rfl, HP8, hb8⟩); (have ok8 : Ok wr w8 := Ok.step (by ((repeat (first | with_reducible assumption | with_reducible exact Ok.refl _ | with_reducible apply Ok.drew | with_reducible apply Ok.alloc | with_reducible apply Ok.drewN)); done)) hb8); (have ok88 := Ok.refl w8))
          | (rw [if_pos (by rfl)]; (refine row_q _ _ HOW HP8 HLN HB rfl rfl rfl ?_ ?_ ?_ ?_); (focus (refine Blk.at_ (i := 0) (cs := #[.slice A8 N8 c8]) (t := 33) ?_ rfl; ((repeat (first | with_reducible assumption | with_reducible exact Blk.new _ _ _ | (with_reducible refine Blk.new' rfl) | (with_reducible refine Blk.new' ?_; simp; done) | with_reducible apply Blk.alloc | with_reducible apply Blk.drew | (with_reducible apply Blk.thru; rotate_left; with_reducible assumption))); done))); (focus ((repeat (first | with_reducible assumption | with_reducible exact Ok.refl _ | with_reducible apply Ok.drew | with_reducible apply Ok.alloc | with_reducible apply Ok.drewN)); done)); (focus ((repeat (first | with_reducible assumption | with_reducible exact Ok.refl _ | with_reducible apply Ok.drew | with_reducible apply Ok.alloc | with_reducible apply Ok.drewN)); done)); (intro A9 d9 w9 HO9 hb9 hu9); (have ok9 : Ok w w9 := ok_fin (Ok.step hok (show Ok wr _ from by ((repeat (first | with_reducible assumption | with_reducible exact Ok.refl _ | with_reducible apply Ok.drew | with_reducible apply Ok.alloc | with_reducible apply Ok.drewN)); done))) hb9)))
      go_wp2_with fail
      have e1 : (L ++ [sealL E.key (pktB ((i : Int) + 1) (E.got : Int) l)]).length = L.length + 1 := by simp
      obtain ⟨ho9, hr9⟩ := HO9.out
      exact ⟨⟨L ++ [sealL E.key (pktB ((i : Int) + 1) (E.got : Int) l)], _, i + 1, by rw [e1]; omega, Lib.hid (by rw [e1]; have := HIJ.out; omega), by go_num, by rw [e1]; exact ho9, hr9, Lib.hid (by rw [e1, HSU.out]), ok9⟩, by have := HIJ.out; simp [intOf]; omega⟩
    · obtain rfl : L.length = M := by omega
      have hml := HML.out
      have hM2 := HM2.out
      have hwl := HI0.out.waitLen
      have hgot := HI0.out.got
      have hMN := HM.out
      have q3 : ¬ ((i : Int) < (S.length : Int) ∧ (i : Int) < (E.ack : Int) + (E.win : Int)) := by
        unfold outN at hMN
        omega
      have c6 : wr.cell? ⟨g, 6, none⟩ = some (.bool E.owe) := k.at_ rfl
      have HFO : Hid (outF E = if L.length = 0 ∧ E.owe = true then [sealL E.key (pktB 0 (E.got : Int) [])] else L) := Lib.hid (by
        have e1 : outN E = L.length := HM.out.symm
        unfold outF
        rw [e1, ← HL.out])
      have fin : True := trivial
      have hgo : Hid (wr.ownsRow w.heap.size 33 1 (.slice A3 L.length c3') L.length ws ∧ Rws wr ws L) := Lib.hid ⟨ow, rw_⟩
      have F1 : ∀ q, Hid ((wr.drewN q).ownsRow w.heap.size 33 1 (.slice A3 L.length c3') L.length ws ∧ Rws (wr.drewN q) ws L ∧ Ok w (wr.drewN q) ∧ Blk (wr.drewN q) g 31 (refV E (.slice A0 S.length d) vH)) := fun q => Lib.hid ⟨own_ok ow ((Ok.refl wr).drewN q), rw_.u8 (U8.bel ((Ok.refl wr).drewN q)), hok.drewN q, k.ok ((Ok.refl wr).drewN q)⟩
      clear ow rw_ k00 hgo k
      have hcase : (¬ (i : Int) < (S.length : Int)) ∨ ((i : Int) < (S.length : Int) ∧ ¬ (i : Int) < (E.ack : Int) + (E.win : Int)) := by omega
      clear hij q3 hMN hM2 hml hwl
      have hcase2 : (decide (i < S.length) = false ∧ ¬ (i : Int) < (S.length : Int)) ∨ ((i : Int) < (S.length : Int) ∧ decide ((i : Int) < (E.ack : Int) + (E.win : Int)) = false) := by
        rcases hcase with q1 | ⟨q1, q2⟩
        · exact .inl ⟨decide_eq_false (by omega), q1⟩
        · exact .inr ⟨q1, decide_eq_false q2⟩
      clear hcase
      rcases hcase2 with ⟨q1, q2⟩ | ⟨q1, q2⟩
      all_goals
        go_wp2_with fail
        go_quiet (fail)
        obtain ⟨f1, f2, f3, f4⟩ := (F1 nq).out
        clear F1
        generalize wr.drewN nq = w5 at *
        have g6 : w5.cell? ⟨g, 6, none⟩ = some (.bool E.owe) := f4.at_ rfl
        have z6 := f4.frozen 6
        have g1 : w5.cell? ⟨g, 1, none⟩ = some (.int .u64 (E.key : Int)) := f4.at_ rfl
        have g4 : w5.cell? ⟨g, 4, none⟩ = some (.int .i64 (E.got : Int)) := f4.at_ rfl
        have HFF := Lib.hid (And.intro f1 (And.intro f2 f3))
        clear f1 f2
        by_cases hj0 : L.length = 0
        · cases howe : E.owe with
          | false =>
            rw [howe] at g6
            have HF := Lib.hid (HFO.out.trans (if_neg (by rw [howe]; simp)))
            go_wp2_with fail
            go_ret
            exact ⟨_, _, rfl, HCL.out w5 _ _ ws HFF.out.2.2 HFF.out.1 (by rw [HF.out]; exact HFF.out.2.1)⟩
          | true =>
            rw [howe] at g6
            have HF := Lib.hid (HFO.out.trans (if_pos ⟨hj0, howe⟩))
            have hI : I64 0 ∧ I64 (E.got : Int) := ⟨by unfold I64; omega, by have := HI0.out.got; unfold I64; omega⟩
            have HI := Lib.hid hI
            have hS : ∀ W, Ok w W → W.cell? ⟨g, 1, none⟩ = some (.int .u64 (E.key : Int)) ∧ W.cell? ⟨g, 4, none⟩ = some (.int .i64 (E.got : Int)) := fun W hW => ⟨(HH.out.blk.ok hW).at_ rfl, (HH.out.blk.ok hW).at_ rfl⟩
            have HS2 := Lib.hid hS
            have hok5 := HFF.out.2.2
            have HS : Hid (∀ W, Ok w5 W → W.cell? ⟨g, 1, none⟩ = some (.int .u64 (E.key : Int)) ∧ W.cell? ⟨g, 4, none⟩ = some (.int .i64 (E.got : Int))) := Lib.hid fun W hW => hS W (Ok.step hok5 hW)
            have HBY : Hid (Byt w5 none 0 [] ∧ 0 ≤ 100) := Lib.hid ⟨Byt.nil_ _ _, by omega⟩
            have HOW : Hid (w5.ownsRow w.heap.size 33 1 (.slice A3 L.length c3') L.length ws ∧ Rws w5 ws L) := Lib.hid ⟨HFF.out.1, HFF.out.2.1⟩
            have HLN : Hid (L.length ≤ 100000) := Lib.hid (by omega)
            have HB : Hid (w.heap.size ≤ w5.heap.size) := Lib.hid (Below.size hok5)
            have okw := Ok.refl w5
            have HL0 := Lib.hid hj0
            have hj00 : ((L.length : Int) == 0) = true := by rw [beq_iff_eq]; omega
            clear hI hS hj0
            go_upto_region 7 with fail
            obtain ⟨t1, t4⟩ := HS2.out _ hok5
            go_region_held3 (fun W => W.cell? ⟨g, 1, none⟩ = some (.int .u64 (E.key : Int)) ∧ W.cell? ⟨g, 4, none⟩ = some (.int .i64 (E.got : Int)))
              (first | (refine HS.out _ ?_; (focus ((repeat (first | with_reducible assumption | with_reducible exact Ok.refl _ | with_reducible apply Ok.drew | with_reducible apply Ok.alloc | with_reducible apply Ok.drewN)); done))) | exact HS2.out _ (by assumption))
              (first
                | (go_at_call 18; (refine (rPkt_o 0 (E.got : Int) HI.out.1 HI.out.2 HBY ?_).mono ?_); (focus ((repeat (first | with_reducible assumption | with_reducible exact Ok.refl _ | with_reducible apply Ok.drew | with_reducible apply Ok.alloc | with_reducible apply Ok.drewN)); done)); (rintro E7 w7 ⟨A7, N7, c7, rfl, HP7, HN7, hb7⟩); (have ok7 : Ok w5 w7 := Ok.step (by ((repeat (first | with_reducible assumption | with_reducible exact Ok.refl _ | with_reducible apply Ok.drew | with_reducible apply Ok.alloc | with_reducible apply Ok.drewN)); done)) hb7); (have ok77 := Ok.refl w7))
                | (go_at_call 17; (refine (rSeal_o HP7 HN7 ?_ hkey).mono ?_); (focus ((repeat (first | with_reducible assumption | with_reducible exact Ok.refl _ | with_reducible apply Ok.drew | with_reducible apply Ok.alloc | with_reducible apply Ok.drewN)); done)); (rintro E8 w8 ⟨A8, N8, c8, rfl, HP8, hb8⟩); (have ok8 : Ok w5 w8 := Ok.step (by ((repeat (first | with_reducible assumption | with_reducible exact Ok.refl _ | with_reducible apply Ok.drew | with_reducible apply Ok.alloc | with_reducible apply Ok.drewN)); done)) hb8); (have ok88 := Ok.refl w8))
                | (rw [if_pos (by rfl)]; (refine row_q _ _ HOW HP8 HLN HB rfl rfl rfl ?_ ?_ ?_ ?_); (focus (refine Blk.at_ (i := 0) (cs := #[.slice A8 N8 c8]) (t := 33) ?_ rfl; ((repeat (first | with_reducible assumption | with_reducible exact Blk.new _ _ _ | (with_reducible refine Blk.new' rfl) | (with_reducible refine Blk.new' ?_; simp; done) | with_reducible apply Blk.alloc | with_reducible apply Blk.drew | (with_reducible apply Blk.thru; rotate_left; with_reducible assumption))); done))); (focus ((repeat (first | with_reducible assumption | with_reducible exact Ok.refl _ | with_reducible apply Ok.drew | with_reducible apply Ok.alloc | with_reducible apply Ok.drewN)); done)); (focus ((repeat (first | with_reducible assumption | with_reducible exact Ok.refl _ | with_reducible apply Ok.drew | with_reducible apply Ok.alloc | with_reducible apply Ok.drewN)); done)); (intro A9 d9 w9 HO9 hb9 hu9); (have ok9 : Ok w w9 := ok_fin (Ok.step hok5 (show Ok w5 _ from by ((repeat (first | with_reducible assumption | with_reducible exact Ok.refl _ | with_reducible apply Ok.drew | with_reducible apply Ok.alloc | with_reducible apply Ok.drewN)); done))) hb9)))
            obtain ⟨ho9, hr9⟩ := HO9.out
            have k9 := HH.out.blk.ok ok9
            have z9 := k9.frozen 6
            have g9 : w9.cell? ⟨g, 6, none⟩ = some (.bool E.owe) := k9.at_ rfl
            have hL : L = [] := List.eq_nil_of_length_eq_zero HL0.out
            have hr10 : Rws w9 (ws ++ [.slice A8 N8 c8]) (outF E) := by
              rw [HF.out]
              rw [hL] at hr9
              exact hr9
            have HR10 := Lib.hid (And.intro ho9 hr10)
            clear ho9 hr9 hr10 hL
            go_wp2_with fail
            go_ret
            exact ⟨_, _, rfl, HCL.out w9 _ _ _ ok9 HR10.out.1 HR10.out.2⟩
        · have HF := Lib.hid (HFO.out.trans (if_neg (fun h => hj0 h.1)))
          have hj1 : ((L.length : Int) == 0) = false := by rw [beq_eq_false_iff_ne]; omega
          go_wp2_with fail
          go_ret
          exact ⟨_, _, rfl, HCL.out w5 _ _ ws HFF.out.2.2 HFF.out.1 (by rw [HF.out]; exact HFF.out.2.1)⟩
end Go.Proofs.Ytbekkndkdfmijaa
