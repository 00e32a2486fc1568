/- An end of a link: Out. Conditions: the numbers are small, the messages are short. -/
import Derived.Test.YtbekkndkdfmijaaKj
import Derived.Test.YtbekkndkdfmijaaHr
set_option linter.unusedSimpArgs false
set_option linter.unusedVariables false
namespace Go.Proofs.Ytbekkndkdfmijaa
open Go.RowKit

/-- the sealed packets of the first j waiting messages -/
def outTo (E : EndV) (j : Nat) : List (List UInt8) := (List.range j).map fun (i : Nat) => sealL E.key (pktB ((E.ack : Int) + (i : Int) + 1) (E.got : Int) (E.wait[i]?.getD []))
theorem outTo_succ (E : EndV) (j : Nat) : outTo E (j + 1) = outTo E j ++ [sealL E.key (pktB ((E.ack : Int) + (j : Int) + 1) (E.got : Int) (E.wait[j]?.getD []))] := by simp [outTo, List.range_succ]
theorem outTo_length (E : EndV) (j : Nat) : (outTo E j).length = j := by simp [outTo]
/-- how many messages are sent -/
def outN (E : EndV) : Nat := min E.wait.length E.win
/-- what Out returns -/
def outF (E : EndV) : List (List UInt8) := if outN E = 0 ∧ E.owe = true then [sealL E.key (pktB 0 (E.got : Int) [])] else outTo E (outN E)
theorem own_ok {w W : World} {base size n : Nat} {e : TypeId} {v : Value} {xs : List Value} (h : w.ownsRow base e size v n xs) (k : Ok w W) : W.ownsRow base e size v n xs := own_fr h (Fr.of_below k []) (by simp)
theorem msg_at {w : World} {b d : Nat} {m : Nat} {vs : List Value} {ls : List (List UInt8)} (ho : w.ownsRow 0 33 1 (.slice (some ⟨b, 0, none⟩) m d) m vs) (hr : Rws w vs ls) (hm : m = ls.length) {j : Nat} (hj : j < m) :
    ∃ X y z, w.cell? ⟨b, j, none⟩ = some (.slice X y z) ∧ y ≤ z ∧ Byt w X y (ls[j]?.getD []) := by
  obtain ⟨X, y, z, l, h1, h2, h3, h4⟩ := hr.at_ (i := j) (by omega)
  have := ho.cells (g := b) rfl j _ h1
  rw [addr_add0] at this
  exact ⟨X, y, z, this, h3, by rw [h2]; exact h4⟩
theorem end_set6 {w : World} {g h N : Nat} {q : Option Nat} {E : EndV} (H : EndAt w g q h N E) (b : Bool) : EndAt (w.setCell ⟨g, 6, none⟩ (.bool b)) g q h N { E with owe := b } := by
  have hap := end_apart H
  obtain ⟨A, n, c, vs, D, h1, h2, h3, h4, h5, h6, h7⟩ := H
  have u := U8.set h1 (by decide) 6 (.bool b)
  exact ⟨A, n, c, vs, D, h1.set_ 6 (.bool b), h2, own_fr h3 ((Fr.refl [g] w).setCell (p := ⟨g, 6, none⟩) (.inl (by simp)) _) (fun i e hm => by rw [h4] at e; simp at hm; exact (hap.2 i e).1 hm), h4, h5.u8 u, h6.setCell (a := ⟨g, 6, none⟩) hap.1 _, h7.u8 u⟩
theorem wPkt_p (s a : Int) (A : Option Addr) (n c : Nat) (b : List UInt8) (w : World) (hs : I64 s) (ha : I64 a) (hl : Reads w w.heap.size 1 A n (bytesV b)) (hn : n ≤ 100000) :
    Calls Try.prog 33 #[.agg #[.int .i64 s, .int .i64 a, .slice A n c]] w fun e W' => ∃ A1 n1 c1, e = .returned (.slice A1 n1 c1) ∧ Hid (Reads W' W'.heap.size 1 A1 n1 (bytesV (pktB s a b))) ∧ Hid (n1 ≤ 1000000) ∧ Below w.heap.size w W' := by
  have el := hl.byte_len
  have hle := pktB_le s a b hs ha (by omega)
  refine (wPkt_any s a A n c b w hs ha hl hn).mono ?_
  rintro e W' ⟨v, rfl, ho, hb⟩
  obtain ⟨A1, c1, rfl, hr⟩ := own_reads1 ho
  exact ⟨A1, _, c1, rfl, Lib.hid hr, Lib.hid (by omega), hb⟩
theorem wSeal_p (key : Nat) (A : Option Addr) (n c : Nat) (l : List UInt8) (w : World) (hk : key < 18446744073709551616) (hl : Reads w w.heap.size 1 A n (bytesV l)) (hn : n ≤ 1000000) :
    Calls Try.prog 24 #[.int .u64 (key : Int), .slice A n c] w fun e W' => ∃ A1 n1 c1, e = .returned (.slice A1 n1 c1) ∧ Hid (Sl W' (.slice A1 n1 c1) (sealL key l)) ∧ Below w.heap.size w W' := by
  refine (wSeal_any key A n c l w hk hl hn).mono ?_
  rintro e W' ⟨v, rfl, ho, hb⟩
  have hs := Sl.of_own ho
  obtain ⟨A1, c1, rfl, -, -, -⟩ := own_slice ho
  exact ⟨A1, _, c1, rfl, Lib.hid hs, hb⟩
set_option maxRecDepth 100000 in
set_option maxHeartbeats 16000000 in
theorem out_any (g h N : Nat) (q : Option Nat) (E : EndV) (w : World) (H : EndAt w g q h N E) (hack : E.ack ≤ 1000000) (hgot : E.got ≤ 1000000) (hkey : E.key < 18446744073709551616) (hw0 : 1 ≤ E.win) (hw : E.win ≤ 16) (hmsg : ∀ l ∈ E.wait, l.length ≤ 1000) (hwl : E.wait.length ≤ 1000) :
    Calls Try.prog 13 #[.pointer (some ⟨g, 0, none⟩)] w fun e W' => ∃ v vs, e = .returned v ∧ W'.ownsRow w.heap.size 33 1 v vs.length vs ∧ Rws W' vs (outF E) ∧ EndAt W' g q h N { E with owe := false } ∧ Fr [g] w W' := by
  obtain ⟨i0, hi, hz0, hz1, hz2⟩ := info_parts info33
  have hap := end_apart H
  have hlt := H.lt
  have H0 := H
  obtain ⟨B, m, d, vs, D, k, hm, ho, hq, hr, hM, hH⟩ := H
  have hmc : m ≤ d := by
    obtain ⟨_, _, e, hc, -, -⟩ := own_slice ho
    injection e with _ _ e
    omega
  have c0 : w.cell? ⟨g, 0, none⟩ = some (.int .i64 (E.win : Int)) := k.at_ rfl
  have c2 : w.cell? ⟨g, 2, none⟩ = some (.slice B m d) := k.at_ rfl
  obtain ⟨M, hM0⟩ : ∃ M, M = outN E := ⟨_, rfl⟩
  have k00 := k
  have hgl := hlt g (by simp)
  have hclose : ∀ (wr : World) (v : Value) (n : Nat) (ws : List Value), Ok w wr → wr.ownsRow w.heap.size 33 1 v n ws → Rws wr ws (outF E) → (wr.setCell ⟨g, 6, none⟩ (.bool false)).ownsRow w.heap.size 33 1 v ws.length ws ∧ Rws (wr.setCell ⟨g, 6, none⟩ (.bool false)) ws (outF E) ∧ EndAt (wr.setCell ⟨g, 6, none⟩ (.bool false)) g q h N { E with owe := false } ∧ Fr [g] w (wr.setCell ⟨g, 6, none⟩ (.bool false)) := fun wr v n ws hok ow rw_ => by
    have hl : ws.length = n := by have := ow.1; omega
    rw [hl]
    exact ⟨own_fr ow ((Fr.refl [g] wr).setCell (p := ⟨g, 6, none⟩) (.inl (by simp)) _) (fun i e hm => by have := (ow.lt i e).1; simp at hm; omega), rw_.u8 (U8.set (k00.ok hok) (by decide) 6 _), end_set6 (H0.bel hok) false, (Fr.of_below hok [g]).setCell (p := ⟨g, 6, none⟩) (.inl (by simp)) _⟩
  have HCL := Lib.hid hclose
  clear hclose
  have hM1 : M ≤ m := by rw [hM0, hm]; exact Nat.min_le_left _ _
  have hM2 : M ≤ 16 := by rw [hM0]; unfold outN; omega
  have hmm : (if (E.win : Int) < (m : Int) then (E.win : Int) else (m : Int)) = (M : Int) := by rw [hM0, hm]; unfold outN; split <;> omega
  have hmin := fun ts t W => run_min_int2 (P := Try.prog) (w := W) ts t .i64 .i64 (m : Int) (E.win : Int)
  rw [hmm] at hmin
  have hs1 : (M : Int) ≤ (d : Int) := by omega
  have hs2 : (0 : Int) ≤ (M : Int) := by omega
  have hs3 : M ≤ d := by omega
  have HM0 := Lib.hid hM0
  have HMW := Lib.hid hm
  clear hM0 hmm hm
  go_enter Try.func13, Try.ntmps13
  go_wp2_with fail
  go_quiet (fail)
  go_wp2_with fail
  go_loopw [3, 22] (fun v i wr => ∃ (j : Nat) (ws : List Value), j ≤ M ∧ i = .int .i64 (j : Int) ∧ wr.ownsRow w.heap.size 33 1 v j ws ∧ Rws wr ws (outTo E j) ∧ Ok w wr) (fun _ i _ => M - (intOf i).toNat)
  case atStart => exact ⟨0, [], by omega, rfl, World.ownsRow_nil _ _ _ _, Rws.nil_ _, (Ok.refl w).drewN nq⟩
  case round =>
    obtain ⟨j, ws, hj, rfl, ow, rw_, hok⟩ := hrel
    obtain ⟨A3, c3, rfl, -, -, -⟩ := own_slice ow
    by_cases hlt2 : j < M
    · have hji : (j : Int) < (M : Int) := by omega
      have hBb : ∃ b, B = some ⟨b, 0, none⟩ := by
        obtain ⟨gb, cb, hv, -⟩ := ho.form (by omega)
        injection hv with hv _ _
        exact ⟨gb, hv⟩
      obtain ⟨b, rfl⟩ := hBb
      have hu := U8.bel hok
      have hmw := HMW.out
      obtain ⟨X, y, z, cx, hyz, hby⟩ := msg_at (own_ok ho hok) (hr.u8 hu) hmw (j := j) (by omega)
      have hl0 : (E.wait[j]?.getD []).length ≤ 1000 := by
        rw [List.getElem?_eq_getElem (by omega)]
        exact hmsg _ (List.getElem_mem _)
      have hy : y ≤ 100000 := by have := hby.1; omega
      have hX := Lib.hid (show Reads wr.drew wr.drew.heap.size 1 X y (bytesV (E.wait[j]?.getD [])) from hby.reads)
      have hsucc := Lib.hid (outTo_succ E j)
      generalize E.wait[j]?.getD [] = l0 at *
      have hI1 : I64 ((E.ack : Int) + (j : Int) + 1) := by unfold I64; omega
      have hI2 : I64 (E.got : Int) := by unfold I64; omega
      have hw1 : IntKind.i64.wrap ((E.ack : Int) + (j : Int)) = (E.ack : Int) + (j : Int) := by rw [IntKind.wrap_i64]; omega
      have hw2 : IntKind.i64.wrap ((E.ack : Int) + (j : Int) + 1) = (E.ack : Int) + (j : Int) + 1 := by rw [IntKind.wrap_i64]; omega
      have k := k.ok hok
      clear hby hmw
      go_wp2_with fail
      have S0 : wr.drew.cell? ⟨g, 1, none⟩ = some (.int .u64 (E.key : Int)) ∧ wr.drew.cell? ⟨g, 3, none⟩ = some (.int .i64 (E.ack : Int)) ∧ wr.drew.cell? ⟨g, 4, none⟩ = some (.int .i64 (E.got : Int)) := ⟨k.at_ rfl, k.at_ rfl, k.at_ rfl⟩
      refine wp_region_but (fun W => W.cell? ⟨g, 1, none⟩ = some (.int .u64 (E.key : Int)) ∧ W.cell? ⟨g, 3, none⟩ = some (.int .i64 (E.ack : Int)) ∧ W.cell? ⟨g, 4, none⟩ = some (.int .i64 (E.got : Int))) [21] (by kernel_rfl) S0 fun hS0 => ?_
      refine wpBut_pure 0 (v := (.slice A3 j c3)) rfl (by kernel_rfl) (fun _ _ _ h => h) ⟨by rfl, fun W => ?_⟩ (fun _ => hS0) ?_
      · go_simp
      simp only [Act.put, List.setIfInBounds_toArray, List.set_cons_zero, List.set_cons_succ]
      refine wpBut_pure 1 (v := (.pointer (some ⟨g, 0, none⟩))) rfl (by kernel_rfl) (fun _ _ _ h => h) ⟨by rfl, fun W => ?_⟩ (fun _ => hS0) ?_
      · go_simp
      simp only [Act.put, List.setIfInBounds_toArray, List.set_cons_zero, List.set_cons_succ]
      refine wpBut_pure 2 (v := (.pointer (some ⟨g, 0, none⟩))) rfl (by kernel_rfl) (fun _ _ _ h => h) ⟨by rfl, fun W => ?_⟩ (fun _ => hS0) ?_
      · go_simp
      simp only [Act.put, List.setIfInBounds_toArray, List.set_cons_zero, List.set_cons_succ]
      refine wpBut_pure 3 (v := (.pointer (some ⟨g, 1, none⟩))) rfl (by kernel_rfl) (fun _ _ _ h => h) ⟨by rfl, fun W => ?_⟩ (fun _ => hS0) ?_
      · go_simp
      simp only [Act.put, List.setIfInBounds_toArray, List.set_cons_zero, List.set_cons_succ]
      refine wpBut_takeF 4 6 (v := (.int .u64 (E.key : Int))) rfl (by kernel_rfl) (fun _ _ _ h => h) ⟨by rfl, fun W hW => ?_⟩ hS0 ?_
      · obtain ⟨s1, s3, s4⟩ := hW
        go_simp
      simp only [Act.put, List.setIfInBounds_toArray, List.set_cons_zero, List.set_cons_succ]
      refine wpBut_pure 5 (v := (.pointer (some ⟨g, 0, none⟩))) rfl (by kernel_rfl) (fun _ _ _ h => h) ⟨by rfl, fun W => ?_⟩ (fun _ => hS0) ?_
      · go_simp
      simp only [Act.put, List.setIfInBounds_toArray, List.set_cons_zero, List.set_cons_succ]
      refine wpBut_pure 6 (v := (.pointer (some ⟨g, 0, none⟩))) rfl (by kernel_rfl) (fun _ _ _ h => h) ⟨by rfl, fun W => ?_⟩ (fun _ => hS0) ?_
      · go_simp
      simp only [Act.put, List.setIfInBounds_toArray, List.set_cons_zero, List.set_cons_succ]
      refine wpBut_pure 7 (v := (.pointer (some ⟨g, 3, none⟩))) rfl (by kernel_rfl) (fun _ _ _ h => h) ⟨by rfl, fun W => ?_⟩ (fun _ => hS0) ?_
      · go_simp
      simp only [Act.put, List.setIfInBounds_toArray, List.set_cons_zero, List.set_cons_succ]
      refine wpBut_takeF 8 6 (v := (.int .i64 (E.ack : Int))) rfl (by kernel_rfl) (fun _ _ _ h => h) ⟨by rfl, fun W hW => ?_⟩ hS0 ?_
      · obtain ⟨s1, s3, s4⟩ := hW
        go_simp
      simp only [Act.put, List.setIfInBounds_toArray, List.set_cons_zero, List.set_cons_succ]
      refine wpBut_pure 9 (v := (.int .i64 (j : Int))) rfl (by kernel_rfl) (fun _ _ _ h => h) ⟨by rfl, fun W => ?_⟩ (fun _ => hS0) ?_
      · go_simp
      simp only [Act.put, List.setIfInBounds_toArray, List.set_cons_zero, List.set_cons_succ]
      refine wpBut_pure 10 (v := (.int .i64 ((E.ack : Int) + (j : Int)))) rfl (by kernel_rfl) (fun _ _ _ h => h) ⟨by rfl, fun W => ?_⟩ (fun _ => hS0) ?_
      · go_simp
      simp only [Act.put, List.setIfInBounds_toArray, List.set_cons_zero, List.set_cons_succ]
      refine wpBut_pure 11 (v := (.int .i64 ((E.ack : Int) + (j : Int) + 1))) rfl (by kernel_rfl) (fun _ _ _ h => h) ⟨by rfl, fun W => ?_⟩ (fun _ => hS0) ?_
      · go_simp
      simp only [Act.put, List.setIfInBounds_toArray, List.set_cons_zero, List.set_cons_succ]
      refine wpBut_pure 12 (v := (.pointer (some ⟨g, 0, none⟩))) rfl (by kernel_rfl) (fun _ _ _ h => h) ⟨by rfl, fun W => ?_⟩ (fun _ => hS0) ?_
      · go_simp
      simp only [Act.put, List.setIfInBounds_toArray, List.set_cons_zero, List.set_cons_succ]
      refine wpBut_pure 13 (v := (.pointer (some ⟨g, 0, none⟩))) rfl (by kernel_rfl) (fun _ _ _ h => h) ⟨by rfl, fun W => ?_⟩ (fun _ => hS0) ?_
      · go_simp
      simp only [Act.put, List.setIfInBounds_toArray, List.set_cons_zero, List.set_cons_succ]
      refine wpBut_pure 14 (v := (.pointer (some ⟨g, 4, none⟩))) rfl (by kernel_rfl) (fun _ _ _ h => h) ⟨by rfl, fun W => ?_⟩ (fun _ => hS0) ?_
      · go_simp
      simp only [Act.put, List.setIfInBounds_toArray, List.set_cons_zero, List.set_cons_succ]
      refine wpBut_takeF 15 6 (v := (.int .i64 (E.got : Int))) rfl (by kernel_rfl) (fun _ _ _ h => h) ⟨by rfl, fun W hW => ?_⟩ hS0 ?_
      · obtain ⟨s1, s3, s4⟩ := hW
        go_simp
      simp only [Act.put, List.setIfInBounds_toArray, List.set_cons_zero, List.set_cons_succ]
      refine wpBut_pure 16 (v := (.slice X y z)) rfl (by kernel_rfl) (fun _ _ _ h => h) ⟨by rfl, fun W => ?_⟩ (fun _ => hS0) ?_
      · go_simp
      simp only [Act.put, List.setIfInBounds_toArray, List.set_cons_zero, List.set_cons_succ]
      refine wpBut_pure 17 (v := (.agg #[.int .i64 ((E.ack : Int) + (j : Int) + 1), .int .i64 (E.got : Int), .slice X y z])) rfl (by kernel_rfl) (fun _ _ _ h => h) ⟨by rfl, fun W => ?_⟩ (fun _ => hS0) ?_
      · go_simp
      simp only [Act.put, List.setIfInBounds_toArray, List.set_cons_zero, List.set_cons_succ]
      refine wpBut_one 18 rfl (by kernel_rfl) fun K hK => ?_
      go_simp
      go_at_call 33
      refine (wPkt_p ((E.ack : Int) + (j : Int) + 1) (E.got : Int) X y z _ wr.drew hI1 hI2 hX.out hy).mono ?_
      rintro E1 w1 ⟨A1, n1, c1, rfl, hr1, hn1, hb1⟩
      have ok1 : Ok wr w1 := Ok.step (Ok.refl wr).drew hb1
      have k1 := k.ok ok1
      go_simp
      refine hK.out _ _ ⟨k1.at_ rfl, k1.at_ rfl, k1.at_ rfl⟩ fun hS1 => ?_
      clear hK K
      refine wpBut_one 19 rfl (by kernel_rfl) fun K hK => ?_
      go_simp
      go_at_call 24
      refine (wSeal_p E.key A1 n1 c1 _ w1 hkey hr1.out hn1.out).mono ?_
      rintro E2 w2 ⟨A2, n2, c2, rfl, hs2, hb2⟩
      have ok2 : Ok wr w2 := Ok.step ok1 hb2
      have k2 := k.ok ok2
      clear hr1 hb1 hb2 k1 ok1
      go_simp
      refine hK.out _ _ ⟨k2.at_ rfl, k2.at_ rfl, k2.at_ rfl⟩ fun hS2 => ?_
      clear hK K hS1
      refine wpBut_one 20 rfl (by kernel_rfl) fun K hK => ?_
      go_simp
      refine hK.out _ _ ⟨(k2.alloc _).at_ rfl, (k2.alloc _).at_ rfl, (k2.alloc _).at_ rfl⟩ fun hS3 => ?_
      clear hK K hS2 hS3
      refine wpBut_seq 21 (g := 1) (by decide) (by decide) (by rfl) (by kernel_rfl) ?_
      simp only [List.drop_succ_cons, List.drop_zero]
      have h1v : ∀ u ∈ [Value.slice A2 n2 c2], u.oneCell' = true := by
        intro u hu
        simp at hu
        subst hu
        rfl
      have hbs : w.heap.size ≤ w2.heap.size := Nat.le_trans (Below.size hok) (Below.size ok2)
      have ow2 := own_ok ow ok2
      have hok2 : Ok w w2 := Below.trans hok (Below.mono ok2 (Below.size hok))
      go_wp2_with (at_builtin; refine wpList_append_own_at _ rfl _ _ 28 rfl w.heap.size 33 i0 (.slice none 0 0) 1 24 Try.underlying28 hi hz0 hz1 hz2 rfl (by decide) _ _ _ rfl (ow2.alloc _) ⟨w2.heap.size, 0, none⟩ 1 1 [.slice A2 n2 c2] rfl rfl (cell_one_new _ _ _) h1v (by unfold maxLen; omega) (by omega) (by simp; omega) ?_; intro v6 w6 o6 hg6 hnil6 hat6)
      obtain ⟨A6, c6, rfl, -, -, -⟩ := own_slice o6
      have hg7 : (w2.alloc (.cells #[.slice A2 n2 c2] 33)).grownBy w6 (Value.slice A3 j c3).ownBlock := hg6
      have u6 : U8 w2 w6 := (U8.alloc w2 _).trans (U8.grown hg7 (own_not_u8 (ow2.alloc _) (by decide)))
      have hok6 : Ok w w6 := (hok2.alloc _).grown hg7 (by simp; omega) (fun i e => (ow.lt i e).1)
      refine ⟨⟨j + 1, ws ++ [.slice A2 n2 c2], by omega, by go_num, o6, ?_, hok6⟩, by simp [intOf]; omega⟩
      rw [hsucc.out]
      exact (rw_.u8 ((U8.bel ok2).trans u6)).snoc (hs2.out.u8 u6)
    · obtain rfl : j = M := by omega
      have hji : ¬ (j : Int) < (j : Int) := by omega
      have k := k.ok hok
      have c6 : wr.cell? ⟨g, 6, none⟩ = some (.bool E.owe) := k.at_ rfl
      have f6 := k.frozen 6
      by_cases hj0 : j = 0
      · subst hj0
        cases howe : E.owe with
        | false =>
          rw [howe] at c6
          have hF : outF E = outTo E 0 := by unfold outF; rw [if_neg (by rw [howe]; simp), ← HM0.out]
          have HF := Lib.hid hF
          clear hF
          go_wp2_with fail
          go_ret
          exact ⟨_, rfl, _, HCL.out wr _ _ ws hok ow (by rw [HF.out]; exact rw_)⟩
        | true =>
          rw [howe] at c6
          have hF : outF E = [sealL E.key (pktB 0 (E.got : Int) [])] := by unfold outF; rw [if_pos ⟨HM0.out.symm, howe⟩]
          have HF := Lib.hid hF
          have hI0 : I64 0 := ⟨by omega, by omega⟩
          have hI2 : I64 (E.got : Int) := by unfold I64; omega
          clear hF
          go_wp2_with fail
          have S0 : wr.drew.cell? ⟨g, 1, none⟩ = some (.int .u64 (E.key : Int)) ∧ wr.drew.cell? ⟨g, 3, none⟩ = some (.int .i64 (E.ack : Int)) ∧ wr.drew.cell? ⟨g, 4, none⟩ = some (.int .i64 (E.got : Int)) := ⟨k.at_ rfl, k.at_ rfl, k.at_ rfl⟩
          refine wp_region_but (fun W => W.cell? ⟨g, 1, none⟩ = some (.int .u64 (E.key : Int)) ∧ W.cell? ⟨g, 3, none⟩ = some (.int .i64 (E.ack : Int)) ∧ W.cell? ⟨g, 4, none⟩ = some (.int .i64 (E.got : Int))) [13] (by kernel_rfl) S0 fun hS0 => ?_
          refine wpBut_pure 0 (v := (.slice A3 0 c3)) rfl (by kernel_rfl) (fun _ _ _ h => h) ⟨by rfl, fun W => ?_⟩ (fun _ => hS0) ?_
          · go_simp
          simp only [Act.put, List.setIfInBounds_toArray, List.set_cons_zero, List.set_cons_succ]
          refine wpBut_pure 1 (v := (.pointer (some ⟨g, 0, none⟩))) rfl (by kernel_rfl) (fun _ _ _ h => h) ⟨by rfl, fun W => ?_⟩ (fun _ => hS0) ?_
          · go_simp
          simp only [Act.put, List.setIfInBounds_toArray, List.set_cons_zero, List.set_cons_succ]
          refine wpBut_pure 2 (v := (.pointer (some ⟨g, 0, none⟩))) rfl (by kernel_rfl) (fun _ _ _ h => h) ⟨by rfl, fun W => ?_⟩ (fun _ => hS0) ?_
          · go_simp
          simp only [Act.put, List.setIfInBounds_toArray, List.set_cons_zero, List.set_cons_succ]
          refine wpBut_pure 3 (v := (.pointer (some ⟨g, 1, none⟩))) rfl (by kernel_rfl) (fun _ _ _ h => h) ⟨by rfl, fun W => ?_⟩ (fun _ => hS0) ?_
          · go_simp
          simp only [Act.put, List.setIfInBounds_toArray, List.set_cons_zero, List.set_cons_succ]
          refine wpBut_takeF 4 6 (v := (.int .u64 (E.key : Int))) rfl (by kernel_rfl) (fun _ _ _ h => h) ⟨by rfl, fun W hW => ?_⟩ hS0 ?_
          · obtain ⟨s1, s3, s4⟩ := hW
            go_simp
          simp only [Act.put, List.setIfInBounds_toArray, List.set_cons_zero, List.set_cons_succ]
          refine wpBut_pure 5 (v := (.pointer (some ⟨g, 0, none⟩))) rfl (by kernel_rfl) (fun _ _ _ h => h) ⟨by rfl, fun W => ?_⟩ (fun _ => hS0) ?_
          · go_simp
          simp only [Act.put, List.setIfInBounds_toArray, List.set_cons_zero, List.set_cons_succ]
          refine wpBut_pure 6 (v := (.pointer (some ⟨g, 0, none⟩))) rfl (by kernel_rfl) (fun _ _ _ h => h) ⟨by rfl, fun W => ?_⟩ (fun _ => hS0) ?_
          · go_simp
          simp only [Act.put, List.setIfInBounds_toArray, List.set_cons_zero, List.set_cons_succ]
          refine wpBut_pure 7 (v := (.pointer (some ⟨g, 4, none⟩))) rfl (by kernel_rfl) (fun _ _ _ h => h) ⟨by rfl, fun W => ?_⟩ (fun _ => hS0) ?_
          · go_simp
          simp only [Act.put, List.setIfInBounds_toArray, List.set_cons_zero, List.set_cons_succ]
          refine wpBut_takeF 8 6 (v := (.int .i64 (E.got : Int))) rfl (by kernel_rfl) (fun _ _ _ h => h) ⟨by rfl, fun W hW => ?_⟩ hS0 ?_
          · obtain ⟨s1, s3, s4⟩ := hW
            go_simp
          simp only [Act.put, List.setIfInBounds_toArray, List.set_cons_zero, List.set_cons_succ]
          refine wpBut_pure 9 (v := (.agg #[.int .i64 0, .int .i64 (E.got : Int), .slice none 0 0])) rfl (by kernel_rfl) (fun _ _ _ h => h) ⟨by rfl, fun W => ?_⟩ (fun _ => hS0) ?_
          · go_simp
          simp only [Act.put, List.setIfInBounds_toArray, List.set_cons_zero, List.set_cons_succ]
          refine wpBut_one 10 rfl (by kernel_rfl) fun K hK => ?_
          go_simp
          go_at_call 33
          refine (wPkt_p 0 (E.got : Int) none 0 0 [] wr.drew hI0 hI2 (Reads.nil_ _ _ _ _) (by omega)).mono ?_
          rintro E1 w1 ⟨A1, n1, c1, rfl, hr1, hn1, hb1⟩
          have ok1 : Ok wr w1 := Ok.step (Ok.refl wr).drew hb1
          have k1 := k.ok ok1
          go_simp
          refine hK.out _ _ ⟨k1.at_ rfl, k1.at_ rfl, k1.at_ rfl⟩ fun hS1 => ?_
          clear hK K
          refine wpBut_one 11 rfl (by kernel_rfl) fun K hK => ?_
          go_simp
          go_at_call 24
          refine (wSeal_p E.key A1 n1 c1 _ w1 hkey hr1.out hn1.out).mono ?_
          rintro E2 w2 ⟨A2, n2, c2, rfl, hs2, hb2⟩
          have ok2 : Ok wr w2 := Ok.step ok1 hb2
          have k2 := k.ok ok2
          clear hr1 hb1 hb2 k1 ok1
          go_simp
          refine hK.out _ _ ⟨k2.at_ rfl, k2.at_ rfl, k2.at_ rfl⟩ fun hS2 => ?_
          clear hK K hS1
          refine wpBut_one 12 rfl (by kernel_rfl) fun K hK => ?_
          go_simp
          refine hK.out _ _ ⟨(k2.alloc _).at_ rfl, (k2.alloc _).at_ rfl, (k2.alloc _).at_ rfl⟩ fun hS3 => ?_
          clear hK K hS2 hS3
          refine wpBut_seq 13 (g := 1) (by decide) (by decide) (by rfl) (by kernel_rfl) ?_
          simp only [List.drop_succ_cons, List.drop_zero]
          have h1v : ∀ u ∈ [Value.slice A2 n2 c2], u.oneCell' = true := by
            intro u hu
            simp at hu
            subst hu
            rfl
          have hbs : w.heap.size ≤ w2.heap.size := Nat.le_trans (Below.size hok) (Below.size ok2)
          have ow2 := own_ok ow ok2
          have hok2 : Ok w w2 := Below.trans hok (Below.mono ok2 (Below.size hok))
          go_wp2_with (at_builtin; refine wpList_append_own_at _ rfl _ _ 28 rfl w.heap.size 33 i0 (.slice none 0 0) 1 24 Try.underlying28 hi hz0 hz1 hz2 rfl (by decide) _ _ _ rfl (ow2.alloc _) ⟨w2.heap.size, 0, none⟩ 1 1 [.slice A2 n2 c2] rfl rfl (cell_one_new _ _ _) h1v (by unfold maxLen; omega) (by omega) (by simp; omega) ?_; intro v6 w6 o6 hg6 hnil6 hat6; have hg7 : (w2.alloc (.cells #[.slice A2 n2 c2] 33)).grownBy w6 (Value.slice A3 0 c3).ownBlock := hg6; have hok6 : Ok w w6 := (hok2.alloc _).grown hg7 (by simp; omega) (fun i e => (ow.lt i e).1); have k6 := k00.ok hok6; have f66 := k6.frozen 6; have c66 : w6.cell? ⟨g, 6, none⟩ = some (.bool true) := k6.at_ (by rw [← howe]; rfl))
          obtain ⟨A6, c6', rfl, -, -, -⟩ := own_slice o6
          have u6 : U8 w2 w6 := (U8.alloc w2 _).trans (U8.grown hg7 (own_not_u8 (ow2.alloc _) (by decide)))
          have hws : ws = [] := List.eq_nil_of_length_eq_zero (by have := ow.1; omega)
          have hr6 : Rws w6 (ws ++ [.slice A2 n2 c2]) (outF E) := by
            rw [hws, HF.out]
            exact (Rws.nil_ w6).snoc (hs2.out.u8 u6)
          go_ret
          first | exact ⟨_, rfl, _, HCL.out w6 _ _ _ hok6 o6 hr6⟩ | exact ⟨_, _, rfl, HCL.out w6 _ _ _ hok6 o6 hr6⟩
      · have hF : outF E = outTo E j := by unfold outF; rw [if_neg (by rw [← HM0.out]; simp [hj0]), ← HM0.out]
        have HF := Lib.hid hF
        have hj1 : ((j : Int) == 0) = false := by simp; omega
        clear hF
        go_wp2_with fail
        go_ret
        exact ⟨_, rfl, _, HCL.out wr _ _ ws hok ow (by rw [HF.out]; exact rw_)⟩
end Go.Proofs.Ytbekkndkdfmijaa
