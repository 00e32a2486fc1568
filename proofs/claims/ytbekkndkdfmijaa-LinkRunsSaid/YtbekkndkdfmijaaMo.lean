/- The reference's Read of a packet (39). Condition: the bytes are at most a hundred thousand. -/
import Derived.Test.YtbekkndkdfmijaaMk
set_option linter.unusedSimpArgs false
set_option linter.unusedVariables false
namespace Go.Proofs.Ytbekkndkdfmijaa
open Go.RowKit Go

theorem info43 : (Try.prog.info? 43).map (·.size) = some 3 := by kernel_rfl
theorem info43z : (Try.prog.info? 43).map (·.size) = some (#[.int .i64 0, .int .i64 0, .slice none 0 0] : Array Value).size := info43
theorem one43z : (#[.int .i64 0, .int .i64 0, .slice none 0 0] : Array Value).all (·.oneCell') = true := one68z
/-- what reading a packet gives; its bytes lie in a block of bytes -/
def RdQ (l : List UInt8) (w : World) (e : Ending) (W' : World) : Prop :=
  (∃ (s a : Int) (A : Option Addr) (n c : Nat) (b : List UInt8), e = .returned (.tuple #[.agg #[.int .i64 s, .int .i64 a, .slice A n c], .bool (readP l).isSome]) ∧ (∀ p, readP l = some p → p = (s, a, b)) ∧ Hid (Byt W' A n b) ∧ n ≤ c ∧ I64 s ∧ I64 a ∧ b.length ≤ 100000) ∧ Below w.heap.size w W'
theorem rdQ_none {l : List UInt8} {w W' : World} {e : Ending} {s a : Int} (h : readP l = none) (he : e = .returned (.tuple #[.agg #[.int .i64 0, .int .i64 0, .slice none 0 0], .bool false])) (hb : Below w.heap.size w W') : RdQ l w e W' := by
  refine ⟨⟨0, 0, none, 0, 0, [], by rw [he, h]; rfl, fun p hp => (by rw [h] at hp; cases hp), Lib.hid (Byt.nil_ _ _), Nat.le_refl _, ⟨by omega, by omega⟩, ⟨by omega, by omega⟩, by simp⟩, hb⟩
theorem conv_byt (W0 : World) (bb : List UInt8) (cap : Nat) (z : Nat × Nat) (g : Nat) (hg : g = W0.heap.size) : Byt (W0.alloc (.cells (bytesRow ⟨bb.toArray⟩ cap) 5 z)) (some ⟨g, 0, none⟩) bb.length bb := by
  subst hg
  refine ⟨rfl, fun _ => ⟨_, _, z, rfl, heap_alloc_new W0 _, fun j u hu => ?_⟩⟩
  have := conv_cells W0 ⟨bb.toArray⟩ cap 5 z j u (by simpa using hu)
  exact this
theorem byt_row {w : World} {gc g n : Nat} {l : List UInt8} (h : Byt w (some ⟨gc, 0, none⟩) n l) (hg : g < gc) (cs : Array Value) : Byt (w.setRow g cs) (some ⟨gc, 0, none⟩) n l := by
  refine ⟨h.1, fun hn => ?_⟩
  obtain ⟨ad, cs', z, e, hb, hc⟩ := h.2 hn
  cases e
  refine ⟨_, cs', z, rfl, (setRow_other w g gc cs (by omega)).trans hb, fun j u hu => ?_⟩
  have := hc j u hu
  rw [addr_add0] at this ⊢
  exact (World.cell?_of_block (w := w) (setRow_other w g gc cs (by omega))).trans this
set_option maxRecDepth 100000 in
set_option maxHeartbeats 16000000 in
theorem rRead_any (A : Option Addr) (n c : Nat) (l : List UInt8) (w : World) (hl : Reads w w.heap.size 1 A n (bytesV l)) (hn : n ≤ 100000) (hnc : n ≤ c) :
    Calls Try.prog 39 #[.slice A n c] w (RdQ l w) := by
  have el := hl.byte_len
  have b0 : Below w.heap.size w (w.alloc (.cells #[.int .i64 0, .int .i64 0, .slice none 0 0] 43)) := (Below.refl _ w).alloc (Nat.le_refl _) _
  have k0 := Blk.new w 43 #[.int .i64 0, .int .i64 0, .slice none 0 0]
  have hG := rGetInts_any A n c l _ ((hl.below b0).more b0.size) hn hnc
  have HG := Lib.hid hG
  clear hG
  have hdef : readP l = (match decL decI l with
    | .error _ => none
    | .ok (xs, n) => match xs with
      | [s, a] => match decB (l.drop n) with
        | .error _ => none
        | .ok (b, m) => if n + m = l.length ∧ pktOk s a b = true then some (s, a, b) else none
      | _ => none) := rfl
  go_enter Try.func39, Try.ntmps39
  go_wp2_with fail
  refine HG.out.mono ?_
  generalize w.alloc (.cells #[.int .i64 0, .int .i64 0, .slice none 0 0] 43) = w1 at *
  rintro E w2 ⟨⟨v, z, q, r, rfl, ho, hvl, hD, hz⟩, hb⟩
  have b2 := below_next b0 hb
  have k2 := k0.below hb k0.lt
  have h2 : w2.heap[w.heap.size]? = some (.cells #[.int .i64 0, .int .i64 0, .slice none 0 0] 43 (0, 0)) := k2
  by_cases hq : (q : Int) = 0
  · obtain rfl : q = 0 := by omega
    rw [if_pos rfl] at hD
    rw [hD] at hdef
    dsimp only at hdef
    obtain ⟨-, hzl⟩ := ints_canon hD
    have hI := decL_i64 hD
    by_cases hr2 : r.length = 2
    · obtain ⟨s, a, rfl⟩ := two_of hr2
      dsimp only at hdef
      have hsI : I64 s := hI s (by simp)
      have haI : I64 a := hI a (by simp)
      obtain ⟨gx, cx, rfl, -, hgx⟩ := ho.form (by simp)
      have hx := ho.cells (g := gx) rfl
      have kx0 : w2.cell? ⟨gx, 0, none⟩ = some (.int .i64 s) := by have := hx 0 (.int .i64 s) rfl; rwa [addr_add0] at this
      have kx1 : w2.cell? ⟨gx, 1, none⟩ = some (.int .i64 a) := by have := hx 1 (.int .i64 a) rfl; rwa [addr_add0] at this
      clear hx ho hI hvl hz
      have hA : ∃ ad, A = some ad := by
        have : 0 < n := by
          rcases Nat.eq_zero_or_pos n with h0 | h0
          · have : l = [] := List.eq_nil_of_length_eq_zero (by omega)
            subst this
            have hn : decL decI [] = .error 3 := rfl
            rw [hn] at hD
            cases hD
          · exact h0
        obtain ⟨ad, h, -⟩ := hl.byte_at (k := 0) this
        exact ⟨ad, h⟩
      obtain ⟨ad, rfl⟩ := hA
      clear hD
      have hzn : z ≤ n := by omega
      have b4 : (z : Int) ≤ (n : Int) := by omega
      have b5 : (z : Int) ≤ (c : Int) := by omega
      by_cases hcz : c = z
      · have hnz : n = z := by omega
        have hdr : l.drop z = [] := List.drop_of_length_le (by omega)
        have hB : decB (l.drop z) = .error 3 := by rw [hdr]; rfl
        have hgb := rGetBytes_any (some ad) 0 0 (l.drop z) w2 (reads_none _ _ _ _ _ (by omega)) (by omega) (by omega)
        have HGB := Lib.hid hgb
        rw [hB] at hdef
        dsimp only at hdef
        have HD := Lib.hid hdef
        have hl2 : (([s, a] : List Int).length) = 2 := rfl
        clear hgb hdef hdr
        subst hnz
        subst hcz
        go_wp2_with fail
        refine HGB.out.mono ?_
        rintro E w3 ⟨rfl, hb3⟩
        rw [hB]
        simp only [retB]
        have h3 : w3.heap[w.heap.size]? = some (.cells #[.int .i64 0, .int .i64 0, .slice none 0 0] 43 (0, 0)) := k2.below hb3 k2.lt
        go_wp2_with (with_reducible refine wpList_store_row rfl 43 _ _ rfl w.heap.size #[.int .i64 0, .int .i64 0, .slice none 0 0] rfl rfl 43 _ h3 info43z rfl one43z ?_)
        refine bodyPost_ret (results_cell_tmp Try.results39 _ _ w.heap.size 43 #[.int .i64 0, .int .i64 0, .slice none 0 0] (0, 0) _ rfl (Blk.row h3 _) Try.underlying43 rfl info43z) rfl ?_
        exact rdQ_none (s := 0) (a := 0) HD.out rfl (below_setRow (below_next b2 hb3) (Nat.le_refl _) _)
      · have hcz2 : (c : Int) ≠ (z : Int) := by omega
        have hrd : Reads w2 w2.heap.size 1 (some (ad.add z)) (n - z) (bytesV (l.drop z)) := by
          by_cases hnz : n = z
          · rw [show n - z = 0 by omega]; exact reads_none _ _ _ _ _ (by omega)
          · exact ((reads_drop hl z (by omega)).below b2).more b2.size
        have hgb := rGetBytes_any (some (ad.add z)) (n - z) (c - z) (l.drop z) w2 hrd (by omega) (by omega)
        have HGB := Lib.hid hgb
        clear hgb hrd
        cases hB : decB (l.drop z) with
        | error t =>
          rw [hB] at hdef
          dsimp only at hdef
          have ht := decB_err hB
          have HD := Lib.hid hdef
          have ht2 : (t : Int) ≠ 0 := by omega
          have hl2 : (([s, a] : List Int).length) = 2 := rfl
          clear hdef
          go_wp2_with fail
          refine HGB.out.mono ?_
          rintro E w3 ⟨rfl, hb3⟩
          rw [hB]
          simp only [retB]
          have h3 : w3.heap[w.heap.size]? = some (.cells #[.int .i64 0, .int .i64 0, .slice none 0 0] 43 (0, 0)) := k2.below hb3 k2.lt
          go_wp2_with (with_reducible refine wpList_store_row rfl 43 _ _ rfl w.heap.size #[.int .i64 0, .int .i64 0, .slice none 0 0] rfl rfl 43 _ h3 info43z rfl one43z ?_)
          refine bodyPost_ret (results_cell_tmp Try.results39 _ _ w.heap.size 43 #[.int .i64 0, .int .i64 0, .slice none 0 0] (0, 0) _ rfl (Blk.row h3 _) Try.underlying43 rfl info43z) rfl ?_
          exact rdQ_none (s := 0) (a := 0) HD.out rfl (below_setRow (below_next b2 hb3) (Nat.le_refl _) _)
        | ok p =>
          obtain ⟨bb, m⟩ := p
          rw [hB] at hdef
          dsimp only at hdef
          obtain ⟨-, hm1, hm2⟩ := decB_canon hB
          rw [List.length_drop] at hm1 hm2
          have HM := Lib.hid hm1
          by_cases hzm : z + m = n
          · have hl2 : (([s, a] : List Int).length) = 2 := rfl
            have hne : (((z : Int) + (m : Int)) != (n : Int)) = false := by simp; omega
            have hsm : (z : Int) + (m : Int) ≤ 200000 := by omega
            have hsm2 : (z : Int) + (m : Int) = (n : Int) := by omega
            have HDF := Lib.hid hdef
            have HM2 := Lib.hid hm2
            clear hdef hm2
            go_wp2_with fail
            refine HGB.out.mono ?_
            rintro E w3 ⟨rfl, hb3⟩
            rw [hB]
            simp only [retB]
            have h3 : w3.heap[w.heap.size]? = some (.cells #[.int .i64 0, .int .i64 0, .slice none 0 0] 43 (0, 0)) := k2.below hb3 k2.lt
            have b3 := below_next b2 hb3
            have kx0 : w3.cell? ⟨gx, 0, none⟩ = some (.int .i64 s) := (Below.cell hb3 (World.block_lt_of_cell? _ _ kx0)).trans kx0
            have kx1 : w3.cell? ⟨gx, 1, none⟩ = some (.int .i64 a) := (Below.cell hb3 (World.block_lt_of_cell? _ _ kx1)).trans kx1
            have hS : ∀ W, Ok w3 W → W.cell? ⟨gx, 0, none⟩ = some (.int .i64 s) ∧ W.cell? ⟨gx, 1, none⟩ = some (.int .i64 a) := fun W hW => ⟨(Below.cell hW (World.block_lt_of_cell? _ _ kx0)).trans kx0, (Below.cell hW (World.block_lt_of_cell? _ _ kx1)).trans kx1⟩
            have HS := Lib.hid hS
            clear hS
            have ok3 := Ok.refl w3
            have hcv := fun W => run_bytes_of_string (P := Try.prog) W 9 33 5 ⟨bb.toArray⟩ Try.underlying9 Try.underlying33 Try.underlying5
            go_upto_region 7 with fail
            go_cut [10] from 45 to 53 (fun p wx => ∃ gp gc cap, p = .pointer (some ⟨gp, 0, none⟩) ∧ Hid (Blk wx gp 43 #[.int .i64 s, .int .i64 a, .slice (some ⟨gc, 0, none⟩) bb.length cap] ∧ bb.length ≤ cap ∧ Byt wx (some ⟨gc, 0, none⟩) bb.length bb ∧ Ok w3 wx ∧ w3.heap.size ≤ gp ∧ w3.heap.size ≤ gc))
            case first =>
              go_region_held (fun W => W.cell? ⟨gx, 0, none⟩ = some (.int .i64 s) ∧ W.cell? ⟨gx, 1, none⟩ = some (.int .i64 a))
                (first | exact HS.out _ (by (repeat (first | with_reducible assumption | with_reducible apply Ok.drew | with_reducible apply Ok.alloc | with_reducible apply Ok.drewN))))
                (first | fail)
              · go_wp2_with fail
                go_meet
                refine ⟨_, w3.heap.size, grownCap w3.drew bb.length 0 5, rfl, Lib.hid ⟨(Blk.new' (by simp)).drew.drew, grownCap_ge _ _ _ _, ?_, ?_, by simp, by simp⟩⟩
                · exact Byt.bel (conv_byt w3 bb _ _ _ rfl) (Ok.drew (Ok.drew (Ok.alloc (Ok.refl _) _)))
                · (repeat (first | with_reducible exact Ok.refl _ | with_reducible apply Ok.drew | with_reducible apply Ok.alloc))
              · go_wp2_with fail
                go_meet
                refine ⟨_, w3.heap.size + 1, grownCap (w3.alloc (.cells #[.int .i64 0, .int .i64 0, .slice none 0 0] 43)).drew bb.length 0 5, rfl, Lib.hid ⟨((Blk.new w3 43 _).alloc _).drew.drew, grownCap_ge _ _ _ _, ?_, ?_, by simp, by simp⟩⟩
                · exact Byt.bel (conv_byt (w3.alloc _) bb _ _ _ (by simp)) (Ok.drew (Ok.drew (Ok.refl _)))
                · (repeat (first | with_reducible exact Ok.refl _ | with_reducible apply Ok.drew | with_reducible apply Ok.alloc))
            case rest =>
              obtain ⟨gp, gc, cap, rfl, HC⟩ := hcut
              obtain ⟨kp, hcap, hper, okx, hgp, hgc⟩ := HC.out
              have b4 := b3.trans (Below.mono okx b3.size)
              have k4 := Blk.ok h3 okx
              have hpk := hdefp HDF.out hzm el
              have hwlt : w.heap.size ≠ gp := by have := k0.lt; have := b3.size; have := Blk.lt h3; omega
              have HPK := Lib.hid hpk
              have HPE := Lib.hid hper
              have HCAP := Lib.hid hcap
              have H4 := Lib.hid b4
              have HBL := Lib.hid (show bb.length ≤ 100000 by have := HM2.out; omega)
              have HGE := Lib.hid (Nat.le_trans b3.size hgc)
              have HZ := Lib.hid (show w.heap.size < gc by have := Blk.lt h3; omega)
              have h4 : wc.heap[w.heap.size]? = some (.cells #[.int .i64 0, .int .i64 0, .slice none 0 0] 43 (0, 0)) := k4
              have g0 : wc.cell? ⟨gp, 0, none⟩ = some (.int .i64 s) := kp.at_ rfl
              have g1 : wc.cell? ⟨gp, 1, none⟩ = some (.int .i64 a) := kp.at_ rfl
              have g2 : wc.cell? ⟨gp, 2, none⟩ = some (.slice (some ⟨gc, 0, none⟩) bb.length cap) := kp.at_ rfl
              have HNO : pktOk s a bb = false → Hid (readP l = none) := fun h => Lib.hid (by have := HPK.out.1; rw [h] at this; exact Option.isNone_iff_eq_none.1 (by rw [← Option.not_isSome, this]; rfl))
              have HYES : pktOk s a bb = true → Hid ((readP l).isSome = true) := fun h => Lib.hid (by rw [HPK.out.1, h])
              have HOKE := Lib.hid (pktOk_eq s a bb bb.length rfl)
              clear hpk hper hcap b4 HC okx k4
              have hne0 : ∀ (W : World), W = W := fun _ => rfl
              by_cases h1 : 0 ≤ s
              · by_cases h2 : 0 ≤ a
                · by_cases h3' : (bb.length : Int) ≤ 65536
                  · by_cases h5 : 0 < s ∨ bb.length = 0
                    · have HS := HYES (by rw [HOKE.out, decide_eq_true h1, decide_eq_true h2, decide_eq_true (show bb.length ≤ 65536 by omega)]; rcases h5 with h5 | h5 <;> simp [h5])
                      have hM2 := HM2.out
                      have one : (#[.int .i64 s, .int .i64 a, .slice (some ⟨gc, 0, none⟩) bb.length cap] : Array Value).all (·.oneCell') = true := by
                        rw [Array.all_eq_true']
                        intro x hx
                        simp at hx
                        rcases hx with rfl | rfl | rfl <;> rfl
                      have ONE := Lib.hid one
                      have I43 : Hid ((Try.prog.info? 43).map (·.size) = some (#[.int .i64 s, .int .i64 a, .slice (some ⟨gc, 0, none⟩) bb.length cap] : Array Value).size) := Lib.hid info43
                      clear one HNO HYES
                      rcases h5 with h5 | h5
                      · have h50 := h5
                        go_wp2_with (with_reducible refine wpList_store_row rfl 43 _ _ rfl w.heap.size #[.int .i64 s, .int .i64 a, .slice (some ⟨gc, 0, none⟩) bb.length cap] rfl rfl 43 _ h4 I43.out rfl ONE.out ?_)
                        refine bodyPost_ret (results_cell_tmp Try.results39 _ _ w.heap.size 43 #[.int .i64 s, .int .i64 a, .slice (some ⟨gc, 0, none⟩) bb.length cap] (0, 0) _ rfl (Blk.row h4 _) Try.underlying43 rfl info43) rfl ?_
                        exact ⟨⟨s, a, _, _, cap, bb, congrArg (fun b => Ending.returned (.tuple #[.agg #[.int .i64 s, .int .i64 a, .slice (some ⟨gc, 0, none⟩) bb.length cap], .bool b])) HS.out.symm, HPK.out.2, Lib.hid (byt_row HPE.out HZ.out _), HCAP.out, hsI, haI, HBL.out⟩, below_setRow H4.out (Nat.le_refl _) _⟩
                      · have h6 : ((bb.length : Int) == 0) = true := by rw [beq_iff_eq]; omega
                        have H5 := Lib.hid h5
                        clear h5
                        by_cases h7 : 0 < s
                        · go_wp2_with (with_reducible refine wpList_store_row rfl 43 _ _ rfl w.heap.size #[.int .i64 s, .int .i64 a, .slice (some ⟨gc, 0, none⟩) bb.length cap] rfl rfl 43 _ h4 I43.out rfl ONE.out ?_)
                          refine bodyPost_ret (results_cell_tmp Try.results39 _ _ w.heap.size 43 #[.int .i64 s, .int .i64 a, .slice (some ⟨gc, 0, none⟩) bb.length cap] (0, 0) _ rfl (Blk.row h4 _) Try.underlying43 rfl info43) rfl ?_
                          exact ⟨⟨s, a, _, _, cap, bb, congrArg (fun b => Ending.returned (.tuple #[.agg #[.int .i64 s, .int .i64 a, .slice (some ⟨gc, 0, none⟩) bb.length cap], .bool b])) HS.out.symm, HPK.out.2, Lib.hid (byt_row HPE.out HZ.out _), HCAP.out, hsI, haI, HBL.out⟩, below_setRow H4.out (Nat.le_refl _) _⟩
                        · have h7' : decide (0 < s) = false := decide_eq_false h7
                          go_wp2_with (with_reducible refine wpList_store_row rfl 43 _ _ rfl w.heap.size #[.int .i64 s, .int .i64 a, .slice (some ⟨gc, 0, none⟩) bb.length cap] rfl rfl 43 _ h4 I43.out rfl ONE.out ?_)
                          refine bodyPost_ret (results_cell_tmp Try.results39 _ _ w.heap.size 43 #[.int .i64 s, .int .i64 a, .slice (some ⟨gc, 0, none⟩) bb.length cap] (0, 0) _ rfl (Blk.row h4 _) Try.underlying43 rfl info43) rfl ?_
                          exact ⟨⟨s, a, _, _, cap, bb, congrArg (fun b => Ending.returned (.tuple #[.agg #[.int .i64 s, .int .i64 a, .slice (some ⟨gc, 0, none⟩) bb.length cap], .bool b])) HS.out.symm, HPK.out.2, Lib.hid (byt_row HPE.out HZ.out _), HCAP.out, hsI, haI, HBL.out⟩, below_setRow H4.out (Nat.le_refl _) _⟩
                    · have HS := HNO (by rw [HOKE.out, decide_eq_false (show ¬ 0 < s from fun h => h5 (.inl h)), decide_eq_false (show ¬ bb.length = 0 from fun h => h5 (.inr h))]; simp)
                      have h7 : ¬ 0 < s := fun h => h5 (.inl h)
                      have h7' : decide (0 < s) = false := decide_eq_false h7
                      have h6 : ((bb.length : Int) == 0) = false := by
                        have : bb.length ≠ 0 := fun h => h5 (.inr h)
                        rw [beq_eq_false_iff_ne]
                        omega
                      go_wp2_with (with_reducible refine wpList_store_row rfl 43 _ _ rfl w.heap.size #[.int .i64 0, .int .i64 0, .slice none 0 0] rfl rfl 43 _ h4 info43z rfl one43z ?_)
                      refine bodyPost_ret (results_cell_tmp Try.results39 _ _ w.heap.size 43 #[.int .i64 0, .int .i64 0, .slice none 0 0] (0, 0) _ rfl (Blk.row h4 _) Try.underlying43 rfl info43z) rfl ?_
                      exact rdQ_none (s := 0) (a := 0) HS.out rfl (below_setRow H4.out (Nat.le_refl _) _)
                  · have HS := HNO (by rw [HOKE.out, decide_eq_false (show ¬ bb.length ≤ 65536 by omega)]; simp)
                    have h3'' : decide ((bb.length : Int) ≤ 65536) = false := decide_eq_false h3'
                    go_wp2_with (with_reducible refine wpList_store_row rfl 43 _ _ rfl w.heap.size #[.int .i64 0, .int .i64 0, .slice none 0 0] rfl rfl 43 _ h4 info43z rfl one43z ?_)
                    refine bodyPost_ret (results_cell_tmp Try.results39 _ _ w.heap.size 43 #[.int .i64 0, .int .i64 0, .slice none 0 0] (0, 0) _ rfl (Blk.row h4 _) Try.underlying43 rfl info43z) rfl ?_
                    exact rdQ_none (s := 0) (a := 0) HS.out rfl (below_setRow H4.out (Nat.le_refl _) _)
                · have HS := HNO (by rw [HOKE.out, decide_eq_false h2]; simp)
                  have h2' : decide (0 ≤ a) = false := decide_eq_false h2
                  go_wp2_with (with_reducible refine wpList_store_row rfl 43 _ _ rfl w.heap.size #[.int .i64 0, .int .i64 0, .slice none 0 0] rfl rfl 43 _ h4 info43z rfl one43z ?_)
                  refine bodyPost_ret (results_cell_tmp Try.results39 _ _ w.heap.size 43 #[.int .i64 0, .int .i64 0, .slice none 0 0] (0, 0) _ rfl (Blk.row h4 _) Try.underlying43 rfl info43z) rfl ?_
                  exact rdQ_none (s := 0) (a := 0) HS.out rfl (below_setRow H4.out (Nat.le_refl _) _)
              · have HS := HNO (by rw [HOKE.out, decide_eq_false h1]; simp)
                have h1' : decide (0 ≤ s) = false := decide_eq_false h1
                go_wp2_with (with_reducible refine wpList_store_row rfl 43 _ _ rfl w.heap.size #[.int .i64 0, .int .i64 0, .slice none 0 0] rfl rfl 43 _ h4 info43z rfl one43z ?_)
                refine bodyPost_ret (results_cell_tmp Try.results39 _ _ w.heap.size 43 #[.int .i64 0, .int .i64 0, .slice none 0 0] (0, 0) _ rfl (Blk.row h4 _) Try.underlying43 rfl info43z) rfl ?_
                exact rdQ_none (s := 0) (a := 0) HS.out rfl (below_setRow H4.out (Nat.le_refl _) _)
          · rw [if_neg (fun h => hzm (by omega))] at hdef
            have HD := Lib.hid hdef
            have hl2 : (([s, a] : List Int).length) = 2 := rfl
            have hne : (((z : Int) + (m : Int)) != (n : Int)) = true := by rw [bne_iff_ne]; omega
            have hsm : (z : Int) + (m : Int) ≤ 200000 := by omega
            clear hdef hm2
            go_wp2_with fail
            refine HGB.out.mono ?_
            rintro E w3 ⟨rfl, hb3⟩
            rw [hB]
            simp only [retB]
            have h3 : w3.heap[w.heap.size]? = some (.cells #[.int .i64 0, .int .i64 0, .slice none 0 0] 43 (0, 0)) := k2.below hb3 k2.lt
            go_wp2_with (with_reducible refine wpList_store_row rfl 43 _ _ rfl w.heap.size #[.int .i64 0, .int .i64 0, .slice none 0 0] rfl rfl 43 _ h3 info43z rfl one43z ?_)
            refine bodyPost_ret (results_cell_tmp Try.results39 _ _ w.heap.size 43 #[.int .i64 0, .int .i64 0, .slice none 0 0] (0, 0) _ rfl (Blk.row h3 _) Try.underlying43 rfl info43z) rfl ?_
            exact rdQ_none (s := 0) (a := 0) HD.out rfl (below_setRow (below_next b2 hb3) (Nat.le_refl _) _)
    · obtain ⟨X, c2, rfl, -, -, -⟩ := own_slice ho
      have hr3 : ((r.length : Int) != 2) = true := by rw [bne_iff_ne]; omega
      have hnone : readP l = none := by
        rw [hdef]
        match r, hr2 with
        | [], _ => rfl
        | [_], _ => rfl
        | _ :: _ :: _ :: _, _ => rfl
      have HD := Lib.hid hnone
      clear hdef ho hvl hz hD hnone hI
      go_wp2_with (with_reducible refine wpList_store_row rfl 43 _ _ rfl w.heap.size #[.int .i64 0, .int .i64 0, .slice none 0 0] rfl rfl 43 _ h2 info43z rfl one43z ?_)
      refine bodyPost_ret (results_cell_tmp Try.results39 _ _ w.heap.size 43 #[.int .i64 0, .int .i64 0, .slice none 0 0] (0, 0) _ rfl (Blk.row k2 _) Try.underlying43 rfl info43z) rfl ?_
      exact rdQ_none (s := 0) (a := 0) HD.out rfl (below_setRow b2 (Nat.le_refl _) _)
  · rw [if_neg (by omega)] at hD
    rw [hD] at hdef
    have HD := Lib.hid hdef
    obtain ⟨X, c2, rfl, -, -, -⟩ := own_slice ho
    clear hdef ho hvl hz hD
    go_wp2_with (with_reducible refine wpList_store_row rfl 43 _ _ rfl w.heap.size #[.int .i64 0, .int .i64 0, .slice none 0 0] rfl rfl 43 _ h2 info43z rfl one43z ?_)
    refine bodyPost_ret (results_cell_tmp Try.results39 _ _ w.heap.size 43 #[.int .i64 0, .int .i64 0, .slice none 0 0] (0, 0) _ rfl (Blk.row k2 _) Try.underlying43 rfl info43z) rfl ?_
    exact rdQ_none (s := 0) (a := 0) HD.out rfl (below_setRow b2 (Nat.le_refl _) _)
end Go.Proofs.Ytbekkndkdfmijaa

