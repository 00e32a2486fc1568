/- The example of the link. No condition. -/
import Derived.Test.YtbekkndkdfmijaaKm
import Derived.Lib.SlBytesConst
set_option linter.unusedSimpArgs false
set_option linter.unusedVariables false
namespace Go.Proofs.Ytbekkndkdfmijaa
open Go.RowKit

/-- two ends that the call made -/
structure Run (w w1 : World) (g h N : Nat) (q : Option Nat) (E : EndV) (g' h' N' : Nat) (q' : Option Nat) (E' : EndV) : Prop where
  two : Two w1 g h N q E g' h' N' q' E'
  low : ∀ i, i ∈ g :: h :: q.toList → w.heap.size ≤ i
  low' : ∀ i, i ∈ g' :: h' :: q'.toList → w.heap.size ≤ i
  bel : Below w.heap.size w w1
section
variable {w w1 w2 : World} {g h N g' h' N' : Nat} {q q' : Option Nat} {E E' : EndV}
theorem Run.swap (R : Run w w1 g h N q E g' h' N' q' E') : Run w w1 g' h' N' q' E' g h N q E := ⟨R.two.swap, R.low', R.low, R.bel⟩
theorem Run.ok (R : Run w w1 g h N q E g' h' N' q' E') (k : Below w1.heap.size w1 w2) : Run w w2 g h N q E g' h' N' q' E' := ⟨R.two.bel k, R.low, R.low', R.bel.trans (k.mono R.bel.size)⟩
theorem Run.step (R : Run w w1 g h N q E g' h' N' q' E') {q2 : Option Nat} {N2 : Nat} {E2 : EndV} (H : EndAt w2 g q2 h N2 E2) (f : Fr (g :: h :: q.toList) w1 w2) (hq : q2 = q ∨ ∃ i, q2 = some i ∧ w1.heap.size ≤ i) : Run w w2 g h N2 q2 E2 g' h' N' q' E' := by
  refine ⟨R.two.step H f hq, fun i hi => ?_, R.low', R.bel.trans (f.belowB R.bel.size R.low)⟩
  rcases hq with rfl | ⟨j, rfl, hj⟩
  · exact R.low i hi
  · have h0 := R.bel.size
    simp at hi
    rcases hi with rfl | rfl | rfl
    · exact R.low _ (by simp)
    · exact R.low _ (by simp)
    · omega
end
theorem reads_one (W : World) (b : UInt8) : Reads (W.alloc (.cells #[.int .u8 (b.toNat : Int)] 5 (1, 2))) (W.alloc (.cells #[.int .u8 (b.toNat : Int)] 5 (1, 2))).heap.size 1 (some ⟨W.heap.size, 0, none⟩) 1 (bytesV [b]) :=
  ⟨rfl, fun _ => ⟨_, rfl, by show _ < (W.heap.push _).size; rw [Array.size_push]; exact Nat.lt_succ_self _, fun j u hu => by
    rw [addr_add0]
    have hu2 : ([.int .u8 (b.toNat : Int)] : List Value)[j]? = some u := hu
    refine (World.cell?_alloc_mark W _ 5 (1, 2) j).trans (by simpa using hu2)⟩⟩
structure Msg (w : World) (b i : Nat) (A : Option Addr) (n c : Nat) (l : List UInt8) : Prop where
  lt : b < w.heap.size
  cell : w.cell? ⟨b, i, none⟩ = some (.slice A n c)
  le : n ≤ c
  byt : Byt w A n l
theorem Msg.fr {w w' : World} {b i n c : Nat} {A : Option Addr} {l : List UInt8} {S : List Nat} (h : Msg w b i A n c l) (f : Fr S w w') (hb : b ∉ S) (u : U8 w w') : Msg w' b i A n c l :=
  ⟨Nat.lt_of_lt_of_le h.lt f.size, by have := h.cell; unfold World.cell? at this ⊢; rw [f.block b h.lt hb]; exact this, h.le, h.byt.u8 u⟩
theorem Msg.ok {w w' : World} {b i n c : Nat} {A : Option Addr} {l : List UInt8} (h : Msg w b i A n c l) (k : Below w.heap.size w w') : Msg w' b i A n c l :=
  h.fr (Fr.of_below k []) (by simp) ((Fr.of_below k []).u8 (by simp))
theorem got_at {W : World} {base c : Nat} {b : Nat} {vs : List Value} {ls : List (List UInt8)} {n : Nat} (ho : W.ownsRow base 33 1 (.slice (some ⟨b, 0, none⟩) n c) n vs) (hr : Rws W vs ls) {j : Nat} (hj : j < ls.length) (hb : b < W.heap.size) : ∃ A m d, Msg W b j A m d (ls[j]?.getD []) := by
  obtain ⟨A, m, d, l, h1, h2, h3, h4⟩ := hr.at_ hj
  have := ho.cells (g := b) rfl j _ h1
  rw [addr_add0] at this
  exact ⟨A, m, d, hb, this, h3, by rw [h2]; exact h4⟩
theorem got_slice {W : World} {base : Nat} {v : Value} {vs : List Value} {ls : List (List UInt8)} (ho : W.ownsRow base 33 1 v vs.length vs) (hr : Rws W vs ls) {n : Nat} (hn : ls.length = n) (h0 : 0 < n) : ∃ b c, v = .slice (some ⟨b, 0, none⟩) n c ∧ base ≤ b ∧ b < W.heap.size ∧ ∀ j, j < ls.length → ∃ A m d, Msg W b j A m d (ls[j]?.getD []) := by
  have hl := hr.1
  subst hn
  rcases ho.2 with ⟨h1, h2⟩ | ⟨g, cap, cur, hv, hg, -⟩
  · omega
  · subst hv
    have := (ho.lt g rfl).2
    refine ⟨g, cap, by rw [hl], hg, this, fun j hj => ?_⟩
    exact got_at ho hr hj this
set_option maxRecDepth 100000 in
set_option maxHeartbeats 16000000 in
theorem lives_any (w : World) : Calls Try.prog 23 #[] w fun e W' => e = .returned (.bool true) ∧ Below w.heap.size w W' := by
  have kc := fun (w : World) (C : Array Value) (n c : Nat) => Lib.run_convert_bytes_const (P := Try.prog) w 33 5 C n c Try.underlying33 Try.underlying5
  go_enter Try.func23, Try.ntmps23
  go_wp2_with fail
  refine (new_any 2 9 w (by omega) (by omega)).mono ?_
  rintro E0 w1 ⟨gA, hA, rfl, HA, lgA, lhA, b1⟩
  go_wp2_with fail
  refine (new_any 2 9 w1 (by omega) (by omega)).mono ?_
  rintro E1 w2 ⟨gB, hB, rfl, HB, lgB, lhB, b2⟩
  have R2 : Run w w2 gA hA 0 none (newE 2 9) gB hB 0 none (newE 2 9) :=
    ⟨⟨HA.bel b2, HB, fun i hi hm => by have h1 := HA.lt gA (by simp); have h2 := HA.lt hA (by simp); simp at hi hm; omega⟩, fun i hi => by simp at hi; omega, fun i hi => by have := b1.size; simp at hi; omega, below_next b1 b2⟩
  clear HA lgA lhA b1 HB lgB lhB b2
  go_wp2_with fail
  have R2a := R2.ok ((Below.refl _ w2).alloc (Nat.le_refl _) (.cells #[.int .u8 97] 5 (1, 2)))
  refine (send_any gA hA _ _ _ (some ⟨w2.heap.size, 0, none⟩) 1 1 [97] _ R2a.two.one (reads_one w2 97) (by omega) (by decide)).mono ?_
  rintro E2 w3 ⟨qA3, rfl, H2, hq2, f2⟩
  have R3 := R2a.step H2 f2 hq2
  clear R2 R2a H2 f2 hq2
  go_wp2_with fail
  have R3a := R3.ok ((Below.refl _ w3).alloc (Nat.le_refl _) (.cells #[.int .u8 98] 5 (1, 2)))
  refine (send_any gA hA _ _ _ (some ⟨w3.heap.size, 0, none⟩) 1 1 [98] _ R3a.two.one (reads_one w3 98) (by omega) (by decide)).mono ?_
  rintro E3 w4 ⟨qA4, rfl, H3, hq3, f3⟩
  have R4 := R3a.step H3 f3 hq3
  clear R3 R3a H3 f3 hq3
  go_wp2_with fail
  have R4a := R4.ok ((Below.refl _ w4).alloc (Nat.le_refl _) (.cells #[.int .u8 99] 5 (1, 2)))
  refine (send_any gA hA _ _ _ (some ⟨w4.heap.size, 0, none⟩) 1 1 [99] _ R4a.two.one (reads_one w4 99) (by omega) (by decide)).mono ?_
  rintro E4 w5 ⟨qA5, rfl, H4, hq4, f4⟩
  have R5 := R4a.step H4 f4 hq4
  clear R4 R4a H4 f4 hq4
  go_wp2_with fail
  have R5 : Run w w5 gA hA 0 qA5 LA gB hB 0 none (newE 2 9) := R5
  have GA : Good LA 3 := good_send (E := { newE 2 9 with wait := [[97], [98]] }) (good_send (E := { newE 2 9 with wait := [[97]] }) (good_send (E := newE 2 9) (good_new 2 9 (by omega) (by omega) (by omega) 0) [97] (by decide)) [98] (by decide)) [99] (by decide)
  have GB : Good (newE 2 9) 0 := good_new 2 9 (by omega) (by omega) (by omega) 0
  refine (out_any gA hA _ qA5 LA _ R5.two.one (by have := GA.ack; omega) (by have := GA.got; omega) GA.key GA.win0 GA.win GA.msgs (by have := GA.ack; omega)).mono ?_
  rintro - w6 ⟨v6, vs6, rfl, ho5, hr5, H5, f5⟩
  rw [e_out] at hr5
  obtain ⟨b6, c6, rfl, lo6, hi6, M6⟩ := got_slice ho5 hr5 (n := 2) rfl (by decide)
  have R6 := R5.step H5 (f5.mono (fun i hi => by simp at hi; simp [hi])) (.inl rfl)
  have F5 : Fr (gA :: hA :: qA5.toList) w5 w6 := f5.mono (fun i hi => by simp at hi; simp [hi])
  clear ho5 hr5 H5 f5
  obtain ⟨AP0, nP0, dP0, P0⟩ := M6 0 (by decide)
  have P0 : Msg w6 b6 0 AP0 nP0 dP0 lp0 := P0
  obtain ⟨AP1, nP1, dP1, P1⟩ := M6 1 (by decide)
  have P1 : Msg w6 b6 1 AP1 nP1 dP1 lp1 := P1
  clear M6
  have cP0 := P0.cell
  have cP1 := P1.cell
  have ltA : ∀ i, i ∈ gA :: hA :: qA5.toList → i < w5.heap.size := R5.two.one.lt
  have ltB : ∀ i, i ∈ gB :: hB :: (none : Option Nat).toList → i < w5.heap.size := R5.two.two.lt
  have s6 := F5.size
  clear R5 F5
  replace R6 := R6.swap
  go_wp2_with fail
  refine (in_any gB hB 0 none (newE 2 9) _ _ _ lp1 _ R6.two.one P1.byt.reads (by have h0 := P1.byt.1; have h1 : lp1.length ≤ 1000 := of_decide_eq_true (by kernel_rfl); omega) P1.le GB.key (by have := GB.ack; omega) (by have := GB.got; omega) (by have := GB.forg; omega) (by have := GB.ack; omega) (by omega) GB.keys).mono ?_
  rintro - w7 ⟨v7, vs7, rfl, ho6, hr6, H6, F6⟩
  rw [e_in1] at hr6
  rw [e_in1e]
  obtain rfl : vs7 = [] := List.length_eq_zero_iff.1 hr6.1
  obtain ⟨A7, c7, rfl, -⟩ := own_slice (n := 0) ho6
  have R7 := R6.step H6 F6 (.inl rfl)
  have u6 := F6.u8 R6.two.one.not_u8
  clear ho6 hr6 H6
  have lt6 := ltB
  have GB1 : Good LB1 17 := good_in GB lp1
  have R7 : Run w w7 gB hB 1 none LB1 gA hA 0 qA5 LA := R7
  replace P0 := P0.fr F6 (fun hm => by have h1 := lt6 _ hm; omega) u6
  replace P1 := P1.fr F6 (fun hm => by have h1 := lt6 _ hm; omega) u6
  replace cP0 := P0.cell
  replace cP1 := P1.cell
  have s7 := F6.size
  clear R6 F6 u6 lt6 GB
  go_wp2_with fail
  refine (in_any gB hB 1 none LB1 _ _ _ lp0 _ R7.two.one P0.byt.reads (by have h0 := P0.byt.1; have h1 : lp0.length ≤ 1000 := of_decide_eq_true (by kernel_rfl); omega) P0.le GB1.key (by have := GB1.ack; omega) (by have := GB1.got; omega) (by have := GB1.forg; omega) (by have := GB1.ack; omega) (by omega) GB1.keys).mono ?_
  rintro - w8 ⟨v8, vs8, rfl, ho7, hr7, H7, F7⟩
  rw [e_in2] at hr7
  rw [e_in2e]
  obtain ⟨b8, c8, rfl, lo8, hi8, M8⟩ := got_slice ho7 hr7 (n := 2) rfl (by decide)
  have R8 := R7.step H7 F7 (.inl rfl)
  have u7 := F7.u8 R7.two.one.not_u8
  clear ho7 hr7 H7
  have lt7 := ltB
  have GB2 : Good LB2 34 := good_in GB1 lp0
  have R8 : Run w w8 gB hB 2 none LB2 gA hA 0 qA5 LA := R8
  replace P0 := P0.fr F7 (fun hm => by have h1 := lt7 _ hm; omega) u7
  replace P1 := P1.fr F7 (fun hm => by have h1 := lt7 _ hm; omega) u7
  obtain ⟨AY0, nY0, dY0, Y0⟩ := M8 0 (by decide)
  have Y0 : Msg w8 b8 0 AY0 nY0 dY0 [97] := Y0
  obtain ⟨AY1, nY1, dY1, Y1⟩ := M8 1 (by decide)
  have Y1 : Msg w8 b8 1 AY1 nY1 dY1 [98] := Y1
  clear M8
  replace cP0 := P0.cell
  replace cP1 := P1.cell
  have s8 := F7.size
  clear R7 F7 u7 lt7 GB1
  go_wp2_with fail
  refine (out_any gB hB _ none LB2 _ R8.two.one (by have := GB2.ack; omega) (by have := GB2.got; omega) GB2.key GB2.win0 GB2.win GB2.msgs (by have := GB2.ack; omega)).mono ?_
  rintro - w9 ⟨v9, vs9, rfl, ho8, hr8, H8, f8⟩
  rw [e_out2] at hr8
  obtain ⟨b9, c9, rfl, lo9, hi9, M9⟩ := got_slice ho8 hr8 (n := 1) rfl (by decide)
  have R9 := R8.step H8 (f8.mono (fun i hi => by simp at hi; simp [hi])) (.inl rfl)
  have F8 : Fr (gB :: hB :: none.toList) w8 w9 := f8.mono (fun i hi => by simp at hi; simp [hi])
  clear ho8 hr8 H8 f8
  obtain ⟨AQ0, nQ0, dQ0, Q0⟩ := M9 0 (by decide)
  have Q0 : Msg w9 b9 0 AQ0 nQ0 dQ0 lq := Q0
  clear M9
  have lt8 := ltB
  have u8 := F8.u8 R8.two.one.not_u8
  replace Y1 := Y1.fr F8 (fun hm => by have h1 := lt8 _ hm; omega) u8
  have cY1 := Y1.cell
  have cQ0 := Q0.cell
  have kv := conv_any (c := dY1) Y1.byt.reads
  have s9 := F8.size
  clear R8 F8 u8 lt8 GB2
  replace R9 := R9.swap
  go_wp2_with fail
  refine (in_any gA hA 0 qA5 LA _ _ _ lq _ R9.two.one Q0.byt.reads (by have h0 := Q0.byt.1; have h1 : lq.length ≤ 1000 := of_decide_eq_true (by kernel_rfl); omega) Q0.le GA.key (by have := GA.ack; omega) (by have := GA.got; omega) (by have := GA.forg; omega) (by have := GA.ack; omega) (by omega) GA.keys).mono ?_
  rintro - w10 ⟨v10, vs10, rfl, ho9, hr9, H9, F9⟩
  rw [e_in3] at hr9
  rw [e_in3e]
  obtain rfl : vs10 = [] := List.length_eq_zero_iff.1 hr9.1
  obtain ⟨A10, c10, rfl, -⟩ := own_slice (n := 0) ho9
  have R10 := R9.step H9 F9 (.inl rfl)
  have u9 := F9.u8 R9.two.one.not_u8
  clear ho9 hr9 H9
  have GA4 : Good LA4 20 := good_in GA lq
  have R10 : Run w w10 gA hA 1 qA5 LA4 gB hB 2 none { LB2 with owe := false } := R10
  clear R9 F9 u9 GA
  go_wp2_with fail
  refine (out_any gA hA _ qA5 LA4 _ R10.two.one (by have := GA4.ack; omega) (by have := GA4.got; omega) GA4.key GA4.win0 GA4.win GA4.msgs (by have := GA4.ack; omega)).mono ?_
  rintro - w11 ⟨v11, vs11, rfl, ho10, hr10, H10, f10⟩
  rw [e_out3] at hr10
  obtain ⟨b11, c11, rfl, lo11, hi11, M11⟩ := got_slice ho10 hr10 (n := 1) rfl (by decide)
  have R11 := R10.step H10 (f10.mono (fun i hi => by simp at hi; simp [hi])) (.inl rfl)
  have F10 : Fr (gA :: hA :: qA5.toList) w10 w11 := f10.mono (fun i hi => by simp at hi; simp [hi])
  clear ho10 hr10 H10 f10
  obtain ⟨AZ0, nZ0, dZ0, Z0⟩ := M11 0 (by decide)
  have Z0 : Msg w11 b11 0 AZ0 nZ0 dZ0 lr := Z0
  clear M11
  have cZ0 := Z0.cell
  clear R10 F10 GA4
  go_wp2_with fail
  have ba := (Below.refl w11.heap.size w11).alloc (Nat.le_refl _) (.cells #[.int .u8 99] 5 (1, 2))
  refine (rPkt_any 3 0 (some ⟨w11.heap.size, 0, none⟩) 1 1 [99] _ (by unfold I64; omega) (by unfold I64; omega) (reads_one w11 99) (by omega)).mono ?_
  rintro - w12 ⟨v12, rfl, ho12, b12⟩
  obtain ⟨AS, cS, rfl, rd12⟩ := own_reads1 ho12
  clear ho12
  go_wp2_with fail
  refine (rSeal_any 9 AS _ cS _ w12 (by omega) rd12 (by have : (pktB 3 0 [99]).length ≤ 1000 := of_decide_eq_true (by kernel_rfl); omega)).mono ?_
  rintro - w13 ⟨v13, rfl, ho13, b13⟩
  obtain ⟨AT, cT, rfl, rd13⟩ := own_reads1 ho13
  have bb := below_next (below_next ba b12) b13
  replace Z0 := Z0.ok bb
  replace R11 := R11.ok bb
  replace cZ0 := Z0.cell
  clear ho13 rd12 ba b12 b13
  go_wp2_with fail
  refine (same_any AZ0 AT nZ0 _ dZ0 cT lr lr w13.heap.size w13 Z0.byt.reads rd13 (by have h0 := Z0.byt.1; have h1 : lr.length ≤ 1000 := of_decide_eq_true (by kernel_rfl); omega) (by have h1 : (sealL 9 (pktB 3 0 [99])).length ≤ 1000 := of_decide_eq_true (by kernel_rfl); omega)).mono ?_
  rintro - w14 ⟨rfl, kd, rfl⟩
  have et : decide (lr = lr) = true := decide_eq_true rfl
  rw [et]
  replace R11 := R11.ok (w2 := w13.drewN kd) ⟨rfl, rfl, rfl, Nat.le_refl _, fun _ _ => rfl⟩
  generalize w13.drewN kd = w15 at R11 ⊢
  go_wp2_with fail
  refine (waiting_any gA hA 1 qA5 _ w15 R11.two.one).mono ?_
  rintro - w16 ⟨rfl, rfl⟩
  have ew : ({ LA4 with owe := false } : EndV).wait.length = 1 := e_wait
  rw [ew]
  go_wp2_with fail
  refine (forged_any gA hA 1 qA5 _ w16 R11.two.one).mono ?_
  rintro - w17 ⟨rfl, rfl⟩
  have ef : ({ LA4 with owe := false } : EndV).forg = 0 := e_forg
  rw [ef]
  go_wp2_with fail
  go_ret
  exact ⟨rfl, R11.bel⟩
end Go.Proofs.Ytbekkndkdfmijaa
