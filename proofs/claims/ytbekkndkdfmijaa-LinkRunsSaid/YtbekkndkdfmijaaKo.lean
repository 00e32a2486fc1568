/- LinkDetects: the walk (function 7). No condition. -/
import Derived.Test.YtbekkndkdfmijaaKn
import Derived.OpenShut
set_option linter.unusedSimpArgs false
set_option linter.unusedVariables false
namespace Go.Proofs.Ytbekkndkdfmijaa
open Go.RowKit Go

/-- a row of bytes of our own, opened -/
theorem own_open {W : World} {base n : Nat} {v : Value} {l : List UInt8} (ho : W.ownsRow base 5 1 v n (bytesV l)) (h0 : 0 < n) :
    ∃ b c cs, v = .slice (some ⟨b, 0, none⟩) n c ∧ base ≤ b ∧ Blk W b 5 cs ∧ n ≤ c ∧ l.length = n ∧ ∀ (j : Nat) u, (bytesV l)[j]? = some u → cs[j]? = some u := by
  rcases ho.2 with ⟨_, h⟩ | ⟨g, cap, cur, rfl, hg, hb, hc, _, _, ht⟩
  · omega
  · refine ⟨g, cap, cur, rfl, hg, hb, hc, by have := ho.1; rw [bytesV_length] at this; omega, fun j u hu => ?_⟩
    rw [← ht, List.getElem?_take] at hu
    split at hu
    · simpa using hu
    · cases hu
theorem bytesV_set (l : List UInt8) (j : Nat) (x : UInt8) : bytesV (l.set j x) = (bytesV l).set j (.int .u8 (x.toNat : Int)) := by simp [bytesV, List.map_set]
/-- one byte stored -/
theorem bent_reads {W : World} {b n j : Nat} {cs : Array Value} {l : List UInt8} (k : Blk W b 5 cs) (hl : l.length = n) (hc : ∀ (j : Nat) u, (bytesV l)[j]? = some u → cs[j]? = some u) (x : UInt8) {z : Int} (hz : z = (x.toNat : Int)) :
    Reads (W.setCell ⟨b, j, none⟩ (.int .u8 z)) (W.setCell ⟨b, j, none⟩ (.int .u8 z)).heap.size 1 (some ⟨b, 0, none⟩) n (bytesV (l.set j x)) := by
  subst hz
  refine ⟨by rw [bytesV_length, List.length_set]; omega, fun _ => ⟨_, rfl, (k.set_ j _).lt, fun i u hu => ?_⟩⟩
  rw [addr_add0]
  refine (k.set_ j _).at_ ?_
  rw [bytesV_set, List.getElem?_set] at hu
  rw [Array.getElem?_setIfInBounds]
  by_cases e : j = i
  · subst e
    rw [if_pos rfl] at hu ⊢
    split at hu
    · rename_i h
      have h1 := hc j _ (List.getElem?_eq_getElem h)
      rw [if_pos (Array.getElem?_eq_some_iff.1 h1).1]
      exact hu
    · cases hu
  · rw [if_neg e] at hu ⊢
    exact hc i u hu
theorem byt_ne {x d : Nat} (hx : x < 256) (h0 : 0 < d) (hd : d < 256) : x ^^^ d < 256 ∧ x ^^^ d ≠ x := by
  refine ⟨Nat.xor_lt_two_pow (n := 8) hx hd, fun h => ?_⟩
  have h1 : x ^^^ (x ^^^ d) = x ^^^ x := by rw [h]
  rw [← Nat.xor_assoc, Nat.xor_self, Nat.zero_xor] at h1
  omega
theorem bend_ints {d y : Nat} (hd : d < 256) (hy : y < 256) : ∃ D Z : Nat, IntKind.u8.wrap (1 + (d : Int) % 255) = (D : Int) ∧ bits .xor .u8 (y : Int) (1 + (d : Int) % 255) = (Z : Int) ∧ Z < 256 ∧ Z ≠ y := by
  have hD : 0 < 1 + d % 255 ∧ 1 + d % 255 < 256 := by omega
  obtain ⟨h1, h2⟩ := byt_ne hy hD.1 hD.2
  exact ⟨1 + d % 255, y ^^^ (1 + d % 255), by rw [IntKind.wrap_u8]; omega, by have := u8_xor_nat y _ (by omega) hD.2; rw [← this]; rfl, h1, h2⟩
theorem bent_no {k : Nat} (hk : k < 18446744073709551616) (F : List UInt8) {j Z : Nat} {y : UInt8} (hy : (sealL k F)[j]? = some y) (hz : Z < 256) (hn : Z ≠ y.toNat) : openL k ((sealL k F).set j (byt Z)) = .error 9 := by
  refine open_bent hk F j (by have := (List.getElem?_eq_some_iff.1 hy).1; rw [sealL_length] at this; exact this) _ fun e => hn ?_
  rw [hy] at e
  have e2 : y = byt Z := by injection e
  rw [e2, byt_toNat hz]
/-- the end that gets the one packet -/
theorem e_one (win key f : Nat) (b : List UInt8) : (inP { newE win key with forg := f } 1 0 b).1 = [b] := by
  unfold inP
  rw [if_neg (by show ¬ ((0 : Int) + 0 < 0 ∨ (0 : Int) + 16 < 1); omega), if_neg (by omega)]
  rfl
theorem e_one_forg (win key f : Nat) (b : List UInt8) : (inP { newE win key with forg := f } 1 0 b).2.forg = f := by
  unfold inP
  rw [if_neg (by show ¬ ((0 : Int) + 0 < 0 ∨ (0 : Int) + 16 < 1); omega), if_neg (by omega)]
  rfl
theorem e_noout (win key f : Nat) : outF { newE win key with forg := f } = [] := by
  unfold outF
  rw [if_neg (fun h => by cases h.2)]
  unfold outN
  rw [show ({ newE win key with forg := f } : EndV).wait.length = 0 from rfl, Nat.zero_min]
  rfl
theorem in_pkt (win key f : Nat) (b : List UInt8) (hb : b.length ≤ 65536) (E : EndV) (hE : E = { newE win key with forg := f }) : ∃ E2, inF E (sealL key (pktB 1 0 b)) = ([b], 0, E2) ∧ E2.forg = f := by
  have hk : E.key = key := by rw [hE]
  have hr : readP (pktB 1 0 b) = some (1, 0, b) := read_pkt 1 0 b (by unfold I64; omega) (by unfold I64; omega) (by simp [pktOk]; omega)
  unfold inF
  rw [hk, open_seal]
  dsimp only
  rw [hr]
  dsimp only
  exact ⟨_, by rw [hE, e_one], e_one_forg win key f b⟩
theorem in_bent {E : EndV} {l : List UInt8} (h : openL E.key l = .error 9) : inF E l = ([], 9, { E with forg := E.forg + 1 }) := by
  unfold inF
  rw [h]
  rfl
set_option maxRecDepth 100000 in
set_option maxHeartbeats 16000000 in
theorem linkDetects_any (kz : Int) (A : Option Addr) (n c : Nat) (l : List UInt8) (at_ cz : Int) (w : World) (hk : (Lit.int .u64 kz).wf = true) (hnc : n ≤ c) (hn : n ≤ 140737488351232) (hl : Reads w w.heap.size 1 A n (bytesV l)) (hat : I64 at_) (hc : (Lit.int .u8 cz).wf = true) :
    Calls Try.prog 7 #[.int .u64 kz, .slice A n c, .int .i64 at_, .int .u8 cz] w fun e W' => e = .returned (.bool true) ∧ Below w.heap.size w W' := by
  have bk := bounds_u64 hk
  have bc := bounds_u8 hc
  obtain ⟨key, rfl⟩ := Int.eq_ofNat_of_zero_le bk.1
  obtain ⟨d, rfl⟩ := Int.eq_ofNat_of_zero_le bc.1
  have hkey : key < 18446744073709551616 := by omega
  have hd : d < 256 := by omega
  clear hk hc bk bc
  go_enter Try.func7, Try.ntmps7
  go_wp2_with fail
  refine (few_any A n c 200 l w hl hnc (by unfold maxLen; omega) (by omega)).mono ?_
  rintro - w1 ⟨v1, rfl, ho1, b1⟩
  obtain ⟨F, hF⟩ : ∃ F, F = l.take 200 := ⟨_, rfl⟩
  have lF : F.length ≤ 200 := by rw [hF, List.length_take]; omega
  rw [← hF] at ho1
  clear hF
  obtain ⟨A1, c1, rfl, r1⟩ := own_reads1 ho1
  clear ho1
  go_wp2_with fail
  refine (wSeal_any key A1 _ c1 F w1 hkey r1 (by omega)).mono ?_
  rintro - w2 ⟨v2, rfl, ho2, b2⟩
  obtain ⟨N, hN⟩ : ∃ N, N = (sealL key F).length := ⟨_, rfl⟩
  rw [← hN] at ho2
  have lN : 8 ≤ N ∧ N ≤ 208 := by rw [hN, sealL_length]; omega
  obtain ⟨x2, c2, cs2, rfl, g2, k2, nc2, -, m2⟩ := own_open ho2 (by omega)
  have b02 := below_next b1 b2
  have HN := Lib.hid hN
  have HM := Lib.hid m2
  clear ho2 r1 hN m2
  have n0 : ¬ (N : Int) < 8 := by omega
  go_wp2_with fail
  refine (around_any at_ N w2 hat.1 hat.2 (by omega) (by omega)).mono ?_
  rintro - w3 ⟨rfl, rfl⟩
  obtain ⟨a1, a2⟩ := around_lt at_ N (by omega)
  obtain ⟨j, hj⟩ := Int.eq_ofNat_of_zero_le a1
  rw [hj] at a2 ⊢
  clear hj a1
  obtain ⟨y, hy⟩ : ∃ y, (sealL key F)[j]? = some y := ⟨_, List.getElem?_eq_getElem (by have := HN.out; omega)⟩
  have cy : w3.cell? ⟨x2, j, none⟩ = some (.int .u8 (y.toNat : Int)) := k2.at_ (HM.out j _ (by rw [bytesV_get, hy]; rfl))
  have fy := k2.frozen j
  have yl := y.toNat_lt
  obtain ⟨D, Z, ew, ex, xl, xn⟩ := bend_ints hd (show y.toNat < 256 by omega)
  generalize hy1 : (y.toNat : Int) = Y at ex cy
  have HY := Lib.hid hy1
  have HE := Lib.hid hy
  clear hy1 yl ew hy
  go_wp2_with fail
  have r4 := bent_reads k2 HN.out.symm HM.out (byt Z) (j := j) (z := (Z : Int)) (by rw [byt_toNat xl])
  have o4 := bent_no hkey F HE.out xl xn
  have b4 := b02.setCell (p := ⟨x2, j, none⟩) (Nat.le_trans b1.size g2) (.int .u8 (Z : Int))
  generalize w3.setCell ⟨x2, j, none⟩ (.int .u8 (Z : Int)) = w4 at *
  refine (wOpen_any key _ N c2 _ w4 hkey r4 (by omega) nc2).mono ?_
  rintro - w5 ⟨⟨v5, rfl, -⟩, b5⟩
  rw [o4, show retO v5 (.error 9) = .tuple #[.slice none 0 0, .int .i64 9] from rfl]
  have b05 := below_next b4 b5
  clear r4 o4 b4 b02 b5 k2 HM HE cy fy ex xl xn b1 b2
  go_wp2_with fail
  refine (new_any 3 key w5 (by omega) (by omega)).mono ?_
  rintro - w6 ⟨g, h, rfl, H6, lg, lh, b6⟩
  have b06 := below_next b05 b6
  have H6 : EndAt w6 g none h 0 { newE 3 key with forg := 0 } := H6
  have sg := b05.size
  have lgl := H6.lt
  clear b05 b6
  go_wp2_with fail
  refine (few_any A n c 20 l w6 ((hl.below b06).more b06.size) hnc (by unfold maxLen; omega) (by omega)).mono ?_
  rintro - w7 ⟨v7, rfl, ho7, b7⟩
  obtain ⟨G, hG⟩ : ∃ G, G = l.take 20 := ⟨_, rfl⟩
  have lG : G.length ≤ 20 := by rw [hG, List.length_take]; omega
  rw [← hG] at ho7
  have HG := Lib.hid hG
  clear hG
  obtain ⟨A7, c7, rfl, r7⟩ := own_reads1 ho7
  clear ho7
  go_wp2_with fail
  refine (rPkt_any 1 0 A7 _ c7 G w7 (by unfold I64; omega) (by unfold I64; omega) r7 (by omega)).mono ?_
  rintro - w8 ⟨v8, rfl, ho8, b8⟩
  have lP := pktB_le 1 0 G (by unfold I64; omega) (by unfold I64; omega) (by omega)
  obtain ⟨A8, c8, rfl, r8⟩ := own_reads1 ho8
  clear ho8 r7
  go_wp2_with fail
  refine (rSeal_any key A8 _ c8 _ w8 hkey r8 (by omega)).mono ?_
  rintro - w9 ⟨v9, rfl, ho9, b9⟩
  obtain ⟨M, hM⟩ : ∃ M, M = (sealL key (pktB 1 0 G)).length := ⟨_, rfl⟩
  rw [← hM] at ho9
  have lM : 8 ≤ M ∧ M ≤ 100 := by rw [hM, sealL_length]; omega
  have b69 := below_next (below_next b7 b8) b9
  have s9 := b9.size
  have s69 := (below_next b7 b8).size
  obtain ⟨x9, c9, cs9, rfl, g9, k9, nc9, -, m9⟩ := own_open ho9 (by omega)
  have r9 : Reads w9 w9.heap.size 1 (some ⟨x9, 0, none⟩) M (bytesV (sealL key (pktB 1 0 G))) := Reads.of_own ho9
  have HMM := Lib.hid hM
  have Hm9 := Lib.hid m9
  clear ho9 r8 hM m9 b7 b8 b9 lP
  go_wp2_with fail
  refine (few_any (some ⟨x9, 0, none⟩) M c9 M _ w9 r9 nc9 (by unfold maxLen; omega) (by omega)).mono ?_
  rintro - w10 ⟨v10, rfl, ho10, b10⟩
  have e10 : (sealL key (pktB 1 0 G)).take M = sealL key (pktB 1 0 G) := by rw [HMM.out]; exact List.take_length
  rw [e10, ← HMM.out] at ho10
  obtain ⟨x10, c10, cs10, rfl, g10, k10, nc10, -, m10⟩ := own_open ho10 (by omega)
  have Hm10 := Lib.hid m10
  clear ho10 e10 m10
  go_wp2_with fail
  refine (around_any at_ M w10 hat.1 hat.2 (by omega) (by omega)).mono ?_
  rintro - w11 ⟨rfl, rfl⟩
  obtain ⟨a3, a4⟩ := around_lt at_ M (by omega)
  obtain ⟨t, ht⟩ := Int.eq_ofNat_of_zero_le a3
  rw [ht] at a4 ⊢
  clear ht a3
  obtain ⟨u, hu⟩ : ∃ u, (sealL key (pktB 1 0 G))[t]? = some u := ⟨_, List.getElem?_eq_getElem (by have := HMM.out; omega)⟩
  have cu : w11.cell? ⟨x10, t, none⟩ = some (.int .u8 (u.toNat : Int)) := k10.at_ (Hm10.out t _ (by rw [bytesV_get, hu]; rfl))
  have fu := k10.frozen t
  have ul := u.toNat_lt
  obtain ⟨D2, Z2, ew2, ex2, xl2, xn2⟩ := bend_ints hd (show u.toNat < 256 by omega)
  generalize hu1 : (u.toNat : Int) = U at ex2 cu
  have HU := Lib.hid hu
  clear hu1 ul ew2 hu
  go_wp2_with fail
  have r12 := bent_reads k10 HMM.out.symm Hm10.out (byt Z2) (j := t) (z := (Z2 : Int)) (by rw [byt_toNat xl2])
  have o12 := bent_no hkey (pktB 1 0 G) HU.out xl2 xn2
  have f12 : Below w6.heap.size w6 (w11.setCell ⟨x10, t, none⟩ (.int .u8 (Z2 : Int))) := (below_next b69 b10).setCell (p := ⟨x10, t, none⟩) (Nat.le_trans s69 (Nat.le_trans s9 g10)) (.int .u8 (Z2 : Int))
  have k9' : Blk (w11.setCell ⟨x10, t, none⟩ (.int .u8 (Z2 : Int))) x9 5 cs9 := (k9.thru b10).far (p := ⟨x10, t, none⟩) (by have := k9.lt; show x9 ≠ x10; omega) _
  generalize w11.setCell ⟨x10, t, none⟩ (.int .u8 (Z2 : Int)) = w12 at *
  have H12 := H6.bel f12
  have G12 : Good { newE 3 key with forg := 0 } 10 := good_new 3 key hkey (by omega) (by omega) 10
  clear k9 k10 fu cu ex2 HU Hm10 xl2 xn2 b10 b69
  refine (in_any g h 0 none { newE 3 key with forg := 0 } (some ⟨x10, 0, none⟩) M c10 _ w12 H12 r12 (by omega) nc10 G12.key (by have := G12.ack; omega) (by have := G12.got; omega) (by have := G12.forg; omega) (by have := G12.ack; omega) (by omega) G12.keys).mono ?_
  rintro - w13 ⟨v13, vs13, rfl, ho13, hr13, H13, F13⟩
  rw [in_bent o12] at hr13 H13 ⊢
  obtain rfl : vs13 = [] := List.length_eq_zero_iff.1 hr13.1
  obtain ⟨A13, c13, rfl, -⟩ := own_slice (n := 0) ho13
  have k13 := k9'.fr F13 (fun hm => by simp at hm; have h1 := k9'.lt; have h2 := H6.lt g (by simp); have h3 := H6.lt h (by simp); omega)
  clear ho13 hr13 r12 o12 H12
  go_wp2_with fail
  have H13' : EndAt w13 g none h 1 { newE 3 key with forg := 1 } := H13
  have G13 : Good { newE 3 key with forg := 1 } 10 := ⟨hkey, by show 1 ≤ 3; omega, by show 3 ≤ 16; omega, Nat.zero_le _, Nat.zero_le _, by show 1 ≤ 10; omega, fun l hl => (by cases hl), fun k l hk => (by cases hk)⟩
  have s12 := f12.size
  have bb13 : Below w.heap.size w w13 := (b06.trans (f12.mono b06.size)).trans (F13.belowB (Nat.le_trans b06.size s12) (fun i hi => by simp at hi; rcases hi with rfl | rfl <;> omega))
  clear H13 H6 b06 f12 F13 k9' G12
  refine (out_any g h 1 none { newE 3 key with forg := 1 } w13 H13' (by have := G13.ack; omega) (by have := G13.got; omega) G13.key G13.win0 G13.win G13.msgs (by have := G13.ack; omega)).mono ?_
  rintro - w14 ⟨v14, vs14, rfl, ho14, hr14, H14, F14⟩
  rw [e_noout] at hr14
  obtain rfl : vs14 = [] := List.length_eq_zero_iff.1 hr14.1
  obtain ⟨A14, c14, rfl, -⟩ := own_slice (n := 0) ho14
  have H14' : EndAt w14 g none h 1 { newE 3 key with forg := 1 } := H14
  have k14 := k13.fr F14 (fun hm => by simp at hm; have h2 := lgl g (by simp); omega)
  have bb14 := bb13.trans (F14.belowB bb13.size (fun i hi => by simp at hi; omega))
  clear ho14 hr14 H14 H13' F14 k13 bb13
  go_wp2_with fail
  have r14 : Reads w14 w14.heap.size 1 (some ⟨x9, 0, none⟩) M (bytesV (sealL key (pktB 1 0 G))) :=
    ⟨by rw [bytesV_length, ← HMM.out]; omega, fun _ => ⟨_, rfl, k14.lt, fun i u hu => by rw [addr_add0]; exact k14.at_ (Hm9.out i u hu)⟩⟩
  obtain ⟨E2, hE2, hf2⟩ := in_pkt 3 key 1 G (by omega) { newE 3 key with forg := 1 } rfl
  refine (in_any g h 1 none { newE 3 key with forg := 1 } (some ⟨x9, 0, none⟩) M c9 _ w14 H14' r14 (by omega) nc9 G13.key (Nat.zero_le 1000000) (Nat.zero_le 1000000) (show 1 ≤ 1000000 by omega) (Nat.zero_le 1000) (by omega) G13.keys).mono ?_
  rintro - w15 ⟨v15, vs15, rfl, ho15, hr15, H15, F15⟩
  rw [hE2] at hr15 H15 ⊢
  obtain ⟨b15, c15, rfl, lo15, hi15, M15⟩ := got_slice ho15 hr15 (n := 1) rfl (by omega)
  obtain ⟨Ay, ny, dy, Y0⟩ := M15 0 (by show 0 < 1; omega)
  have Y0 : Msg w15 b15 0 Ay ny dy G := Y0
  have bb15 := bb14.trans (F15.belowB bb14.size (fun i hi => by simp at hi; omega))
  have HF2 := Lib.hid hf2
  clear ho15 hr15 M15 hE2 r14 H14' G13 F15 k14 bb14 Hm9 hf2
  go_wp2_with fail
  have lny : G.length = ny := Y0.byt.1
  have hcell : ∀ W, Ok w15 W → W.cell? ⟨b15, 0, none⟩ = some (.slice Ay ny dy) := fun W hW => (Y0.ok hW).cell
  have hfg : ∀ W, Ok w15 W → Calls Try.prog 22 #[.pointer (some ⟨g, 0, none⟩)] W fun e W' => e = .returned (.int .i64 1) ∧ W' = W := fun W hW => by
    have h1 := forged_any g h (1 + 1) none E2 W (H15.bel hW)
    rw [HF2.out] at h1
    exact h1
  have hpw : Per w15 A n l := fun W hW => (hl.below (bb15.trans (Below.mono hW bb15.size))).more (Nat.le_trans bb15.size hW.size)
  have hfw : ∀ W, Ok w15 W → Calls Try.prog 16 #[.slice A n c, .int .i64 20] W fun e W' => ∃ A2 c2, Hid (Per W' A2 G.length G) ∧ e = .returned (.slice A2 G.length c2) ∧ Ok w15 W' := fun W hW => (few_any A n c 20 l W (hpw W hW) hnc (by unfold maxLen; omega) (by omega)).mono fun e W' h1 => by
    obtain ⟨v, he, ho, hb⟩ := h1
    rw [← HG.out] at ho
    obtain ⟨A2, c2, rfl, hr⟩ := own_reads1 ho
    exact ⟨A2, c2, Lib.hid fun W2 hW2 => (hr.below hW2).more hW2.size, he, Ok.step hW hb⟩
  have hsm : ∀ W2 W3 A2 c2, Hid (Per W2 A2 G.length G) → Ok w15 W3 → Ok W2 W3 → Calls Try.prog 29 #[.slice Ay ny dy, .slice A2 G.length c2] W3 fun e W' => e = .returned (.bool true) ∧ Ok w15 W' := fun W2 W3 A2 c2 hp h3 h23 => (same_any Ay A2 ny G.length dy c2 G G W3.heap.size W3 (Y0.ok h3).byt.reads (hp.out W3 h23) (by omega) (by omega)).mono fun e W' h1 => by
    obtain ⟨he, hd⟩ := h1
    exact ⟨by rw [he, decide_eq_true rfl], Ok.step h3 (hd.below _)⟩
  have hlv : ∀ W, Ok w15 W → Calls Try.prog 23 #[] W fun e W' => e = .returned (.bool true) ∧ Ok w15 W' := fun W hW => (lives_any W).mono fun e W' h1 => ⟨h1.1, Ok.step hW h1.2⟩
  have HC := Lib.hid hcell
  have HFG := Lib.hid hfg
  have HFW := Lib.hid hfw
  have HSM := Lib.hid hsm
  have HLV := Lib.hid hlv
  have HBB := Lib.hid bb15
  have c0 := hcell w15 (Ok.refl _)
  have okw := Ok.refl w15
  clear hcell hfg hpw hfw hsm hlv bb15 H15 Y0 lo15 hi15 HN HMM HF2 lny s12 s9 s69 lgl H6 lg lh sg HG lG lM lN n0 a2 a4 hl r9
  go_region_held3 (fun W => W.cell? ⟨b15, 0, none⟩ = some (.slice Ay ny dy))
    (first | (refine HC.out _ ?_; (repeat (first | with_reducible assumption | with_reducible exact Ok.refl _ | with_reducible apply Ok.drew | with_reducible apply Ok.alloc | with_reducible apply Ok.drewN)); done))
    (first
      | (go_at_call 22; (refine (HFG.out _ ?_).mono ?_); (focus ((repeat (first | with_reducible assumption | with_reducible exact Ok.refl _ | with_reducible apply Ok.drew | with_reducible apply Ok.alloc | with_reducible apply Ok.drewN)); done)); (rintro E w20 ⟨rfl, rfl⟩))
      | (go_at_call 16; (refine (HFW.out _ ?_).mono ?_); (focus ((repeat (first | with_reducible assumption | with_reducible exact Ok.refl _ | with_reducible apply Ok.drew | with_reducible apply Ok.alloc | with_reducible apply Ok.drewN)); done)); (rintro E w21 ⟨A21, c21, HL21, rfl, ok21⟩))
      | (go_at_call 29; (refine (HSM.out _ _ _ _ HL21 ?_ ?_).mono ?_); (focus ((repeat (first | with_reducible assumption | with_reducible exact Ok.refl _ | with_reducible apply Ok.drew | with_reducible apply Ok.alloc | with_reducible apply Ok.drewN)); done)); (focus ((repeat (first | with_reducible assumption | with_reducible exact Ok.refl _ | with_reducible apply Ok.drew | with_reducible apply Ok.alloc | with_reducible apply Ok.drewN)); done)); (rintro E w22 ⟨rfl, ok22⟩))
      | (go_at_call 23; (refine (HLV.out _ ?_).mono ?_); (focus ((repeat (first | with_reducible assumption | with_reducible exact Ok.refl _ | with_reducible apply Ok.drew | with_reducible apply Ok.alloc | with_reducible apply Ok.drewN)); done)); (rintro E w23 ⟨rfl, ok23⟩)))
  go_wp2_with fail
  go_ret
  exact ⟨rfl, HBB.out.trans (Below.mono ok23 HBB.out.size)⟩
end Go.Proofs.Ytbekkndkdfmijaa
