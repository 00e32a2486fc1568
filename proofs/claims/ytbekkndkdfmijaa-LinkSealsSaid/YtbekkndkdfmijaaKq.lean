/- LinkSeals: the walk (function 4). No condition. -/
import Derived.Test.YtbekkndkdfmijaaKp
set_option linter.unusedSimpArgs false
set_option linter.unusedVariables false
namespace Go.Proofs.Ytbekkndkdfmijaa
open Go.RowKit Go

theorem Ok.fin {w W W' : World} (h : Ok w W) (k : Below w.heap.size W W') : Ok w W' := Below.trans h k
theorem per_one {W : World} {g d : Nat} (h : Blk W g 5 #[.int .u8 (d : Int)]) (hd : d < 256) : Per W (some ⟨g, 0, none⟩) 1 [byt d] := per_of ⟨rfl, fun _ => ⟨_, rfl, h.lt, fun j u hu => by
    rw [addr_add0]
    refine h.at_ ?_
    cases j with
    | zero => rw [← hu]; show _ = some (Value.int .u8 ((byt d).toNat : Int)); rw [byt_toNat hd]; rfl
    | succ j => simp [bytesV] at hu⟩⟩
theorem open_sealed {k : Nat} (l : List UInt8) : openL k (sealL k l) = .ok l := open_seal k l
set_option maxRecDepth 100000 in
set_option maxHeartbeats 16000000 in
theorem linkSeals_any (kz oz : Int) (A : Option Addr) (n c : Nat) (l : List UInt8) (at_ cz : Int) (w : World) (hk : (Lit.int .u64 kz).wf = true) (hko : (Lit.int .u64 oz).wf = true) (hnc : n ≤ c) (hn : n ≤ 140737488351232) (hl : Reads w w.heap.size 1 A n (bytesV l)) (hat : I64 at_) (hc : (Lit.int .u8 cz).wf = true) :
    Calls Try.prog 4 #[.int .u64 kz, .int .u64 oz, .slice A n c, .int .i64 at_, .int .u8 cz] w fun e W' => e = .returned (.bool true) ∧ Below w.heap.size w W' := by
  have bk := bounds_u64 hk
  have bo := bounds_u64 hko
  have bc := bounds_u8 hc
  obtain ⟨key, rfl⟩ := Int.eq_ofNat_of_zero_le bk.1
  obtain ⟨oth, rfl⟩ := Int.eq_ofNat_of_zero_le bo.1
  obtain ⟨d, rfl⟩ := Int.eq_ofNat_of_zero_le bc.1
  have hkey : key < 18446744073709551616 := by omega
  have hoth : oth < 18446744073709551616 := by omega
  have hd : d < 256 := by omega
  clear hk hko hc bk bo bc
  go_enter Try.func4, Try.ntmps4
  go_wp2_with fail
  refine (few_any A n c 60 l w hl hnc (by unfold maxLen; omega) (by omega)).mono ?_
  rintro - w1 ⟨v1, rfl, ho1, b1⟩
  obtain ⟨G, hG⟩ : ∃ G, G = l.take 60 := ⟨_, rfl⟩
  have lG : G.length ≤ 60 := by rw [hG, List.length_take]; omega
  rw [← hG] at ho1
  clear hG
  obtain ⟨L, hL⟩ : ∃ L, L = G.length := ⟨_, rfl⟩
  rw [← hL] at ho1 lG
  obtain ⟨A1, c1, rfl, nc1, -, -⟩ := own_slice ho1
  have r1 := Reads.of_own ho1
  have p1 := per_of r1
  have HLG := Lib.hid hL
  clear ho1 hL
  go_wp2_with fail
  refine (wSeal_any key A1 L c1 G w1 hkey r1 (by omega)).mono ?_
  rintro - w2 ⟨v2, rfl, ho2, b2⟩
  rw [sealL_length, ← HLG.out] at ho2
  obtain ⟨x2, c2, cs2, rfl, g2, k2, nc2, -, -⟩ := own_open ho2 (by omega)
  have r2 := Reads.of_own ho2
  have p2 := per_of r2
  have b02 := below_next b1 b2
  clear ho2 r1
  go_wp2_with fail
  refine (wOpen_any key _ (L + 8) c2 _ w2 hkey r2 (by omega) nc2).mono ?_
  rintro - w3 ⟨⟨v3, rfl, ho3⟩, b3⟩
  have ho3 := ho3 _ (open_sealed G)
  rw [open_sealed, show retO v3 (.ok G) = .tuple #[v3, .int .i64 0] from rfl]
  rw [← HLG.out] at ho3
  obtain ⟨A3, c3, rfl, nc3, -, -⟩ := own_slice ho3
  have p3 := per_of (Reads.of_own ho3)
  have P1 := Lib.hid (show Per w3 A1 L G from fun W hW => p1 W ((Ok.step b2 b3).step (Below.mono hW (Nat.le_refl _))))
  have P2 := Lib.hid (show Per w3 (some ⟨x2, 0, none⟩) (L + 8) (sealL key G) from fun W hW => p2 W (Ok.step b3 (Below.mono hW (Nat.le_refl _))))
  have P3 := Lib.hid p3
  have B3 := Lib.hid (below_next b02 b3)
  have X2 := Lib.hid (show w1.heap.size ≤ x2 ∧ x2 < w2.heap.size from ⟨g2, k2.lt⟩)
  clear ho3 r2 p1 p2 p3 b02 b1 b2 b3 k2 g2
  go_wp2_with fail
  have hcv : ∀ W, Ok w3 W → (convert 33 9 (.slice A1 L c1)).run Try.prog W = .ok (.string ⟨G.toArray⟩) W := fun W hW => conv_any (P1.out W hW)
  have hlg : G.length ≤ 100000 := by have := HLG.out; omega
  have HCV := Lib.hid hcv
  have HLL := Lib.hid hlg
  have okw := Ok.refl w3
  have q0 := hcv w3 okw
  have q1 := hcv w3.drew okw.drew
  have i64a : I64 1 := by unfold I64; omega
  have i64b : I64 0 := by unfold I64; omega
  have HI := Lib.hid (And.intro i64a i64b)
  clear hcv hlg i64a i64b
  go_region_held3 (fun W => (convert 33 9 (.slice A1 L c1)).run Try.prog W = .ok (.string ⟨G.toArray⟩) W)
    (first | (refine HCV.out _ ?_; (repeat (first | with_reducible assumption | with_reducible exact Ok.refl _ | with_reducible apply Ok.drew | with_reducible apply Ok.alloc | with_reducible apply Ok.drewN)); done))
    (first
      | (go_at_call 26; (refine (wInts_q 1 0 _ _ HI.out.1 HI.out.2 ?_).mono ?_); (focus ((repeat (first | with_reducible assumption | with_reducible exact Blk.new _ _ _ | (with_reducible refine Blk.new' rfl) | (with_reducible refine Blk.new' ?_; simp; done) | with_reducible apply Blk.alloc | with_reducible apply Blk.drew | (with_reducible apply Blk.thru; rotate_left; with_reducible assumption))); done)); (rintro E w4 ⟨v4, N4, HN4, HP4, rfl, hb4⟩); (have HO4 : Hid (w4.ownsRow w3.heap.size 5 1 v4 N4 (bytesV (encInts [1, 0]))) := Lib.hid (own_le HP4.out (Below.size (show Ok w3 _ from by (repeat (first | with_reducible assumption | with_reducible exact Ok.refl _ | with_reducible apply Ok.drew | with_reducible apply Ok.alloc | with_reducible apply Ok.drewN)))))); (have ok4 : Ok w3 w4 := Ok.step (by (repeat (first | with_reducible assumption | with_reducible exact Ok.refl _ | with_reducible apply Ok.drew | with_reducible apply Ok.alloc | with_reducible apply Ok.drewN))) hb4); (have HB4 : Hid (w3.heap.size ≤ w4.heap.size) := Lib.hid (Below.size ok4)); (have ok44 := Ok.refl w4); (try (have ok54 : Ok w5 w4 := Ok.step (by (repeat (first | with_reducible assumption | with_reducible exact Ok.refl _ | with_reducible apply Ok.drew | with_reducible apply Ok.alloc | with_reducible apply Ok.drewN))) hb4)))
      | (go_at_call 27; (refine (wBytes_q G _ HLL.out).mono ?_); (rintro E w5 ⟨x5, n5, c5, HL5, HN5, rfl, hb5⟩); (have ok5 : Ok w3 w5 := Ok.step (by (repeat (first | with_reducible assumption | with_reducible exact Ok.refl _ | with_reducible apply Ok.drew | with_reducible apply Ok.alloc | with_reducible apply Ok.drewN))) hb5); (have ok55 := Ok.refl w5); (try (have ok45 : Ok w4 w5 := Ok.step (by (repeat (first | with_reducible assumption | with_reducible exact Ok.refl _ | with_reducible apply Ok.drew | with_reducible apply Ok.alloc | with_reducible apply Ok.drewN))) hb5)))
      | (go_at_call 24; (refine (wSeal_any key A6 _ d6 _ _ hkey (HP6.out _ ?_) HS6.out).mono ?_); (focus ((repeat (first | with_reducible assumption | with_reducible exact Ok.refl _ | with_reducible apply Ok.drew | with_reducible apply Ok.alloc | with_reducible apply Ok.drewN)); done)); (rintro E w7 ⟨v7, rfl, ho7, hb7⟩); (have HO7 := Lib.hid ho7); (have ok7 : Ok w3 w7 := Ok.step (by (repeat (first | with_reducible assumption | with_reducible exact Ok.refl _ | with_reducible apply Ok.drew | with_reducible apply Ok.alloc | with_reducible apply Ok.drewN))) hb7); clear ho7)
      | (rw [if_pos (by rfl)]; (refine append_q _ _ HO4 HL5 (Lib.hid (Nat.le_trans HN4.out (by omega))) HN5 HB4 rfl rfl rfl ?_ ?_ ?_); (focus ((repeat (first | with_reducible assumption | with_reducible exact Ok.refl _ | with_reducible apply Ok.drew | with_reducible apply Ok.alloc | with_reducible apply Ok.drewN)); done)); (focus ((repeat (first | with_reducible assumption | with_reducible exact Ok.refl _ | with_reducible apply Ok.drew | with_reducible apply Ok.alloc | with_reducible apply Ok.drewN)); done)); (intro A6 d6 w6 HP6 HD6 hb6 HO6); (have ok6 : Ok w3 w6 := Ok.fin (by (repeat (first | with_reducible assumption | with_reducible exact Ok.refl _ | with_reducible apply Ok.drew | with_reducible apply Ok.alloc | with_reducible apply Ok.drewN))) hb6); (have HS6 : Hid (N4 + n5 ≤ 1000000) := Lib.hid (by have := HN4.out; have := HN5.out; omega))))
  obtain ⟨M, hM⟩ : ∃ M, M = (sealL key (pktB 1 0 G)).length := ⟨_, rfl⟩
  have ho7 : w7.ownsRow w6.heap.size 5 1 v7 M (bytesV (sealL key (pktB 1 0 G))) := by rw [hM]; exact HO7.out
  have lM : M ≤ 200 := by
    have := pktB_le 1 0 G (by unfold I64; omega) (by unfold I64; omega) HLL.out
    have := HLG.out
    rw [hM, sealL_length]
    omega
  obtain ⟨A7, c7, rfl, nc7, -, -⟩ := own_slice ho7
  have P7 := Lib.hid (per_of (Reads.of_own ho7))
  have OK7 := Lib.hid ok7
  clear HO7 ho7 hM HP6 HD6 HS6 HO6 HL5 HN5 HN4 HO4 HP4 HB4 hb6 hb7 ok7 ok6 hb5 ok5 ok55 ok45 hb4 ok4 ok44 HCV q0 q1 okw
  go_wp2_with fail
  refine (new_any 1 key w7 (by omega) (by omega)).mono ?_
  rintro - w8 ⟨g, h, rfl, H8, lg, lh, b8⟩
  have H8 : EndAt w8 g none h 0 { newE 1 key with forg := 0 } := H8
  have lgl := H8.lt
  have G8 : Good { newE 1 key with forg := 0 } 10 := good_new 1 key hkey (by omega) (by omega) 10
  have r8 := P7.out w8 b8
  have OK8 := Lib.hid (Ok.step OK7.out b8)
  go_wp2_with fail
  obtain ⟨E2, hE2, -⟩ := in_pkt 1 key 0 G (by have := HLG.out; omega) { newE 1 key with forg := 0 } rfl
  refine (in_any g h 0 none { newE 1 key with forg := 0 } A7 M c7 _ w8 H8 r8 (by omega) nc7 G8.key (Nat.zero_le 1000000) (Nat.zero_le 1000000) (Nat.zero_le 1000000) (Nat.zero_le 1000) (by omega) G8.keys).mono ?_
  rintro - w9 ⟨v9, vs9, rfl, ho9, hr9, H9, F9⟩
  rw [hE2] at hr9 H9 ⊢
  obtain ⟨b9, c9, rfl, lo9, hi9, M9⟩ := got_slice ho9 hr9 (n := 1) rfl (by omega)
  obtain ⟨Ay, ny, dy, Y0⟩ := M9 0 (by show 0 < 1; omega)
  have Y0 : Msg w9 b9 0 Ay ny dy G := Y0
  have OK9 := Lib.hid (show Ok w3 w9 from OK8.out.trans (F9.belowB OK8.out.size (fun i hi => by simp at hi; have := OK7.out.size; rcases hi with rfl | rfl <;> omega)))
  have cY := Y0.cell
  have HY := Lib.hid Y0
  have eny : ny = L := by have := Y0.byt.1; have := HLG.out; omega
  subst eny
  have wL : IntKind.i64.wrap ((ny : Int) + 8) = (ny : Int) + 8 := by rw [IntKind.wrap_i64]; omega
  clear Y0 ho9 hr9 M9 hE2 r8 H8 G8 F9 b8 H9 P7 OK8 OK7 lgl lg lh
  go_wp2_with fail
  refine (same_any Ay A1 ny ny dy c1 G G w9.heap.size w9 HY.out.byt.reads (P1.out w9 OK9.out) (by omega) (by omega)).mono ?_
  rintro - w10 ⟨rfl, hd10⟩
  rw [decide_eq_true (rfl : G = G)]
  have OK10 := Lib.hid (Ok.step OK9.out (hd10.below _))
  clear hd10 cY
  go_wp2_with fail
  refine (same_any A3 A1 ny ny c3 c1 G G w10.heap.size w10 (P3.out w10 OK10.out) (P1.out w10 OK10.out) (by omega) (by omega)).mono ?_
  rintro - w11 ⟨rfl, hd11⟩
  rw [decide_eq_true (rfl : G = G)]
  have OK11 := Lib.hid (Ok.step OK10.out (hd11.below _))
  clear hd11
  go_wp2_with fail
  refine (rSeal_any key A1 ny c1 G w11 hkey (P1.out w11 OK11.out) (by omega)).mono ?_
  rintro - w12 ⟨v12, rfl, ho12, b12⟩
  rw [sealL_length, ← HLG.out] at ho12
  obtain ⟨A12, c12, rfl, -, -, -⟩ := own_slice ho12
  have r12 := Reads.of_own ho12
  have OK12 := Lib.hid (Ok.step OK11.out b12)
  clear b12 ho12
  go_wp2_with fail
  refine (same_any (some ⟨x2, 0, none⟩) A12 (ny + 8) (ny + 8) c2 c12 _ _ w12.heap.size w12 (P2.out w12 OK12.out) r12 (by omega) (by omega)).mono ?_
  rintro - w13 ⟨rfl, hd13⟩
  rw [decide_eq_true (rfl : sealL key G = sealL key G)]
  have OK13 := Lib.hid (Ok.step OK12.out (hd13.below _))
  clear hd13 r12
  go_wp2_with fail
  obtain ⟨N, hN⟩ : ∃ N, N = ny + 8 := ⟨_, rfl⟩
  rw [← hN, show (ny : Int) + 8 = (N : Int) by omega]
  obtain ⟨X, hX⟩ : ∃ X, X = sealL key G := ⟨_, rfl⟩
  have lX : X.length = N := by rw [hX, sealL_length, hN, HLG.out]
  rw [← hX, ← hN] at P2
  have lN : 8 ≤ N ∧ N ≤ 68 := by omega
  rw [← hN] at nc2
  have HN := Lib.hid hN
  have HX := Lib.hid hX
  have LX := Lib.hid lX
  clear hN hX lX wL
  refine (few_any (some ⟨x2, 0, none⟩) N c2 N X w13 (P2.out w13 OK13.out) nc2 (by unfold maxLen; omega) (by omega)).mono ?_
  rintro - w14 ⟨v14, rfl, ho14, b14⟩
  rw [List.take_of_length_le (by rw [LX.out]; exact Nat.le_refl _), LX.out] at ho14
  obtain ⟨x14, c14, cs14, rfl, g14, k14, nc14, -, m14⟩ := own_open ho14 (by omega)
  have OK14 := Lib.hid (Ok.step OK13.out b14)
  have M14 := Lib.hid m14
  have z13 := OK13.out.size
  clear b14 ho14 m14
  go_wp2_with fail
  refine (around_any at_ N w14 hat.1 hat.2 (by omega) (by omega)).mono ?_
  rintro - w15 ⟨rfl, rfl⟩
  obtain ⟨a1, a2⟩ := around_lt at_ N (by omega)
  obtain ⟨j, hj⟩ := Int.eq_ofNat_of_zero_le a1
  rw [hj] at a2 ⊢
  clear hj a1
  have fy := k14.frozen j
  obtain ⟨y, hy⟩ : ∃ y, X[j]? = some y := ⟨_, List.getElem?_eq_getElem (by have := LX.out; omega)⟩
  have cy : w15.cell? ⟨x14, j, none⟩ = some (.int .u8 (y.toNat : Int)) := k14.at_ (M14.out j _ (by rw [bytesV_get, hy]; rfl))
  generalize (y.toNat : Int) = Y at cy
  clear hy
  go_upto_region 13 with fail
  have r16 := bent_reads k14 LX.out M14.out (byt d) (j := j) (z := (d : Int)) (by rw [byt_toNat hd])
  have P16 := Lib.hid (per_of r16)
  have OK16 := Lib.hid (show Ok w3 (w15.setCell ⟨x14, j, none⟩ (.int .u8 (d : Int))) from Below.setCell (p := ⟨x14, j, none⟩) OK14.out (Nat.le_trans z13 g14) (.int .u8 (d : Int)))
  have k2' : True := trivial
  generalize w15.setCell ⟨x14, j, none⟩ (.int .u8 (d : Int)) = w16 at *
  clear r16 k14 fy cy M14 g14 k2'
  obtain ⟨K, hK⟩ : ∃ K, N = K + 1 := ⟨N - 1, by omega⟩
  have hK1 : (N : Int) - 1 = (K : Int) := by omega
  have hK2 : (0 : Int) ≤ (K : Int) := by omega
  have hK3 : (K : Int) ≤ (c2 : Int) := by omega
  have hK4 : K ≤ c2 := by omega
  have hK5 : ¬ (K : Int) < 0 := by omega
  have hK6 : IntKind.i64.wrap (K : Int) = (K : Int) := by rw [IntKind.wrap_i64]; omega
  have HK := Lib.hid hK
  have hfw : ∀ W, Ok w16 W → Calls Try.prog 16 #[.slice (some ⟨x2, 0, none⟩) N c2, .int .i64 (N : Int)] W fun e W' => ∃ v, Hid (W'.ownsRow w16.heap.size 5 1 v N (bytesV X)) ∧ e = .returned v ∧ Below W.heap.size W W' ∧ Ok w16 W' := fun W hW => (few_any (some ⟨x2, 0, none⟩) N c2 N X W (P2.out W (OK16.out.step (Below.mono hW (Nat.le_refl _)))) nc2 (by unfold maxLen; omega) (by omega)).mono fun e W' h1 => by
    obtain ⟨v, he, ho, hb⟩ := h1
    rw [List.take_of_length_le (by rw [LX.out]; exact Nat.le_refl _), LX.out] at ho
    exact ⟨v, Lib.hid (own_le ho (Below.size hW)), he, hb, Ok.step hW hb⟩
  have HFW := Lib.hid hfw
  have lN' : N ≤ 1000 := by omega
  have HN1 := Lib.hid lN'
  have okw := Ok.refl w16
  have hT : True := trivial
  clear hK hfw lN'
  go_cut [21] from 117 to 132 (fun v21 wx => ∃ tb A18 d18, v21 = .slice (some ⟨tb, 0, none⟩) 6 6 ∧ Hid (Blk wx tb 33 #[.slice (some ⟨x14, 0, none⟩) N c14, .slice (some ⟨x2, 0, none⟩) K c2, .slice A1 ny c1, .slice (some ⟨x2, 0, none⟩) N c2, .slice none 0 0, .slice A18 (N + 1) d18] ∧ Per wx A18 (N + 1) (X ++ [byt d]) ∧ N + 1 ≤ d18 ∧ Ok w16 wx))
  case first =>
    go_region_held3 (fun _ => True)
      (first | exact hT)
      (first
        | (go_at_call 16; (refine (HFW.out _ ?_).mono ?_); (focus ((repeat (first | with_reducible assumption | with_reducible exact Ok.refl _ | with_reducible apply Ok.drew | with_reducible apply Ok.alloc | with_reducible apply Ok.drewN)); done)); (rintro E w17 ⟨v17, HO17, rfl, hb17, ok17⟩); (have HB17 : Hid (w16.heap.size ≤ w17.heap.size) := Lib.hid (Below.size ok17)); (have ok77 := Ok.refl w17))
        | (rw [if_pos (by rfl)]; (refine append_q _ _ HO17 (Lib.hid (per_one ?_ hd)) HN1 (Lib.hid (by omega : 1 ≤ 100009)) HB17 rfl rfl rfl ?_ (Ok.refl _) ?_); (focus ((repeat (first | with_reducible assumption | with_reducible exact Blk.new _ _ _ | (with_reducible refine Blk.new' rfl) | (with_reducible refine Blk.new' ?_; simp; done) | with_reducible apply Blk.alloc | with_reducible apply Blk.drew | (with_reducible apply Blk.thru; rotate_left; with_reducible assumption))); done)); (focus ((repeat (first | with_reducible assumption | with_reducible exact Ok.refl _ | with_reducible apply Ok.drew | with_reducible apply Ok.alloc | with_reducible apply Ok.drewN)); done)); (intro A18 d18 w18 HP18 HD18 hb18 HO18); (have ok18 : Ok w16 w18 := Ok.fin (by (repeat (first | with_reducible assumption | with_reducible exact Ok.refl _ | with_reducible apply Ok.drew | with_reducible apply Ok.alloc | with_reducible apply Ok.drewN))) hb18)))
    all_goals
      go_wp2_with fail
      go_meet
      exact ⟨_, A18, d18, rfl, Lib.hid ⟨Blk.new _ _ _, fun W hW => HP18.out W (Ok.step (Ok.alloc (Ok.refl _) _) (Below.mono hW (Nat.le_refl _))), HD18.out, Ok.alloc ok18 _⟩⟩
  obtain ⟨tb, A18, d18, rfl, HC⟩ := hcut
  go_wp2_with fail
  have hrow : ∀ i, i < 6 → ∃ (A : Option Addr) (n c : Nat) (T : List UInt8), (∀ W, Ok (wc.alloc (.cells #[.int .u64 (key : Int), .int .u64 (oth : Int)] 22)) W → W.cell? ⟨tb, i, none⟩ = some (.slice A n c)) ∧ Per (wc.alloc (.cells #[.int .u64 (key : Int), .int .u64 (oth : Int)] 22)) A n T ∧ n ≤ 100000 ∧ n ≤ c := fun i hi => by
    obtain ⟨kt, h18, hd18, ok13⟩ := HC.out
    have okc : Ok wc (wc.alloc (.cells #[.int .u64 (key : Int), .int .u64 (oth : Int)] 22)) := Ok.alloc (Ok.refl _) _
    have ok16 := Ok.step ok13 okc
    have ok3 := Ok.step OK16.out ok16
    generalize wc.alloc (.cells #[.int .u64 (key : Int), .int .u64 (oth : Int)] 22) = w19 at *
    have kt := kt.ok okc
    match i, hi with
    | 0, _ => exact ⟨_, _, _, _, fun W hW => (kt.ok hW).at_ rfl, fun W hW => P16.out W (Ok.step ok16 hW), by omega, nc14⟩
    | 1, _ => exact ⟨_, _, _, X.take K, fun W hW => (kt.ok hW).at_ rfl, fun W hW => by
        have h1 := (P2.out W (Ok.step ok3 hW)).take (k := K) (by have := HK.out; omega)
        rw [Nat.mul_one, show (bytesV X).take K = bytesV (X.take K) by simp [bytesV, List.map_take]] at h1
        exact h1, by have := HK.out; omega, hK4⟩
    | 2, _ => exact ⟨_, _, _, _, fun W hW => (kt.ok hW).at_ rfl, fun W hW => P1.out W (Ok.step ok3 hW), by omega, nc1⟩
    | 3, _ => exact ⟨_, _, _, _, fun W hW => (kt.ok hW).at_ rfl, fun W hW => P2.out W (Ok.step ok3 hW), by omega, nc2⟩
    | 4, _ => exact ⟨_, _, _, [], fun W hW => (kt.ok hW).at_ rfl, per_nil _, by omega, by omega⟩
    | 5, _ => exact ⟨_, _, _, _, fun W hW => (kt.ok hW).at_ rfl, fun W hW => h18 W (Ok.step okc hW), by omega, hd18⟩
  have hkeys : ∀ t, t < 2 → ∃ kk : Nat, kk < 18446744073709551616 ∧ ∀ W, Ok (wc.alloc (.cells #[.int .u64 (key : Int), .int .u64 (oth : Int)] 22)) W → W.cell? ⟨wc.heap.size, t, none⟩ = some (.int .u64 (kk : Int)) := fun t ht => by
    have kk := Blk.new wc 22 #[.int .u64 (key : Int), .int .u64 (oth : Int)]
    match t, ht with
    | 0, _ => exact ⟨key, hkey, fun W hW => (kk.ok hW).at_ rfl⟩
    | 1, _ => exact ⟨oth, hoth, fun W hW => (kk.ok hW).at_ rfl⟩
  have okf : Below w.heap.size w (wc.alloc (.cells #[.int .u64 (key : Int), .int .u64 (oth : Int)] 22)) := by
    obtain ⟨-, -, -, ok13⟩ := HC.out
    exact below_next B3.out (Ok.alloc (Ok.step OK16.out ok13) _)
  generalize wc.alloc (.cells #[.int .u64 (key : Int), .int .u64 (oth : Int)] 22) = w19 at *
  generalize wc.heap.size = kb at *
  have HROW := Lib.hid hrow
  have HKEY := Lib.hid hkeys
  have HOKF := Lib.hid okf
  clear hrow hkeys okf HC hK1 hK2 hK3 hK4 hK5 hK6 HK P16 P2 P1 P3 OK16 OK14 OK13 OK12 OK11 OK10 OK9 HFW okw hT HN1
  go_loopw [23] (fun i wr => ∃ j : Nat, j ≤ 6 ∧ i = .int .i64 (j : Int) ∧ Ok w19 wr) (fun i _ => 6 - (intOf i).toNat)
  case atStart => exact ⟨0, by omega, rfl, Ok.refl _⟩
  case round =>
    obtain ⟨i, hi, rfl, hok⟩ := hrel
    by_cases hlt : i < 6
    · have hji : (i : Int) < 6 := by omega
      go_wp2_with fail
      go_loopw [24] (fun t wr => ∃ k : Nat, k ≤ 2 ∧ t = .int .i64 (k : Int) ∧ Ok w19 wr) (fun t _ => 2 - (intOf t).toNat)
      case atStart => exact ⟨0, by omega, rfl, hok⟩
      case round =>
        clear hok
        obtain ⟨t, ht, rfl, hok⟩ := hrel
        by_cases hlt2 : t < 2
        · have hjt : (t : Int) < 2 := by omega
          have hji0 : (0 : Int) ≤ (i : Int) := by omega
          have hjt0 : (0 : Int) ≤ (t : Int) := by omega
          obtain ⟨A', n', c', T, hcell, hper, hn', hnc'⟩ := HROW.out i hlt
          obtain ⟨kk, hkk, hkc⟩ := HKEY.out t hlt2
          have hS : ∀ W, Ok w19 W → W.cell? ⟨kb, t, none⟩ = some (.int .u64 (kk : Int)) ∧ W.cell? ⟨tb, i, none⟩ = some (.slice A' n' c') := fun W hW => ⟨hkc W hW, hcell W hW⟩
          have hlo := Lib.hid (opR_le kk T)
          have hln := Lib.hid (show T.length ≤ 100000 by have := hper.len; omega)
          have HOW := Lib.hid (fun W (hW : Ok w19 W) => wOpen_q kk hper hkk hn' hnc' hW)
          have HOR := Lib.hid (fun W (hW : Ok w19 W) => rOpen_q kk hper hkk hn' hnc' hW)
          have lR := Lib.hid (show (opR kk T).length ≤ 1000000000 from Nat.le_trans hlo.out (Nat.le_trans hln.out (by omega)))
          have HS := Lib.hid hS
          generalize opR kk T = R at *
          generalize opF kk T = Fz at *
          clear hcell hper hkc hS hlo
          have S0 := HS.out wr hok
          have S1 := HS.out wr.drew hok.drew
          go_wp2_with fail
          go_region_held3 (fun W => W.cell? ⟨kb, t, none⟩ = some (.int .u64 (kk : Int)) ∧ W.cell? ⟨tb, i, none⟩ = some (.slice A' n' c'))
            (first | (refine HS.out _ ?_; (repeat (first | with_reducible assumption | with_reducible exact Ok.refl _ | with_reducible apply Ok.drew | with_reducible apply Ok.alloc | with_reducible apply Ok.drewN)); done))
            (first
              | (go_at_call 25; (refine (HOW.out _ ?_).mono ?_); (focus ((repeat (first | with_reducible assumption | with_reducible exact Ok.refl _ | with_reducible apply Ok.drew | with_reducible apply Ok.alloc | with_reducible apply Ok.drewN)); done)); (rintro E w20 ⟨A20, c20, HP20, rfl, hb20, ok20⟩)))
          have S2 := HS.out w20 ok20
          have S3 := HS.out w20.drew (Ok.drew ok20)
          have ok2020 := Ok.refl w20
          go_wp2_with fail
          go_region_held3 (fun W => W.cell? ⟨kb, t, none⟩ = some (.int .u64 (kk : Int)) ∧ W.cell? ⟨tb, i, none⟩ = some (.slice A' n' c'))
            (first | (refine HS.out _ ?_; (repeat (first | with_reducible assumption | with_reducible exact Ok.refl _ | with_reducible apply Ok.drew | with_reducible apply Ok.alloc | with_reducible apply Ok.drewN)); done))
            (first
              | (go_at_call 30; (refine (HOR.out _ ?_).mono ?_); (focus ((repeat (first | with_reducible assumption | with_reducible exact Ok.refl _ | with_reducible apply Ok.drew | with_reducible apply Ok.alloc | with_reducible apply Ok.drewN)); done)); (rintro E w21 ⟨A21, c21, HP21, rfl, hb21, ok21⟩); (have ok2021 : Ok w20 w21 := Ok.step (by (repeat (first | with_reducible assumption | with_reducible exact Ok.refl _ | with_reducible apply Ok.drew | with_reducible apply Ok.alloc | with_reducible apply Ok.drewN))) hb21)))
          go_wp2_with fail
          refine (same_any A20 A21 R.length R.length c20 c21 R R w21.heap.size w21 (HP20.out w21 ok2021) (HP21.out w21 (Ok.refl _)) lR.out lR.out).mono ?_
          rintro - w22 ⟨rfl, hd22⟩
          rw [decide_eq_true (rfl : R = R)]
          have ok22 := Ok.step ok21 (hd22.below _)
          clear hd22 S0 S1 S2 S3 hok
          go_wp2_with fail
          exact ⟨⟨t + 1, by omega, by go_num, ok22⟩, by simp [intOf]; omega⟩
        · obtain rfl : t = 2 := by omega
          have hjt : ¬ ((2 : Nat) : Int) < 2 := by omega
          go_wp2_with fail
          exact ⟨⟨i + 1, by omega, by go_num, hok⟩, by simp [intOf]; omega⟩
    · obtain rfl : i = 6 := by omega
      have hji : ¬ ((6 : Nat) : Int) < 6 := by omega
      go_wp2_with fail
      refine (lives_any wr).mono ?_
      rintro - w30 ⟨rfl, b30⟩
      go_wp2_with fail
      go_ret
      exact ⟨rfl, below_next HOKF.out (Ok.step hok b30)⟩
end Go.Proofs.Ytbekkndkdfmijaa
