/- The batches of the draws of bent splits: two tries, 9801 lanes; what their checks say of the words. Plain; nothing of the program stands here but the specification of its words. -/
import Derived.Test.YtnionejefpnfoaaDoorZe
set_option linter.unusedSimpArgs false
set_option linter.unusedVariables false
namespace Go.Proofs.YtnionejefpnfoaaDoor

/-- sums of powers of 2 ^ w, plain and with their places -/
noncomputable def geoB (w L : Nat) : Nat := Nat.div (Nat.sub (Nat.pow 2 (Nat.mul w L)) 1) (Nat.sub (Nat.pow 2 w) 1)
noncomputable def geoI (w L : Nat) : Nat := Nat.div (Nat.sub (Nat.add 1 (Nat.mul L (Nat.pow 2 (Nat.mul w L)))) (Nat.add (geoB w L) (Nat.pow 2 (Nat.mul w L)))) (Nat.sub (Nat.pow 2 w) 1)
theorem geo_alg {S X c d : Nat} (h : S * c + 1 = X) (hd : d = c + 1) : (S + 1 * X) * c + 1 = X * d := by
  subst hd
  rw [Nat.one_mul, Nat.add_mul, Nat.mul_add, Nat.mul_one]
  omega
theorem geo_rec (w : Nat) : ∀ L, sumP w (fun _ => 1) L * (2 ^ w - 1) + 1 = 2 ^ (w * L)
  | 0 => by
    show 0 * _ + 1 = 2 ^ (w * 0)
    simp
  | L + 1 => by
    have ih := geo_rec w L
    rw [Nat.mul_add, Nat.mul_one, Nat.pow_add]
    refine geo_alg ih ?_
    have := Nat.two_pow_pos w
    omega
theorem geoB_eq {w : Nat} (hw : 0 < w) (L : Nat) : geoB w L = sumP w (fun _ => 1) L := by
  have h := geo_rec w L
  have hp : 1 < 2 ^ w := Nat.one_lt_two_pow (by omega)
  show (2 ^ (w * L) - 1) / (2 ^ w - 1) = _
  rw [show 2 ^ (w * L) - 1 = sumP w (fun _ => 1) L * (2 ^ w - 1) by omega]
  exact Nat.mul_div_cancel _ (by omega)
theorem geoI_alg {I S X c d n : Nat} (h1 : I * c + S + X = 1 + n * X) (hd : d = c + 1) : (I + n * X) * c + (S + 1 * X) + X * d = 1 + (n + 1) * (X * d) := by
  subst hd
  have e1 : (I + n * X) * c = I * c + n * X * c := Nat.add_mul _ _ _
  have e2 : X * (c + 1) = X * c + X := by rw [Nat.mul_add, Nat.mul_one]
  have e3 : (n + 1) * (X * c + X) = n * X * c + n * X + (X * c + X) := by
    rw [Nat.add_mul, Nat.one_mul, Nat.mul_add, Nat.mul_assoc]
  rw [e1, e2, e3, Nat.one_mul]
  generalize n * X * c = z at *
  generalize X * c = y at *
  generalize n * X = u at *
  generalize I * c = v at *
  omega
theorem geoI_rec (w : Nat) : ∀ L, sumP w (fun r => r) L * (2 ^ w - 1) + sumP w (fun _ => 1) L + 2 ^ (w * L) = 1 + L * 2 ^ (w * L)
  | 0 => by
    show 0 * _ + 0 + 2 ^ (w * 0) = 1 + 0 * 2 ^ (w * 0)
    simp
  | L + 1 => by
    have ih := geoI_rec w L
    rw [Nat.mul_add w L 1, Nat.mul_one, Nat.pow_add]
    refine geoI_alg ih ?_
    have := Nat.two_pow_pos w
    omega
theorem geoI_eq {w : Nat} (hw : 0 < w) (L : Nat) : geoI w L = sumP w (fun r => r) L := by
  have h := geoI_rec w L
  have hp : 1 < 2 ^ w := Nat.one_lt_two_pow (by omega)
  show ((1 + L * 2 ^ (w * L)) - (geoB w L + 2 ^ (w * L))) / (2 ^ w - 1) = _
  rw [geoB_eq hw, show (1 + L * 2 ^ (w * L)) - (sumP w (fun _ => 1) L + 2 ^ (w * L)) = sumP w (fun r => r) L * (2 ^ w - 1) by omega]
  exact Nat.mul_div_cancel _ (by omega)
/-- the lanes' numbers: 99 times 99 -/
noncomputable def o99 : Nat := onesL 99
noncomputable def i99 : Nat := iotaL 99
noncomputable def obT : Nat := geoB 6336 99
noncomputable def oiT : Nat := geoI 6336 99
noncomputable def onT : Nat := o99 * obT
noncomputable def mkT : Nat := onT * 4294967295
noncomputable def v1T : Nat := o99 * oiT
noncomputable def v2T : Nat := i99 * obT
noncomputable def VT (k : Nat) : Nat := Nat.rec (motive := fun _ => Nat) 0 (fun k' _ => Nat.rec (motive := fun _ => Nat) v1T (fun _ _ => v2T) k') k
theorem o99_pk : (pkN 99 fun _ => 1) = o99 := (onesL_pk 99).symm
theorem i99_pk : (pkN 99 fun i => i) = i99 := (iotaL_pk 99).symm
theorem obT_eq : sumP (64 * 99) (fun _ => 1) 99 = obT := by
  unfold obT
  rw [show 64 * 99 = 6336 from rfl, geoB_eq (by decide)]
theorem oiT_eq : sumP (64 * 99) (fun r => r) 99 = oiT := by
  unfold oiT
  rw [show 64 * 99 = 6336 from rfl, geoI_eq (by decide)]
theorem onT_pk : onT = pkN 9801 fun _ => 1 := by
  unfold onT
  rw [show 9801 = 99 * 99 from rfl]
  exact (blk_eq o99_pk obT_eq (fun _ => rfl)).symm
theorem mkT_pk : mkT = pkN 9801 fun _ => 4294967295 := by
  unfold mkT
  rw [onT_pk, pkN_mul]
theorem v1T_pk : v1T = pkN 9801 fun i => i / 99 := by
  unfold v1T
  rw [show 9801 = 99 * 99 from rfl]
  exact (blk_eq o99_pk oiT_eq (fun _ => Nat.mul_one _)).symm
theorem v2T_pk : v2T = pkN 9801 fun i => i % 99 := by
  unfold v2T
  rw [show 9801 = 99 * 99 from rfl]
  exact (blk_eq i99_pk obT_eq (fun _ => Nat.one_mul _)).symm
theorem VT_pk (k : Nat) : VT k = pkN 9801 (vv k) :=
  match k with
  | 0 => (pkN_zero 9801).symm
  | 1 => v1T_pk
  | _ + 2 => v2T_pk
/-- THE ROUND CONSTANTS, each by way of a number of a size of its own: such small numbers stay in memory among the great ones, and so what is freed around them stays with the process -/
noncomputable def KP : List Nat := [Nat.shiftRight (Nat.shiftLeft 1116352408 64) 64, Nat.shiftRight (Nat.shiftLeft 1899447441 192) 192, Nat.shiftRight (Nat.shiftLeft 3049323471 320) 320, Nat.shiftRight (Nat.shiftLeft 3921009573 448) 448, Nat.shiftRight (Nat.shiftLeft 961987163 576) 576, Nat.shiftRight (Nat.shiftLeft 1508970993 704) 704, Nat.shiftRight (Nat.shiftLeft 2453635748 832) 832, Nat.shiftRight (Nat.shiftLeft 2870763221 960) 960, Nat.shiftRight (Nat.shiftLeft 3624381080 1088) 1088, Nat.shiftRight (Nat.shiftLeft 310598401 1216) 1216, Nat.shiftRight (Nat.shiftLeft 607225278 1344) 1344, Nat.shiftRight (Nat.shiftLeft 1426881987 1472) 1472, Nat.shiftRight (Nat.shiftLeft 1925078388 1600) 1600, Nat.shiftRight (Nat.shiftLeft 2162078206 1728) 1728, Nat.shiftRight (Nat.shiftLeft 2614888103 1856) 1856, Nat.shiftRight (Nat.shiftLeft 3248222580 1984) 1984, Nat.shiftRight (Nat.shiftLeft 3835390401 2112) 2112, Nat.shiftRight (Nat.shiftLeft 4022224774 2240) 2240, Nat.shiftRight (Nat.shiftLeft 264347078 2368) 2368, Nat.shiftRight (Nat.shiftLeft 604807628 2496) 2496, Nat.shiftRight (Nat.shiftLeft 770255983 2624) 2624, Nat.shiftRight (Nat.shiftLeft 1249150122 2752) 2752, Nat.shiftRight (Nat.shiftLeft 1555081692 2880) 2880, Nat.shiftRight (Nat.shiftLeft 1996064986 3008) 3008, Nat.shiftRight (Nat.shiftLeft 2554220882 3136) 3136, Nat.shiftRight (Nat.shiftLeft 2821834349 3264) 3264, Nat.shiftRight (Nat.shiftLeft 2952996808 3392) 3392, Nat.shiftRight (Nat.shiftLeft 3210313671 3520) 3520, Nat.shiftRight (Nat.shiftLeft 3336571891 3648) 3648, Nat.shiftRight (Nat.shiftLeft 3584528711 3776) 3776, Nat.shiftRight (Nat.shiftLeft 113926993 3904) 3904, Nat.shiftRight (Nat.shiftLeft 338241895 4032) 4032, Nat.shiftRight (Nat.shiftLeft 666307205 4160) 4160, Nat.shiftRight (Nat.shiftLeft 773529912 4288) 4288, Nat.shiftRight (Nat.shiftLeft 1294757372 4416) 4416, Nat.shiftRight (Nat.shiftLeft 1396182291 4544) 4544, Nat.shiftRight (Nat.shiftLeft 1695183700 4672) 4672, Nat.shiftRight (Nat.shiftLeft 1986661051 4800) 4800, Nat.shiftRight (Nat.shiftLeft 2177026350 4928) 4928, Nat.shiftRight (Nat.shiftLeft 2456956037 5056) 5056, Nat.shiftRight (Nat.shiftLeft 2730485921 5184) 5184, Nat.shiftRight (Nat.shiftLeft 2820302411 5312) 5312, Nat.shiftRight (Nat.shiftLeft 3259730800 5440) 5440, Nat.shiftRight (Nat.shiftLeft 3345764771 5568) 5568, Nat.shiftRight (Nat.shiftLeft 3516065817 5696) 5696, Nat.shiftRight (Nat.shiftLeft 3600352804 5824) 5824, Nat.shiftRight (Nat.shiftLeft 4094571909 5952) 5952, Nat.shiftRight (Nat.shiftLeft 275423344 6080) 6080, Nat.shiftRight (Nat.shiftLeft 430227734 6208) 6208, Nat.shiftRight (Nat.shiftLeft 506948616 6336) 6336, Nat.shiftRight (Nat.shiftLeft 659060556 6464) 6464, Nat.shiftRight (Nat.shiftLeft 883997877 6592) 6592, Nat.shiftRight (Nat.shiftLeft 958139571 6720) 6720, Nat.shiftRight (Nat.shiftLeft 1322822218 6848) 6848, Nat.shiftRight (Nat.shiftLeft 1537002063 6976) 6976, Nat.shiftRight (Nat.shiftLeft 1747873779 7104) 7104, Nat.shiftRight (Nat.shiftLeft 1955562222 7232) 7232, Nat.shiftRight (Nat.shiftLeft 2024104815 7360) 7360, Nat.shiftRight (Nat.shiftLeft 2227730452 7488) 7488, Nat.shiftRight (Nat.shiftLeft 2361852424 7616) 7616, Nat.shiftRight (Nat.shiftLeft 2428436474 7744) 7744, Nat.shiftRight (Nat.shiftLeft 2756734187 7872) 7872, Nat.shiftRight (Nat.shiftLeft 3204031479 8000) 8000, Nat.shiftRight (Nat.shiftLeft 3329325298 8128) 8128]
theorem KP_eq : KP = KN := by kernel_rfl
/-- the first words of the hashes, by these constants -/
noncomputable def hashP (one M : Nat) (V : Nat → Nat) (L : List BS) (bits : Nat) : Nat :=
  Nat.land (Nat.add (vA one M KP (Nat.mul one 1779033703) (Nat.mul one 3144134277) (Nat.mul one 1013904242) (Nat.mul one 2773480762) (Nat.mul one 1359893119) (Nat.mul one 2600822924) (Nat.mul one 528734635) (Nat.mul one 1541459225) (Nat.mul one 2265538039)
    (wd one V L) (wd one V (dr4 L)) (wd one V (dr4 (dr4 L))) (wd one V (dr4 (dr4 (dr4 L)))) (wd one V (dr4 (dr4 (dr4 (dr4 L))))) (wd one V (dr4 (dr4 (dr4 (dr4 (dr4 L)))))) (wd one V (dr4 (dr4 (dr4 (dr4 (dr4 (dr4 L))))))) (wd one V (dr4 (dr4 (dr4 (dr4 (dr4 (dr4 (dr4 L)))))))) (wd one V (dr4 (dr4 (dr4 (dr4 (dr4 (dr4 (dr4 (dr4 L))))))))) (wd one V (dr4 (dr4 (dr4 (dr4 (dr4 (dr4 (dr4 (dr4 (dr4 L)))))))))) (wd one V (dr4 (dr4 (dr4 (dr4 (dr4 (dr4 (dr4 (dr4 (dr4 (dr4 L))))))))))) (wd one V (dr4 (dr4 (dr4 (dr4 (dr4 (dr4 (dr4 (dr4 (dr4 (dr4 (dr4 L)))))))))))) (wd one V (dr4 (dr4 (dr4 (dr4 (dr4 (dr4 (dr4 (dr4 (dr4 (dr4 (dr4 (dr4 L))))))))))))) (wd one V (dr4 (dr4 (dr4 (dr4 (dr4 (dr4 (dr4 (dr4 (dr4 (dr4 (dr4 (dr4 (dr4 L)))))))))))))) (wd one V (dr4 (dr4 (dr4 (dr4 (dr4 (dr4 (dr4 (dr4 (dr4 (dr4 (dr4 (dr4 (dr4 (dr4 L))))))))))))))) (Nat.mul one bits)) (Nat.mul one 1779033703)) M
theorem hashP_eq (one M : Nat) (V : Nat → Nat) (L : List BS) (bits : Nat) : hashP one M V L bits = hashA one M V L bits := by
  unfold hashP hashA
  rw [KP_eq]
/-- the message of a try -/
noncomputable abbrev lIT (ps : List BS) (a n t : Nat) : Nat := Nat.add (Nat.add (l1 (Nat.add ps.length 3)) (lPs ps)) (Nat.add (Nat.add (l1 a) (l1 n)) (l1 t))
noncomputable abbrev lMT (sd : List Nat) (ps : List BS) (a n t : Nat) : Nat := Nat.add (Nat.add (Nat.add 1 (l1 sd.length)) sd.length) (Nat.add (l1 (lIT ps a n t)) (lIT ps a n t))
noncomputable abbrev specT (sd : List Nat) (ps : List BS) (a n t : Nat) (r : List BS) : List BS :=
  ⟨8, 0⟩ :: e1 sd.length (sdC sd (e1 (lIT ps a n t) (e1 (Nat.add ps.length 3) (ePs ps (e1 a (e1 n (e1 t r)))))))
section
variable {v : Nat → Nat → Nat} {i : Nat} (h0 : v 0 i = 0)
include h0
theorem specT_map {sd : List Nat} {ps : List BS} {a n t : Nat} {s : ByteArray} (hs : s.data.toList = sd.map byt) (h1 : sd.length < 256) (h2 : ps.length + 3 < 256) (h3 : lIT ps a n t < 256) (ha : a < 256) (hn : n < 256) (ht : t < 256) (hp : ∀ p ∈ ps, p.c ≠ 0 → bsV v i p < 256) (r : List BS) :
    (specT sd ps a n t r).map (bsB v i) = ofM 8 [s, txt (encInts (pathI ps v i ++ [(a : Int), (n : Int)] ++ [(t : Int)]))] ++ r.map (bsB v i) ∧ lMT sd ps a n t = (ofM 8 [s, txt (encInts (pathI ps v i ++ [(a : Int), (n : Int)] ++ [(t : Int)]))]).length := by
  obtain ⟨i1, i2⟩ := ePs_map h0 (e1 a (e1 n (e1 t r))) ps hp
  have hlen : (pathI ps v i ++ [(a : Int), (n : Int)] ++ [(t : Int)]).length = ps.length + 3 := by simp [pathI]
  have hcat : cat (pathI ps v i ++ [(a : Int), (n : Int)] ++ [(t : Int)]) = cat (pathI ps v i) ++ (encInt (a : Int) ++ (encInt (n : Int) ++ encInt (t : Int))) := by simp [cat]
  have hI : encInts (pathI ps v i ++ [(a : Int), (n : Int)] ++ [(t : Int)]) = encInt ((ps.length + 3 : Nat) : Int) ++ (cat (pathI ps v i) ++ (encInt (a : Int) ++ (encInt (n : Int) ++ encInt (t : Int)))) := by
    unfold encInts
    rw [hlen, hcat]
  have hIl : lIT ps a n t = (encInts (pathI ps v i ++ [(a : Int), (n : Int)] ++ [(t : Int)])).length := by
    rw [hI, List.length_append, List.length_append, List.length_append, List.length_append, ← l1_len h2, ← i2, ← l1_len ha, ← l1_len hn, ← l1_len ht]
    show (l1 (ps.length + 3) + lPs ps) + ((l1 a + l1 n) + l1 t) = _
    omega
  have htx : (txt (encInts (pathI ps v i ++ [(a : Int), (n : Int)] ++ [(t : Int)]))).data.toList = encInts (pathI ps v i ++ [(a : Int), (n : Int)] ++ [(t : Int)]) := by unfold txt; simp
  have hM : ofM 8 [s, txt (encInts (pathI ps v i ++ [(a : Int), (n : Int)] ++ [(t : Int)]))] = byt 8 :: (encInt (sd.length : Int) ++ (sd.map byt ++ (encInt ((lIT ps a n t : Nat) : Int) ++ encInts (pathI ps v i ++ [(a : Int), (n : Int)] ++ [(t : Int)])))) := by
    unfold ofM catS
    simp only [List.flatMap_cons, List.flatMap_nil, List.append_nil]
    unfold encBytes
    rw [htx, hs, List.length_map, ← hIl, List.append_assoc]
    rfl
  constructor
  · rw [hM, hI]
    show bsB v i ⟨8, 0⟩ :: (e1 sd.length (sdC sd (e1 (lIT ps a n t) (e1 (ps.length + 3) (ePs ps (e1 a (e1 n (e1 t r)))))))).map (bsB v i) = _
    rw [bs_const h0, e1_map h0 h1, sdC_map h0, e1_map h0 h3, e1_map h0 h2, i1, e1_map h0 ha, e1_map h0 hn, e1_map h0 ht]
    simp
  · rw [hM, List.length_cons, List.length_append, List.length_append, List.length_append, ← hIl, ← l1_len h1, ← l1_len h3, List.length_map]
    show ((1 + l1 sd.length) + sd.length) + (l1 (lIT ps a n t) + lIT ps a n t) = _
    omega
theorem specT_lt {sd : List Nat} {ps : List BS} {a n t : Nat} (hsb : ∀ x ∈ sd, x < 256) (h1 : sd.length < 200) (h2 : ps.length < 200) (h3 : lIT ps a n t < 256) (ha : a < 256) (hn : n < 256) (ht : t < 256) (hp : ∀ p ∈ ps, p.c ≠ 0 → bsV v i p < 256) :
    ∀ y ∈ specT sd ps a n t [⟨128, 0⟩], bsV v i y < 256 := by
  have hc : ∀ c, c < 256 → bsV v i ⟨c, 0⟩ < 256 := fun c hc => by unfold bsV; rw [h0]; omega
  intro y hy
  rcases List.mem_cons.1 hy with rfl | hy
  · exact hc _ (by decide)
  · refine e1_mem h0 (by omega) (sdC_mem h0 (e1_mem h0 h3 (e1_mem h0 (show ps.length + 3 < 256 by omega) (ePs_mem h0 (e1_mem h0 ha (e1_mem h0 hn (e1_mem h0 ht ?_))) ps hp))) sd hsb) y hy
    intro z hz
    rw [List.mem_singleton.1 hz]
    exact hc _ (by decide)
end
/-- the lanes whose try t has a word among the last 2 ^ 24 -/
noncomputable def failT (one M : Nat) (V : Nat → Nat) (sd : List Nat) (ps : List BS) (a n t : Nat) : Nat :=
  Nat.land (Nat.add (hashP one M V (specT sd ps a n t [⟨128, 0⟩]) (Nat.mul 8 (lMT sd ps a n t))) (Nat.mul one 256)) (Nat.mul one 4294967296)
noncomputable def chkT (one M : Nat) (V : Nat → Nat) (sd : List Nat) (a n : Nat) (ps : List BS) : Bool := chk2 (failT one M V sd ps a n 0) (failT one M V sd ps a n 1)
/-- a word of a try is not among the last -/
def GoodT (s : ByteArray) (l : List Int) (t : Nat) : Prop := wordN s l (t : Int) + 16777216 ≤ 281474976710656
def GoodB (s : ByteArray) (l : List Int) : Prop := GoodT s l 0 ∨ GoodT s l 1
section
variable {nl : Nat} {v : Nat → Nat → Nat} {V : Nat → Nat} {one M : Nat} {sd : List Nat} {ps : List BS} {a n : Nat} {s : ByteArray}
theorem failT_eq (hO : one = pkN nl fun _ => 1) (hM : M = pkN nl fun _ => 4294967295) (hV : ∀ k, V k = pkN nl (v k)) (h0 : ∀ i, v 0 i = 0) (hs : s.data.toList = sd.map byt) (hsb : ∀ x ∈ sd, x < 256)
    (h1 : sd.length < 200) (h2 : ps.length < 200) (h34 : ∀ t, t < 2 → lIT ps a n t < 256 ∧ lMT sd ps a n t ≤ 55) (ha : a < 256) (hn : n < 256) (hp : ∀ i, i < nl → ∀ p ∈ ps, p.c ≠ 0 → bsV v i p < 256) : ∀ t, t < 2 →
    failT one M V sd ps a n t = pkN nl fun i => ((shaS (ofM 8 [s, txt (encInts (pathI ps v i ++ [(a : Int), (n : Int)] ++ [(t : Int)]))])).a.toNat + 256) &&& 4294967296 := by
  intro t ht
  obtain ⟨h3, h4⟩ := h34 t ht
  have hsp : ∀ i, i < nl → _ := fun i hi => specT_map (h0 i) hs (by omega) (by omega) h3 ha hn (by omega) (hp i hi) [⟨128, 0⟩]
  have hl : ∀ i, i < nl → (ofM 8 [s, txt (encInts (pathI ps v i ++ [(a : Int), (n : Int)] ++ [(t : Int)]))]).length ≤ 55 := fun i hi => by rw [← (hsp i hi).2]; exact h4
  have key := hashA_eq (n := nl) (v := v) (V := V) hV (L := specT sd ps a n t [⟨128, 0⟩]) (len := lMT sd ps a n t)
    (fun i => ofM 8 [s, txt (encInts (pathI ps v i ++ [(a : Int), (n : Int)] ++ [(t : Int)]))] ++ padB (ofM 8 [s, txt (encInts (pathI ps v i ++ [(a : Int), (n : Int)] ++ [(t : Int)]))]).length) (fun i hi => ?_)
  · have e : hashA one M V (specT sd ps a n t [⟨128, 0⟩]) (Nat.mul 8 (lMT sd ps a n t)) = pkN nl fun i => (shaS (ofM 8 [s, txt (encInts (pathI ps v i ++ [(a : Int), (n : Int)] ++ [(t : Int)]))])).a.toNat := by
      rw [hO, hM]
      refine Eq.trans key (pkN_congr fun i hi => ?_)
      rw [shaS_one _ (hl i hi)]
    unfold failT
    rw [hashP_eq, e, hO]
    show ((pkN nl _ + (pkN nl fun _ => 1) * 256) &&& ((pkN nl fun _ => 1) * 4294967296)) = _
    rw [pkN_mul, pkN_mul, pkN_add, pkN_and (fun j _ => by
      have := (shaS (ofM 8 [s, txt (encInts (pathI ps v j ++ [(a : Int), (n : Int)] ++ [(t : Int)]))])).a.toNat_lt
      omega) (fun _ _ => by decide)]
  · obtain ⟨e1, e2⟩ := hsp i hi
    have hbs : [BS.mk 128 0].map (bsB v i) = [byt 128] := by simp [bs_const (h0 i)]
    rw [hbs] at e1
    refine ⟨fun j hj => ?_, by rw [e2]; exact pad_hi (hl i hi)⟩
    rcases part_nat (ofM 8 [s, txt (encInts (pathI ps v i ++ [(a : Int), (n : Int)] ++ [(t : Int)]))] ++ padB (ofM 8 [s, txt (encInts (pathI ps v i ++ [(a : Int), (n : Int)] ++ [(t : Int)]))]).length) j with e | e
    · rw [e, pad_lo (hl i hi) (by omega), pad_lo (hl i hi) (by omega), pad_lo (hl i hi) (by omega), pad_lo (hl i hi) (by omega), ← e1]
      have hat : ∀ m, (((specT sd ps a n t [⟨128, 0⟩]).map (bsB v i))[m]?.getD 0).toNat = bsV v i (atB (specT sd ps a n t [⟨128, 0⟩]) m) := by
        intro m
        unfold atB
        rw [List.getElem?_map]
        cases hm : (specT sd ps a n t [⟨128, 0⟩])[m]? with
        | none => show (0 : UInt8).toNat = bsV v i ⟨0, 0⟩; unfold bsV; rw [h0]; rfl
        | some x =>
          show (byt (bsV v i x)).toNat = bsV v i x
          exact byt_toNat (specT_lt (h0 i) hsb h1 h2 h3 ha hn (by omega) (hp i hi) x (List.mem_of_getElem? hm))
      rw [hat, hat, hat, hat]
      rfl
    · omega
/-- WHAT THE CHECK SAYS: one of the first two words of each lane is not among the last -/
theorem chkT_sound (hO : one = pkN nl fun _ => 1) (hM : M = pkN nl fun _ => 4294967295) (hV : ∀ k, V k = pkN nl (v k)) (h0 : ∀ i, v 0 i = 0) (hs : s.data.toList = sd.map byt) (hsb : ∀ x ∈ sd, x < 256)
    (h1 : sd.length < 200) (h2 : ps.length < 200) (h34 : ∀ t, t < 2 → lIT ps a n t < 256 ∧ lMT sd ps a n t ≤ 55) (ha : a < 256) (hn : n < 256) (hp : ∀ i, i < nl → ∀ p ∈ ps, p.c ≠ 0 → bsV v i p < 256)
    (h : chkT one M V sd a n ps = true) : ∀ i, i < nl → GoodB s (pathI ps v i ++ [(a : Int), (n : Int)]) := by
  intro i hi
  have bad : ∀ t, t < 2 → ¬ GoodT s (pathI ps v i ++ [(a : Int), (n : Int)]) t → (failT one M V sd ps a n t).testBit (64 * i + 32) = true := by
    intro t ht hb
    rw [failT_eq hO hM hV h0 hs hsb h1 h2 h34 ha hn hp t ht]
    refine fail_bit (g := 8) (f := fun i => (shaS (ofM 8 [s, txt (encInts (pathI ps v i ++ [(a : Int), (n : Int)] ++ [(t : Int)]))])).a.toNat) (fun j _ => UInt32.toNat_lt _) (by decide) hi ?_
    have hw := word_le_of s (pathI ps v i ++ [(a : Int), (n : Int)]) (t : Int)
    unfold GoodT at hb
    generalize (shaS (ofM 8 [s, txt (encInts (pathI ps v i ++ [(a : Int), (n : Int)] ++ [(t : Int)]))])).a.toNat = q at *
    generalize wordN s (pathI ps v i ++ [(a : Int), (n : Int)]) (t : Int) = w at *
    omega
  by_cases g1 : GoodT s (pathI ps v i ++ [(a : Int), (n : Int)]) 0
  · exact Or.inl g1
  refine Or.inr (Classical.byContradiction fun g2 => ?_)
  exact no_both (chk_abs _ _ h) (bad 0 (by decide) g1) (bad 1 (by decide) g2)
end
/-- the checks of a batch, great and small -/
noncomputable def chkC (sd : List Nat) (a n : Nat) (ps : List BS) : Bool := chkT onT mkT VT sd a n ps
noncomputable def chkQ (sd : List Nat) (a n : Nat) (ps : List BS) : Bool := chkT onS mkS VS sd a n ps
def Upto (f : Nat → Bool) (m : Nat) : Prop := ∀ c, c < m → f c = true
theorem upto_zero (f : Nat → Bool) : Upto f 0 := fun c hc => absurd hc (Nat.not_lt_zero c)
theorem upto_step {f : Nat → Bool} {m : Nat} (h : Upto f m) (h1 : f m = true) : Upto f (m + 1) := fun c hc => by
  by_cases e : c = m
  · rw [e]; exact h1
  · exact h c (by omega)
theorem upto_two {f : Nat → Bool} {m : Nat} (h : Upto f m) (h1 : also (f m) (f (Nat.add m 1)) = true) : Upto f (m + 2) :=
  upto_step (upto_step h (also_iff.1 h1).1) (also_iff.1 h1).2
/-- the small batches -/
noncomputable def smallT (sd : List Nat) (a n : Nat) : Bool :=
  also (chkQ sd a n [⟨1, 2⟩, ⟨0, 0⟩, ⟨0, 0⟩]) (also (chkQ sd a n [⟨0, 0⟩, ⟨1, 2⟩, ⟨0, 0⟩]) (also (chkQ sd a n [⟨0, 0⟩, ⟨0, 0⟩, ⟨1, 2⟩]) (also (chkQ sd a n [⟨0, 0⟩, ⟨0, 0⟩, ⟨0, 0⟩])
  (also (chkQ sd a n [⟨1, 2⟩, ⟨0, 0⟩]) (also (chkQ sd a n [⟨0, 0⟩, ⟨1, 2⟩]) (also (chkQ sd a n [⟨0, 0⟩, ⟨0, 0⟩]) (also (chkQ sd a n [⟨1, 2⟩]) (also (chkQ sd a n [⟨0, 0⟩]) (also (chkQ sd a n [])
  (also (chkQ sd a n [⟨0, 0⟩, ⟨0, 0⟩, ⟨0, 0⟩, ⟨0, 0⟩, ⟨0, 0⟩]) (chkQ sd a n [⟨0, 0⟩, ⟨0, 0⟩, ⟨0, 0⟩, ⟨0, 0⟩, ⟨0, 0⟩, ⟨0, 0⟩])))))))))))
/-- ALL BATCHES of a seed and a node -/
structure AllB (sd : List Nat) (a n : Nat) : Prop where
  one : Upto (fun c => chkC sd a n [⟨c, 0⟩, ⟨1, 1⟩, ⟨1, 2⟩]) 100
  a1 : chkC sd a n [⟨1, 1⟩, ⟨0, 0⟩, ⟨1, 2⟩] = true
  b1 : chkC sd a n [⟨1, 1⟩, ⟨1, 2⟩, ⟨0, 0⟩] = true
  c1 : chkC sd a n [⟨1, 1⟩, ⟨1, 2⟩] = true
  small : smallT sd a n = true
theorem vv_lt (k i : Nat) (h : i < 9801) : vv k i < 99 :=
  match k with
  | 0 => by show 0 < 99; omega
  | 1 => by show i / 99 < 99; omega
  | _ + 2 => by show i % 99 < 99; omega
theorem split_y {y : Nat} (h0 : y ≠ 0) (h1 : y < 100) : ∃ k, k = 1 ∧ k ≤ y ∧ y - k < 99 := ⟨1, rfl, by omega, by omega⟩
section
variable {sd : List Nat} {a n : Nat} {s : ByteArray} {ps : List BS}
theorem len_ok (h1 : sd.length ≤ 32) (hl : lPs ps ≤ 6) : ∀ t, t < 2 → lIT ps a n t < 256 ∧ lMT sd ps a n t ≤ 55 := fun t ht => by
  have e1 := l1_le (ps.length + 3)
  have e3 := l1_le a
  have e4 := l1_le n
  have e9 := l1_le t
  have e5 : lIT ps a n t = (l1 (ps.length + 3) + lPs ps) + ((l1 a + l1 n) + l1 t) := rfl
  have e6 := l1_le (lIT ps a n t)
  have e7 := l1_le sd.length
  have e8 : lMT sd ps a n t = ((1 + l1 sd.length) + sd.length) + (l1 (lIT ps a n t) + lIT ps a n t) := rfl
  omega
theorem big_word (hs : s.data.toList = sd.map byt) (hsb : ∀ x ∈ sd, x < 256) (h1 : sd.length ≤ 32) (ha : a < 256) (hn : n < 256) (hl : lPs ps ≤ 6) (hll : ps.length < 200) (hp : ∀ p ∈ ps, p.c < 100)
    (h : chkC sd a n ps = true) : ∀ i, i < 9801 → GoodB s (pathI ps vv i ++ [(a : Int), (n : Int)]) :=
  chkT_sound onT_pk mkT_pk VT_pk (fun _ => rfl) hs hsb (by omega) hll (len_ok h1 hl) ha hn (fun i hi p hp' _ => by
    have := vv_lt p.k i hi
    have := hp p hp'
    unfold bsV
    omega) h
theorem tiny_word (hs : s.data.toList = sd.map byt) (hsb : ∀ x ∈ sd, x < 256) (h1 : sd.length ≤ 32) (ha : a < 256) (hn : n < 256) (hl : lPs ps ≤ 6) (hll : ps.length < 200) (hp : ∀ p ∈ ps, p.c < 100)
    (h : chkQ sd a n ps = true) : ∀ i, i < 99 → GoodB s (pathI ps vv i ++ [(a : Int), (n : Int)]) :=
  chkT_sound oneS_pk.symm mskS_pk.symm VS_pk (fun _ => rfl) hs hsb (by omega) hll (len_ok h1 hl) ha hn (fun i hi p hp' _ => by
    have := vv_lt p.k i (by omega)
    have := hp p hp'
    unfold bsV
    omega) h
/-- EVERY DRAW of a path of at most three numbers from 0 to 99 -/
theorem allB_word (hs : s.data.toList = sd.map byt) (hsb : ∀ x ∈ sd, x < 256) (h1 : sd.length ≤ 32) (ha : a < 256) (hn : n < 256) (ok : AllB sd a n) (p : List Int) (hl : p.length ≤ 3) (hp : ∀ y ∈ p, 0 ≤ y ∧ y < 100) :
    GoodB s (p ++ [(a : Int), (n : Int)]) := by
  have oko := ok.small
  unfold smallT at oko
  simp only [also_iff] at oko
  obtain ⟨o4, o5, o6, o7, o8, o9, o10, o11, o12, o13, -, -⟩ := oko
  have G := fun (ps : List BS) (hl : lPs ps ≤ 6) (hll : ps.length < 200) hp h i hi => big_word (s := s) hs hsb h1 ha hn (ps := ps) hl hll hp h i hi
  have S := fun (ps : List BS) (hl : lPs ps ≤ 6) (hll : ps.length < 200) hp h i hi => tiny_word (s := s) hs hsb h1 ha hn (ps := ps) hl hll hp h i hi
  have nat : ∀ y ∈ p, ∃ z : Nat, y = (z : Int) ∧ z < 100 := fun y hy => ⟨y.toNat, by have := hp y hy; omega, by have := hp y hy; omega⟩
  match p, hl, nat with
  | [], _, _ =>
    exact S [] (by decide) (by simp) (by simp) o13 0 (by omega)
  | [X], _, nat =>
    obtain ⟨x, rfl, hx⟩ := nat X (by simp)
    by_cases x0 : x = 0
    · subst x0
      exact S [⟨0, 0⟩] (by decide) (by simp) (by simp) o12 0 (by omega)
    · have := S [⟨1, 2⟩] (by decide) (by simp) (by simp) o11 (x - 1) (by omega)
      have e : pathI [⟨1, 2⟩] vv (x - 1) = [(x : Int)] := by simp [pathI, bsV, vv]; omega
      rw [e] at this
      exact this
  | [X, Y], _, nat =>
    obtain ⟨x, rfl, hx⟩ := nat X (by simp)
    obtain ⟨y, rfl, hy⟩ := nat Y (by simp)
    by_cases x0 : x = 0
    · subst x0
      by_cases y0 : y = 0
      · subst y0
        exact S [⟨0, 0⟩, ⟨0, 0⟩] (by decide) (by simp) (by simp) o10 0 (by omega)
      · have := S [⟨0, 0⟩, ⟨1, 2⟩] (by decide) (by simp) (by simp) o9 (y - 1) (by omega)
        have e : pathI [⟨0, 0⟩, ⟨1, 2⟩] vv (y - 1) = [((0 : Nat) : Int), (y : Int)] := by simp [pathI, bsV, vv]; omega
        rw [e] at this
        exact this
    · by_cases y0 : y = 0
      · subst y0
        have := S [⟨1, 2⟩, ⟨0, 0⟩] (by decide) (by simp) (by simp) o8 (x - 1) (by omega)
        have e : pathI [⟨1, 2⟩, ⟨0, 0⟩] vv (x - 1) = [(x : Int), ((0 : Nat) : Int)] := by simp [pathI, bsV, vv]; omega
        rw [e] at this
        exact this
      · obtain ⟨k, hk, hk1, hk2⟩ := split_y x0 hx
        have e1 : ((x - k) * 99 + (y - 1)) / 99 = x - k := by omega
        have e2 : ((x - k) * 99 + (y - 1)) % 99 = y - 1 := by omega
        have e : pathI [⟨k, 1⟩, ⟨1, 2⟩] vv ((x - k) * 99 + (y - 1)) = [(x : Int), (y : Int)] := by
          have k0 : ¬ k = 0 := by omega
          simp [pathI, bsV, vv, e1, e2, k0]
          omega
        rw [← e]
        subst hk
        exact G [⟨1, 1⟩, ⟨1, 2⟩] (by decide) (by simp) (by simp) ok.c1 _ (by omega)
  | [X, Y, Z], _, nat =>
    obtain ⟨x, rfl, hx⟩ := nat X (by simp)
    obtain ⟨y, rfl, hy⟩ := nat Y (by simp)
    obtain ⟨z, rfl, hz⟩ := nat Z (by simp)
    by_cases y0 : y = 0
    · subst y0
      by_cases z0 : z = 0
      · subst z0
        by_cases x0 : x = 0
        · subst x0
          exact S [⟨0, 0⟩, ⟨0, 0⟩, ⟨0, 0⟩] (by decide) (by simp) (by simp) o7 0 (by omega)
        · have := S [⟨1, 2⟩, ⟨0, 0⟩, ⟨0, 0⟩] (by decide) (by simp) (by simp) o4 (x - 1) (by omega)
          have e : pathI [⟨1, 2⟩, ⟨0, 0⟩, ⟨0, 0⟩] vv (x - 1) = [(x : Int), ((0 : Nat) : Int), ((0 : Nat) : Int)] := by simp [pathI, bsV, vv]; omega
          rw [e] at this
          exact this
      · by_cases x0 : x = 0
        · subst x0
          have := S [⟨0, 0⟩, ⟨0, 0⟩, ⟨1, 2⟩] (by decide) (by simp) (by simp) o6 (z - 1) (by omega)
          have e : pathI [⟨0, 0⟩, ⟨0, 0⟩, ⟨1, 2⟩] vv (z - 1) = [((0 : Nat) : Int), ((0 : Nat) : Int), (z : Int)] := by simp [pathI, bsV, vv]; omega
          rw [e] at this
          exact this
        · obtain ⟨k, hk, hk1, hk2⟩ := split_y x0 hx
          have e1 : ((x - k) * 99 + (z - 1)) / 99 = x - k := by omega
          have e2 : ((x - k) * 99 + (z - 1)) % 99 = z - 1 := by omega
          have e : pathI [⟨k, 1⟩, ⟨0, 0⟩, ⟨1, 2⟩] vv ((x - k) * 99 + (z - 1)) = [(x : Int), ((0 : Nat) : Int), (z : Int)] := by
            have k0 : ¬ k = 0 := by omega
            simp [pathI, bsV, vv, e1, e2, k0]
            omega
          rw [← e]
          subst hk
          exact G [⟨1, 1⟩, ⟨0, 0⟩, ⟨1, 2⟩] (by decide) (by simp) (by simp) ok.a1 _ (by omega)
    · by_cases z0 : z = 0
      · subst z0
        by_cases x0 : x = 0
        · subst x0
          have := S [⟨0, 0⟩, ⟨1, 2⟩, ⟨0, 0⟩] (by decide) (by simp) (by simp) o5 (y - 1) (by omega)
          have e : pathI [⟨0, 0⟩, ⟨1, 2⟩, ⟨0, 0⟩] vv (y - 1) = [((0 : Nat) : Int), (y : Int), ((0 : Nat) : Int)] := by simp [pathI, bsV, vv]; omega
          rw [e] at this
          exact this
        · obtain ⟨k, hk, hk1, hk2⟩ := split_y x0 hx
          have e1 : ((x - k) * 99 + (y - 1)) / 99 = x - k := by omega
          have e2 : ((x - k) * 99 + (y - 1)) % 99 = y - 1 := by omega
          have e : pathI [⟨k, 1⟩, ⟨1, 2⟩, ⟨0, 0⟩] vv ((x - k) * 99 + (y - 1)) = [(x : Int), (y : Int), ((0 : Nat) : Int)] := by
            have k0 : ¬ k = 0 := by omega
            simp [pathI, bsV, vv, e1, e2, k0]
            omega
          rw [← e]
          subst hk
          exact G [⟨1, 1⟩, ⟨1, 2⟩, ⟨0, 0⟩] (by decide) (by simp) (by simp) ok.b1 _ (by omega)
      · obtain ⟨k, hk, hk1, hk2⟩ := split_y y0 hy
        have e1 : ((y - k) * 99 + (z - 1)) / 99 = y - k := by omega
        have e2 : ((y - k) * 99 + (z - 1)) % 99 = z - 1 := by omega
        have e : pathI [⟨x, 0⟩, ⟨k, 1⟩, ⟨1, 2⟩] vv ((y - k) * 99 + (z - 1)) = [(x : Int), (y : Int), (z : Int)] := by
          have k0 : ¬ k = 0 := by omega
          by_cases x0 : x = 0
          · subst x0
            simp [pathI, bsV, vv, e1, e2, k0]
            omega
          · simp [pathI, bsV, vv, e1, e2, k0, x0]
            omega
        have hlp : ∀ k, k = 1 → lPs [⟨x, 0⟩, ⟨k, 1⟩, ⟨1, 2⟩] ≤ 6 := fun k _ => by
          have := lPs_le [⟨x, 0⟩, ⟨k, 1⟩, ⟨1, 2⟩]
          simpa using this
        rw [← e]
        subst hk
        exact G [⟨x, 0⟩, ⟨1, 1⟩, ⟨1, 2⟩] (hlp 1 rfl) (by simp) (by simp [hx]) (ok.one x hx) _ (by omega)
  | _ :: _ :: _ :: _ :: _, hl, _ => simp at hl
theorem zero_word (hs : s.data.toList = sd.map byt) (hsb : ∀ x ∈ sd, x < 256) (h1 : sd.length ≤ 32) (ha : a < 256) (hn : n < 256) (ok : AllB sd a n) : GoodB s ([0, 0, 0, 0, 0] ++ [(a : Int), (n : Int)]) ∧ GoodB s ([0, 0, 0, 0, 0, 0] ++ [(a : Int), (n : Int)]) := by
  have oko := ok.small
  unfold smallT at oko
  simp only [also_iff] at oko
  obtain ⟨-, -, -, -, -, -, -, -, -, -, o1, o2⟩ := oko
  exact ⟨tiny_word (s := s) hs hsb h1 ha hn (ps := [⟨0, 0⟩, ⟨0, 0⟩, ⟨0, 0⟩, ⟨0, 0⟩, ⟨0, 0⟩]) (by decide) (by simp) (by simp) o1 0 (by omega), tiny_word (s := s) hs hsb h1 ha hn (ps := [⟨0, 0⟩, ⟨0, 0⟩, ⟨0, 0⟩, ⟨0, 0⟩, ⟨0, 0⟩, ⟨0, 0⟩]) (by decide) (by simp) (by simp) o2 0 (by omega)⟩
end
end Go.Proofs.YtnionejefpnfoaaDoor
