/- Messages whose bytes are constants and lanes; the check of a batch of them, and what it says of each lane. Plain; nothing of the program stands here but the specification of its words. -/
import Derived.Test.YtkchalnohkfhbaaDoorZc
set_option linter.unusedSimpArgs false
set_option linter.unusedVariables false
namespace Go.Proofs.YtkchalnohkfhbaaDoor

/-- a byte: a constant, and a lane's number (0: none) -/
structure BS where
  c : Nat
  k : Nat
def bsV (v : Nat → Nat → Nat) (i : Nat) (s : BS) : Nat := s.c + v s.k i
def bsB (v : Nat → Nat → Nat) (i : Nat) (s : BS) : UInt8 := byt (bsV v i s)
/-- the encoding of a number below 256 ahead of more -/
noncomputable abbrev e1 (x : Nat) (r : List BS) : List BS := Nat.rec (motive := fun _ => List BS) (⟨128, 0⟩ :: r) (fun y _ => ⟨129, 0⟩ :: ⟨Nat.succ y, 0⟩ :: r) x
/-- the encoding of a number of the path: a constant 0, or one that is not 0 -/
noncomputable abbrev eP (p : BS) (r : List BS) : List BS := Nat.rec (motive := fun _ => List BS) (⟨128, 0⟩ :: r) (fun _ _ => ⟨129, 0⟩ :: p :: r) p.c
noncomputable abbrev ePs (ps : List BS) (r : List BS) : List BS := List.rec (motive := fun _ => List BS) r (fun p _ ih => eP p ih) ps
noncomputable abbrev sdC (sd : List Nat) (r : List BS) : List BS := List.rec (motive := fun _ => List BS) r (fun x _ ih => ⟨x, 0⟩ :: ih) sd
noncomputable abbrev l1 (x : Nat) : Nat := Nat.rec (motive := fun _ => Nat) 1 (fun _ _ => 2) x
noncomputable abbrev lPs (ps : List BS) : Nat := List.rec (motive := fun _ => Nat) 0 (fun p _ ih => Nat.add (l1 p.c) ih) ps
noncomputable abbrev lI (ps : List BS) (a n : Nat) : Nat := Nat.add (Nat.add (l1 (Nat.add ps.length 3)) (lPs ps)) (Nat.add (Nat.add (l1 a) (l1 n)) 1)
noncomputable abbrev lM (sd : List Nat) (ps : List BS) (a n : Nat) : Nat := Nat.add (Nat.add (Nat.add 1 (l1 sd.length)) sd.length) (Nat.add (l1 (lI ps a n)) (lI ps a n))
noncomputable abbrev specM (sd : List Nat) (ps : List BS) (a n : Nat) (r : List BS) : List BS :=
  ⟨8, 0⟩ :: e1 sd.length (sdC sd (e1 (lI ps a n) (e1 (Nat.add ps.length 3) (ePs ps (e1 a (e1 n (⟨128, 0⟩ :: r)))))))
/-- the path of a lane -/
def pathI (ps : List BS) (v : Nat → Nat → Nat) (i : Nat) : List Int := ps.map fun p => if p.c = 0 then 0 else ((bsV v i p : Nat) : Int)

theorem encInt_all : ((List.range 256).all fun x => decide (encInt (x : Int) = if x = 0 then [byt 128] else [byt 129, byt x])) = true := by kernel_rfl
theorem encInt_small {x : Nat} (h : x < 256) : encInt (x : Int) = if x = 0 then [byt 128] else [byt 129, byt x] := by
  have := List.all_eq_true.1 encInt_all x (List.mem_range.2 h)
  exact of_decide_eq_true this
theorem l1_len {x : Nat} (h : x < 256) : l1 x = (encInt (x : Int)).length := by
  rw [encInt_small h]
  cases x with
  | zero => rfl
  | succ x => rw [if_neg (by omega)]; rfl
section
variable {v : Nat → Nat → Nat} {i : Nat} (h0 : v 0 i = 0)
include h0
theorem bs_const (c : Nat) : bsB v i ⟨c, 0⟩ = byt c := by unfold bsB bsV; rw [h0, Nat.add_zero]
theorem e1_map {x : Nat} (h : x < 256) (r : List BS) : (e1 x r).map (bsB v i) = encInt (x : Int) ++ r.map (bsB v i) := by
  rw [encInt_small h]
  cases x with
  | zero => show bsB v i ⟨128, 0⟩ :: _ = _; rw [bs_const h0]; rfl
  | succ x =>
    rw [if_neg (by omega)]
    show bsB v i ⟨129, 0⟩ :: bsB v i ⟨x + 1, 0⟩ :: _ = _
    rw [bs_const h0, bs_const h0]
    rfl
theorem ePs_map (r : List BS) : ∀ (ps : List BS), (∀ p ∈ ps, p.c ≠ 0 → bsV v i p < 256) → (ePs ps r).map (bsB v i) = cat (pathI ps v i) ++ r.map (bsB v i) ∧ lPs ps = (cat (pathI ps v i)).length
  | [], _ => ⟨rfl, rfl⟩
  | p :: ps, h => by
    obtain ⟨i1, i2⟩ := ePs_map r ps (fun q hq => h q (List.mem_cons_of_mem _ hq))
    have ec : cat (pathI (p :: ps) v i) = encInt (if p.c = 0 then 0 else ((bsV v i p : Nat) : Int)) ++ cat (pathI ps v i) := by simp [cat, pathI]
    rw [ec, List.append_assoc, ← i1, List.length_append, ← i2]
    obtain ⟨c, k⟩ := p
    cases c with
    | zero =>
      rw [if_pos rfl, show encInt 0 = [byt 128] by have := encInt_small (x := 0) (by decide); simpa using this]
      refine ⟨?_, rfl⟩
      show bsB v i ⟨128, 0⟩ :: _ = _
      rw [bs_const h0]
      rfl
    | succ c =>
      have hb := h ⟨c + 1, k⟩ (by simp) (by simp)
      have hne : bsV v i ⟨c + 1, k⟩ ≠ 0 := by unfold bsV; dsimp only; omega
      rw [if_neg (by simp), encInt_small hb, if_neg hne]
      refine ⟨?_, rfl⟩
      show bsB v i ⟨129, 0⟩ :: bsB v i ⟨c + 1, k⟩ :: _ = _
      rw [bs_const h0]
      rfl
theorem sdC_map (r : List BS) : ∀ (sd : List Nat), (sdC sd r).map (bsB v i) = sd.map byt ++ r.map (bsB v i)
  | [] => rfl
  | x :: sd => by
    have := sdC_map r sd
    show bsB v i ⟨x, 0⟩ :: _ = _
    rw [bs_const h0]
    show byt x :: (sdC sd r).map (bsB v i) = _
    rw [this]
    rfl
/-- THE MESSAGE OF A LANE -/
theorem specM_map {sd : List Nat} {ps : List BS} {a n : Nat} {s : ByteArray} (hs : s.data.toList = sd.map byt) (h1 : sd.length < 256) (h2 : ps.length + 3 < 256) (h3 : lI ps a n < 256) (ha : a < 256) (hn : n < 256) (hp : ∀ p ∈ ps, p.c ≠ 0 → bsV v i p < 256) (r : List BS) :
    (specM sd ps a n r).map (bsB v i) = ofM 8 [s, txt (encInts (pathI ps v i ++ [(a : Int), (n : Int)] ++ [0]))] ++ r.map (bsB v i) ∧ lM sd ps a n = (ofM 8 [s, txt (encInts (pathI ps v i ++ [(a : Int), (n : Int)] ++ [0]))]).length := by
  obtain ⟨i1, i2⟩ := ePs_map h0 (e1 a (e1 n (⟨128, 0⟩ :: r))) ps hp
  have hz : encInt 0 = [byt 128] := by have := encInt_small (x := 0) (by decide); simpa using this
  have hlen : (pathI ps v i ++ [(a : Int), (n : Int)] ++ [0]).length = ps.length + 3 := by simp [pathI]
  have hcat : cat (pathI ps v i ++ [(a : Int), (n : Int)] ++ [0]) = cat (pathI ps v i) ++ (encInt (a : Int) ++ (encInt (n : Int) ++ [byt 128])) := by simp [cat, hz]
  have hI : encInts (pathI ps v i ++ [(a : Int), (n : Int)] ++ [0]) = encInt ((ps.length + 3 : Nat) : Int) ++ (cat (pathI ps v i) ++ (encInt (a : Int) ++ (encInt (n : Int) ++ [byt 128]))) := by
    unfold encInts
    rw [hlen, hcat]
  have hIl : lI ps a n = (encInts (pathI ps v i ++ [(a : Int), (n : Int)] ++ [0])).length := by
    rw [hI, List.length_append, List.length_append, List.length_append, List.length_append, ← l1_len h2, ← i2, ← l1_len ha, ← l1_len hn]
    show (l1 (ps.length + 3) + lPs ps) + ((l1 a + l1 n) + 1) = _
    simp only [List.length_cons, List.length_nil]
    omega
  have htx : (txt (encInts (pathI ps v i ++ [(a : Int), (n : Int)] ++ [0]))).data.toList = encInts (pathI ps v i ++ [(a : Int), (n : Int)] ++ [0]) := by unfold txt; simp
  have hM : ofM 8 [s, txt (encInts (pathI ps v i ++ [(a : Int), (n : Int)] ++ [0]))] = byt 8 :: (encInt (sd.length : Int) ++ (sd.map byt ++ (encInt ((lI ps a n : Nat) : Int) ++ encInts (pathI ps v i ++ [(a : Int), (n : Int)] ++ [0])))) := by
    unfold ofM catS
    simp only [List.flatMap_cons, List.flatMap_nil, List.append_nil]
    unfold encBytes
    rw [htx, hs, List.length_map, ← hIl, List.append_assoc]
    rfl
  constructor
  · rw [hM, hI]
    show bsB v i ⟨8, 0⟩ :: (e1 sd.length (sdC sd (e1 (lI ps a n) (e1 (ps.length + 3) (ePs ps (e1 a (e1 n (⟨128, 0⟩ :: r)))))))).map (bsB v i) = _
    rw [bs_const h0, e1_map h0 h1, sdC_map h0, e1_map h0 h3, e1_map h0 h2, i1, e1_map h0 ha, e1_map h0 hn, List.map_cons, bs_const h0]
    simp
  · rw [hM, List.length_cons, List.length_append, List.length_append, List.length_append, ← hIl, ← l1_len h1, ← l1_len h3, List.length_map]
    show ((1 + l1 sd.length) + sd.length) + (l1 (lI ps a n) + lI ps a n) = _
    omega
end
/-! words of lanes -/
noncomputable abbrev tlB (L : List BS) : List BS := List.rec (motive := fun _ => List BS) [] (fun _ t _ => t) L
noncomputable abbrev hdB (L : List BS) : BS := List.rec (motive := fun _ => BS) ⟨0, 0⟩ (fun h _ _ => h) L
noncomputable abbrev dr4 (L : List BS) : List BS := tlB (tlB (tlB (tlB L)))
abbrev hor (a b c d : Nat) : Nat := Nat.add (Nat.mul (Nat.add (Nat.mul (Nat.add (Nat.mul a 256) b) 256) c) 256) d
noncomputable abbrev wd (one : Nat) (V : Nat → Nat) (L : List BS) : Nat :=
  Nat.add (Nat.mul one (hor (hdB L).c (hdB (tlB L)).c (hdB (tlB (tlB L))).c (hdB (tlB (tlB (tlB L)))).c)) (hor (V (hdB L).k) (V (hdB (tlB L)).k) (V (hdB (tlB (tlB L))).k) (V (hdB (tlB (tlB (tlB L)))).k))
/-- the round constants as naturals -/
noncomputable def KN : List Nat := [1116352408, 1899447441, 3049323471, 3921009573, 961987163, 1508970993, 2453635748, 2870763221, 3624381080, 310598401, 607225278, 1426881987, 1925078388, 2162078206, 2614888103, 3248222580, 3835390401, 4022224774, 264347078, 604807628, 770255983, 1249150122, 1555081692, 1996064986, 2554220882, 2821834349, 2952996808, 3210313671, 3336571891, 3584528711, 113926993, 338241895, 666307205, 773529912, 1294757372, 1396182291, 1695183700, 1986661051, 2177026350, 2456956037, 2730485921, 2820302411, 3259730800, 3345764771, 3516065817, 3600352804, 4094571909, 275423344, 430227734, 506948616, 659060556, 883997877, 958139571, 1322822218, 1537002063, 1747873779, 1955562222, 2024104815, 2227730452, 2361852424, 2428436474, 2756734187, 3204031479, 3329325298]
theorem KN_eq : KN = KS.map UInt32.toNat := by kernel_rfl
/-- the round constants, each by way of a number of a size of its own: such small numbers stay in memory among the great ones, and so what is freed around them stays with the process -/
noncomputable def KP : List Nat := [Nat.shiftRight (Nat.shiftLeft 1116352408 64) 64, Nat.shiftRight (Nat.shiftLeft 1899447441 192) 192, Nat.shiftRight (Nat.shiftLeft 3049323471 320) 320, Nat.shiftRight (Nat.shiftLeft 3921009573 448) 448, Nat.shiftRight (Nat.shiftLeft 961987163 576) 576, Nat.shiftRight (Nat.shiftLeft 1508970993 704) 704, Nat.shiftRight (Nat.shiftLeft 2453635748 832) 832, Nat.shiftRight (Nat.shiftLeft 2870763221 960) 960, Nat.shiftRight (Nat.shiftLeft 3624381080 1088) 1088, Nat.shiftRight (Nat.shiftLeft 310598401 1216) 1216, Nat.shiftRight (Nat.shiftLeft 607225278 1344) 1344, Nat.shiftRight (Nat.shiftLeft 1426881987 1472) 1472, Nat.shiftRight (Nat.shiftLeft 1925078388 1600) 1600, Nat.shiftRight (Nat.shiftLeft 2162078206 1728) 1728, Nat.shiftRight (Nat.shiftLeft 2614888103 1856) 1856, Nat.shiftRight (Nat.shiftLeft 3248222580 1984) 1984, Nat.shiftRight (Nat.shiftLeft 3835390401 2112) 2112, Nat.shiftRight (Nat.shiftLeft 4022224774 2240) 2240, Nat.shiftRight (Nat.shiftLeft 264347078 2368) 2368, Nat.shiftRight (Nat.shiftLeft 604807628 2496) 2496, Nat.shiftRight (Nat.shiftLeft 770255983 2624) 2624, Nat.shiftRight (Nat.shiftLeft 1249150122 2752) 2752, Nat.shiftRight (Nat.shiftLeft 1555081692 2880) 2880, Nat.shiftRight (Nat.shiftLeft 1996064986 3008) 3008, Nat.shiftRight (Nat.shiftLeft 2554220882 3136) 3136, Nat.shiftRight (Nat.shiftLeft 2821834349 3264) 3264, Nat.shiftRight (Nat.shiftLeft 2952996808 3392) 3392, Nat.shiftRight (Nat.shiftLeft 3210313671 3520) 3520, Nat.shiftRight (Nat.shiftLeft 3336571891 3648) 3648, Nat.shiftRight (Nat.shiftLeft 3584528711 3776) 3776, Nat.shiftRight (Nat.shiftLeft 113926993 3904) 3904, Nat.shiftRight (Nat.shiftLeft 338241895 4032) 4032, Nat.shiftRight (Nat.shiftLeft 666307205 4160) 4160, Nat.shiftRight (Nat.shiftLeft 773529912 4288) 4288, Nat.shiftRight (Nat.shiftLeft 1294757372 4416) 4416, Nat.shiftRight (Nat.shiftLeft 1396182291 4544) 4544, Nat.shiftRight (Nat.shiftLeft 1695183700 4672) 4672, Nat.shiftRight (Nat.shiftLeft 1986661051 4800) 4800, Nat.shiftRight (Nat.shiftLeft 2177026350 4928) 4928, Nat.shiftRight (Nat.shiftLeft 2456956037 5056) 5056, Nat.shiftRight (Nat.shiftLeft 2730485921 5184) 5184, Nat.shiftRight (Nat.shiftLeft 2820302411 5312) 5312, Nat.shiftRight (Nat.shiftLeft 3259730800 5440) 5440, Nat.shiftRight (Nat.shiftLeft 3345764771 5568) 5568, Nat.shiftRight (Nat.shiftLeft 3516065817 5696) 5696, Nat.shiftRight (Nat.shiftLeft 3600352804 5824) 5824, Nat.shiftRight (Nat.shiftLeft 4094571909 5952) 5952, Nat.shiftRight (Nat.shiftLeft 275423344 6080) 6080, Nat.shiftRight (Nat.shiftLeft 430227734 6208) 6208, Nat.shiftRight (Nat.shiftLeft 506948616 6336) 6336, Nat.shiftRight (Nat.shiftLeft 659060556 6464) 6464, Nat.shiftRight (Nat.shiftLeft 883997877 6592) 6592, Nat.shiftRight (Nat.shiftLeft 958139571 6720) 6720, Nat.shiftRight (Nat.shiftLeft 1322822218 6848) 6848, Nat.shiftRight (Nat.shiftLeft 1537002063 6976) 6976, Nat.shiftRight (Nat.shiftLeft 1747873779 7104) 7104, Nat.shiftRight (Nat.shiftLeft 1955562222 7232) 7232, Nat.shiftRight (Nat.shiftLeft 2024104815 7360) 7360, Nat.shiftRight (Nat.shiftLeft 2227730452 7488) 7488, Nat.shiftRight (Nat.shiftLeft 2361852424 7616) 7616, Nat.shiftRight (Nat.shiftLeft 2428436474 7744) 7744, Nat.shiftRight (Nat.shiftLeft 2756734187 7872) 7872, Nat.shiftRight (Nat.shiftLeft 3204031479 8000) 8000, Nat.shiftRight (Nat.shiftLeft 3329325298 8128) 8128]
theorem KP_eq : KP = KN := by kernel_rfl
/-- THE CHECK of a batch: no lane's hash begins with a word of ones alone -/
noncomputable def chkL (one M : Nat) (V : Nat → Nat) (L : List BS) (bits : Nat) : Bool :=
  vRounds one M KP (Nat.mul one 1779033703) (Nat.mul one 3144134277) (Nat.mul one 1013904242) (Nat.mul one 2773480762) (Nat.mul one 1359893119) (Nat.mul one 2600822924) (Nat.mul one 528734635) (Nat.mul one 1541459225) (Nat.mul one 2265538039)
    (wd one V L) (wd one V (dr4 L)) (wd one V (dr4 (dr4 L))) (wd one V (dr4 (dr4 (dr4 L)))) (wd one V (dr4 (dr4 (dr4 (dr4 L))))) (wd one V (dr4 (dr4 (dr4 (dr4 (dr4 L)))))) (wd one V (dr4 (dr4 (dr4 (dr4 (dr4 (dr4 L))))))) (wd one V (dr4 (dr4 (dr4 (dr4 (dr4 (dr4 (dr4 L)))))))) (wd one V (dr4 (dr4 (dr4 (dr4 (dr4 (dr4 (dr4 (dr4 L))))))))) (wd one V (dr4 (dr4 (dr4 (dr4 (dr4 (dr4 (dr4 (dr4 (dr4 L)))))))))) (wd one V (dr4 (dr4 (dr4 (dr4 (dr4 (dr4 (dr4 (dr4 (dr4 (dr4 L))))))))))) (wd one V (dr4 (dr4 (dr4 (dr4 (dr4 (dr4 (dr4 (dr4 (dr4 (dr4 (dr4 L)))))))))))) (wd one V (dr4 (dr4 (dr4 (dr4 (dr4 (dr4 (dr4 (dr4 (dr4 (dr4 (dr4 (dr4 L))))))))))))) (wd one V (dr4 (dr4 (dr4 (dr4 (dr4 (dr4 (dr4 (dr4 (dr4 (dr4 (dr4 (dr4 (dr4 L)))))))))))))) (wd one V (dr4 (dr4 (dr4 (dr4 (dr4 (dr4 (dr4 (dr4 (dr4 (dr4 (dr4 (dr4 (dr4 (dr4 L))))))))))))))) (Nat.mul one bits)
/-- byte m of a list, 0 behind its end -/
def atB (L : List BS) (m : Nat) : BS := L[m]?.getD ⟨0, 0⟩
theorem hd_at (L : List BS) : hdB L = atB L 0 := by cases L <;> rfl
theorem at_tl (L : List BS) (m : Nat) : atB (tlB L) m = atB L (m + 1) := by cases L <;> rfl
theorem at_dr (L : List BS) (m : Nat) : atB (dr4 L) m = atB L (m + 4) := by
  show atB (tlB (tlB (tlB (tlB L)))) m = _
  rw [at_tl, at_tl, at_tl, at_tl]
def wdN (v : Nat → Nat → Nat) (L : List BS) (j i : Nat) : Nat := ((bsV v i (atB L (4 * j)) * 256 + bsV v i (atB L (4 * j + 1))) * 256 + bsV v i (atB L (4 * j + 2))) * 256 + bsV v i (atB L (4 * j + 3))
theorem wd_eq {n : Nat} {v : Nat → Nat → Nat} {V : Nat → Nat} (hV : ∀ k, V k = pkN n (v k)) (L : List BS) : wd (pkN n fun _ => 1) V L = pkN n (wdN v L 0) := by
  show (pkN n fun _ => 1) * ((((hdB L).c * 256 + (hdB (tlB L)).c) * 256 + (hdB (tlB (tlB L))).c) * 256 + (hdB (tlB (tlB (tlB L)))).c) + (((V (hdB L).k * 256 + V (hdB (tlB L)).k) * 256 + V (hdB (tlB (tlB L))).k) * 256 + V (hdB (tlB (tlB (tlB L)))).k) = _
  rw [hd_at L, hd_at (tlB L), hd_at (tlB (tlB L)), hd_at (tlB (tlB (tlB L))), at_tl L, at_tl (tlB L), at_tl L, at_tl (tlB (tlB L)), at_tl (tlB L), at_tl L, hV, hV, hV, hV, pkN_mul, pkN_mul, pkN_add, pkN_mul, pkN_add, pkN_mul, pkN_add, pkN_add]
  refine pkN_congr fun i _ => ?_
  unfold wdN bsV
  simp only [Nat.mul_zero, Nat.zero_add, Nat.reduceAdd]
  omega
theorem wd_dr {v : Nat → Nat → Nat} (L : List BS) (j i : Nat) : wdN v (dr4 L) j i = wdN v L (j + 1) i := by
  unfold wdN
  rw [at_dr, at_dr, at_dr, at_dr, show 4 * j + 4 = 4 * (j + 1) by omega, show 4 * j + 1 + 4 = 4 * (j + 1) + 1 by omega, show 4 * j + 2 + 4 = 4 * (j + 1) + 2 by omega, show 4 * j + 3 + 4 = 4 * (j + 1) + 3 by omega]
set_option maxHeartbeats 4000000 in
theorem chkL_sound {n : Nat} {v : Nat → Nat → Nat} {V : Nat → Nat} (hV : ∀ k, V k = pkN n (v k)) {L : List BS} {len : Nat} (h : chkL (pkN n fun _ => 1) (pkN n fun _ => 4294967295) V L (8 * len) = true)
    (b : Nat → List UInt8) (hb : ∀ i, i < n → (∀ j, j < 15 → (wF (b i) j).toNat = wdN v L j i) ∧ (wF (b i) 15).toNat = 8 * len) : ∀ i, i < n → (comp S0 (b i)).a ≠ 4294967295 := by
  intro i hi he
  have key := vRounds_sound (n := n) (Wf := fun i => wF (b i)) (fun i t => wF_rec (b i) t) KS (fun _ => S0) 0 ?_ i hi
  · rw [comp_a] at he
    apply key
    have e1 := congrArg UInt32.toNat he
    unfold aw at e1
    rw [UInt32.toNat_add, show S0.a.toNat = 1779033703 from rfl, show (4294967295 : UInt32).toNat = 4294967295 from rfl] at e1
    apply UInt32.toNat_inj.1
    rw [show (2515933592 : UInt32).toNat = 2515933592 from rfl]
    have := (runL S0 (wF (b i)) KS 0).a.toNat_lt
    omega
  · have hk : ∀ (x : UInt32), (pk n fun _ => x) = (pkN n fun _ => 1) * x.toNat := fun x => by
      unfold pk
      rw [pkN_mul]
      exact pkN_congr fun _ _ => (Nat.one_mul _).symm
    have hw : ∀ j, j < 15 → (pk n fun i => wF (b i) (0 + j)) = pkN n (wdN v L j) := fun j hj => by
      unfold pk
      refine pkN_congr fun i hi => ?_
      dsimp only
      rw [Nat.zero_add]
      exact (hb i hi).1 j hj
    have hw15 : (pk n fun i => wF (b i) (0 + 15)) = (pkN n fun _ => 1) * (8 * len) := by
      unfold pk
      rw [pkN_mul]
      refine pkN_congr fun i hi => ?_
      dsimp only
      rw [Nat.zero_add, (hb i hi).2, Nat.one_mul]
    have hd : ∀ (L' : List BS) (j : Nat), (∀ m i, wdN v L' m i = wdN v L (m + j) i) → wd (pkN n fun _ => 1) V L' = pkN n (wdN v L j) := fun L' j e => by
      rw [wd_eq hV]
      exact pkN_congr fun i _ => by rw [e, Nat.zero_add]
    have d0 : ∀ m i, wdN v L m i = wdN v L (m + 0) i := fun m i => rfl
    have d1 : ∀ m i, wdN v (dr4 L) m i = wdN v L (m + 1) i := fun m i => by rw [wd_dr, d0, show m + 1 + 0 = m + 1 by omega]
    have d2 : ∀ m i, wdN v (dr4 (dr4 L)) m i = wdN v L (m + 2) i := fun m i => by rw [wd_dr, d1, show m + 1 + 1 = m + 2 by omega]
    have d3 : ∀ m i, wdN v (dr4 (dr4 (dr4 L))) m i = wdN v L (m + 3) i := fun m i => by rw [wd_dr, d2, show m + 1 + 2 = m + 3 by omega]
    have d4 : ∀ m i, wdN v (dr4 (dr4 (dr4 (dr4 L)))) m i = wdN v L (m + 4) i := fun m i => by rw [wd_dr, d3, show m + 1 + 3 = m + 4 by omega]
    have d5 : ∀ m i, wdN v (dr4 (dr4 (dr4 (dr4 (dr4 L))))) m i = wdN v L (m + 5) i := fun m i => by rw [wd_dr, d4, show m + 1 + 4 = m + 5 by omega]
    have d6 : ∀ m i, wdN v (dr4 (dr4 (dr4 (dr4 (dr4 (dr4 L)))))) m i = wdN v L (m + 6) i := fun m i => by rw [wd_dr, d5, show m + 1 + 5 = m + 6 by omega]
    have d7 : ∀ m i, wdN v (dr4 (dr4 (dr4 (dr4 (dr4 (dr4 (dr4 L))))))) m i = wdN v L (m + 7) i := fun m i => by rw [wd_dr, d6, show m + 1 + 6 = m + 7 by omega]
    have d8 : ∀ m i, wdN v (dr4 (dr4 (dr4 (dr4 (dr4 (dr4 (dr4 (dr4 L)))))))) m i = wdN v L (m + 8) i := fun m i => by rw [wd_dr, d7, show m + 1 + 7 = m + 8 by omega]
    have d9 : ∀ m i, wdN v (dr4 (dr4 (dr4 (dr4 (dr4 (dr4 (dr4 (dr4 (dr4 L))))))))) m i = wdN v L (m + 9) i := fun m i => by rw [wd_dr, d8, show m + 1 + 8 = m + 9 by omega]
    have d10 : ∀ m i, wdN v (dr4 (dr4 (dr4 (dr4 (dr4 (dr4 (dr4 (dr4 (dr4 (dr4 L)))))))))) m i = wdN v L (m + 10) i := fun m i => by rw [wd_dr, d9, show m + 1 + 9 = m + 10 by omega]
    have d11 : ∀ m i, wdN v (dr4 (dr4 (dr4 (dr4 (dr4 (dr4 (dr4 (dr4 (dr4 (dr4 (dr4 L))))))))))) m i = wdN v L (m + 11) i := fun m i => by rw [wd_dr, d10, show m + 1 + 10 = m + 11 by omega]
    have d12 : ∀ m i, wdN v (dr4 (dr4 (dr4 (dr4 (dr4 (dr4 (dr4 (dr4 (dr4 (dr4 (dr4 (dr4 L)))))))))))) m i = wdN v L (m + 12) i := fun m i => by rw [wd_dr, d11, show m + 1 + 11 = m + 12 by omega]
    have d13 : ∀ m i, wdN v (dr4 (dr4 (dr4 (dr4 (dr4 (dr4 (dr4 (dr4 (dr4 (dr4 (dr4 (dr4 (dr4 L))))))))))))) m i = wdN v L (m + 13) i := fun m i => by rw [wd_dr, d12, show m + 1 + 12 = m + 13 by omega]
    have d14 : ∀ m i, wdN v (dr4 (dr4 (dr4 (dr4 (dr4 (dr4 (dr4 (dr4 (dr4 (dr4 (dr4 (dr4 (dr4 (dr4 L)))))))))))))) m i = wdN v L (m + 14) i := fun m i => by rw [wd_dr, d13, show m + 1 + 13 = m + 14 by omega]
    rw [← KN_eq]
    rw [hw 0 (by decide), hw 1 (by decide), hw 2 (by decide), hw 3 (by decide), hw 4 (by decide), hw 5 (by decide), hw 6 (by decide), hw 7 (by decide), hw 8 (by decide), hw 9 (by decide), hw 10 (by decide), hw 11 (by decide), hw 12 (by decide), hw 13 (by decide), hw 14 (by decide), hw15]
    rw [hk S0.a, hk S0.b, hk S0.c, hk S0.d, hk S0.e, hk S0.f, hk S0.g, hk S0.h, hk (S0.b ^^^ S0.c)]
    unfold chkL at h
    rw [KP_eq] at h
    rw [hd _ 0 d0, hd _ 1 d1, hd _ 2 d2, hd _ 3 d3, hd _ 4 d4, hd _ 5 d5, hd _ 6 d6, hd _ 7 d7, hd _ 8 d8, hd _ 9 d9, hd _ 10 d10, hd _ 11 d11, hd _ 12 d12, hd _ 13 d13, hd _ 14 d14] at h
    exact h
theorem e1_mem {v : Nat → Nat → Nat} {i : Nat} (h0 : v 0 i = 0) {x : Nat} (h : x < 256) {r : List BS} (hr : ∀ y ∈ r, bsV v i y < 256) : ∀ y ∈ e1 x r, bsV v i y < 256 := by
  have hc : ∀ c, c < 256 → bsV v i ⟨c, 0⟩ < 256 := fun c hc => by unfold bsV; rw [h0]; omega
  intro y hy
  cases x with
  | zero =>
    rcases List.mem_cons.1 (show y ∈ BS.mk 128 0 :: r from hy) with rfl | hy
    · exact hc _ (by decide)
    · exact hr y hy
  | succ x =>
    rcases List.mem_cons.1 (show y ∈ BS.mk 129 0 :: BS.mk (x + 1) 0 :: r from hy) with rfl | hy
    · exact hc _ (by decide)
    · rcases List.mem_cons.1 hy with rfl | hy
      · exact hc _ h
      · exact hr y hy
theorem ePs_mem {v : Nat → Nat → Nat} {i : Nat} (h0 : v 0 i = 0) {r : List BS} (hr : ∀ y ∈ r, bsV v i y < 256) : ∀ (ps : List BS), (∀ p ∈ ps, p.c ≠ 0 → bsV v i p < 256) → ∀ y ∈ ePs ps r, bsV v i y < 256
  | [], _ => hr
  | p :: ps, h => by
    have ih := ePs_mem h0 hr ps (fun q hq => h q (List.mem_cons_of_mem _ hq))
    have hc : ∀ c, c < 256 → bsV v i ⟨c, 0⟩ < 256 := fun c hc => by unfold bsV; rw [h0]; omega
    obtain ⟨c, k⟩ := p
    intro y hy
    cases c with
    | zero =>
      rcases List.mem_cons.1 (show y ∈ BS.mk 128 0 :: ePs ps r from hy) with rfl | hy
      · exact hc _ (by decide)
      · exact ih y hy
    | succ c =>
      rcases List.mem_cons.1 (show y ∈ BS.mk 129 0 :: BS.mk (c + 1) k :: ePs ps r from hy) with rfl | hy
      · exact hc _ (by decide)
      · rcases List.mem_cons.1 hy with rfl | hy
        · exact h _ (by simp) (by simp)
        · exact ih y hy
theorem sdC_mem {v : Nat → Nat → Nat} {i : Nat} (h0 : v 0 i = 0) {r : List BS} (hr : ∀ y ∈ r, bsV v i y < 256) : ∀ (sd : List Nat), (∀ x ∈ sd, x < 256) → ∀ y ∈ sdC sd r, bsV v i y < 256
  | [], _ => hr
  | x :: sd, h => by
    have ih := sdC_mem h0 hr sd (fun q hq => h q (List.mem_cons_of_mem _ hq))
    intro y hy
    rcases List.mem_cons.1 (show y ∈ BS.mk x 0 :: sdC sd r from hy) with rfl | hy
    · have := h x (by simp)
      unfold bsV
      rw [h0]
      exact this
    · exact ih y hy
theorem spec_lt {v : Nat → Nat → Nat} {i : Nat} (h0 : v 0 i = 0) {sd : List Nat} {ps : List BS} {a n : Nat} (hsb : ∀ x ∈ sd, x < 256) (h1 : sd.length < 200) (h2 : ps.length < 200) (h3 : lI ps a n < 256) (ha : a < 256) (hn : n < 256) (hp : ∀ p ∈ ps, p.c ≠ 0 → bsV v i p < 256) :
    ∀ y ∈ specM sd ps a n [⟨128, 0⟩], bsV v i y < 256 := by
  have hc : ∀ c, c < 256 → bsV v i ⟨c, 0⟩ < 256 := fun c hc => by unfold bsV; rw [h0]; omega
  intro y hy
  rcases List.mem_cons.1 hy with rfl | hy
  · exact hc _ (by decide)
  · refine e1_mem h0 (by omega) (sdC_mem h0 (e1_mem h0 h3 (e1_mem h0 (show ps.length + 3 < 256 by omega) (ePs_mem h0 (e1_mem h0 ha (e1_mem h0 hn ?_)) ps hp))) sd hsb) y hy
    intro z hz
    simp only [List.mem_cons, List.not_mem_nil, or_false] at hz
    rcases hz with rfl | rfl <;> exact hc _ (by decide)
/-! the block -/
theorem pad_lo {m : List UInt8} (h : m.length ≤ 55) {j : Nat} (hj : j < 60) : ((m ++ padB m.length)[j]?.getD 0) = ((m ++ [byt 128])[j]?.getD 0) := by
  rcases Nat.lt_trichotomy j m.length with h1 | h1 | h1
  · rw [List.getElem?_append_left h1, List.getElem?_append_left h1]
  · subst h1
    rw [List.getElem?_append_right (Nat.le_refl _), List.getElem?_append_right (Nat.le_refl _), Nat.sub_self]
    rfl
  · rw [List.getElem?_append_right (by omega), List.getElem?_eq_none (l := m ++ [byt 128]) (by simp; omega)]
    have hz : zeros m.length = 55 - m.length := by unfold zeros; omega
    unfold padB
    rw [hz]
    obtain ⟨r, hr⟩ : ∃ r, j - m.length = r + 1 := ⟨j - m.length - 1, by omega⟩
    rw [hr, List.cons_append, List.getElem?_cons_succ]
    by_cases h2 : r < 55 - m.length
    · rw [List.getElem?_append_left (by simpa using h2), List.getElem?_replicate, if_pos h2]
      rfl
    · rw [List.getElem?_append_right (by simp; omega), List.length_replicate]
      obtain ⟨q, hq⟩ : ∃ q, r - (55 - m.length) = q := ⟨_, rfl⟩
      rw [hq]
      have hq4 : q < 4 := by omega
      unfold lenB
      rw [List.getElem?_map, List.getElem?_range (by omega)]
      show byt (8 * m.length / 256 ^ (7 - q) % 256) = 0
      have e0 : 8 * m.length / 256 ^ (7 - q) = 0 := by
        apply Nat.div_eq_of_lt
        refine Nat.lt_of_lt_of_le (show 8 * m.length < 256 ^ 4 by omega) (Nat.pow_le_pow_right (by decide) (by omega))
      rw [e0]
      rfl
theorem pad_hi {m : List UInt8} (h : m.length ≤ 55) : (wF (m ++ padB m.length) 15).toNat = 8 * m.length := by
  have hz : zeros m.length = 55 - m.length := by unfold zeros; omega
  have at_ : ∀ q, q < 8 → ((m ++ padB m.length)[56 + q]?.getD 0) = byt (8 * m.length / 256 ^ (7 - q) % 256) := by
    intro q hq
    rw [List.getElem?_append_right (by omega)]
    unfold padB
    rw [hz, show 56 + q - m.length = (55 - m.length) + 1 + q by omega]
    rw [List.getElem?_append_right (by simp <;> omega)]
    simp only [List.length_cons, List.length_replicate]
    rw [show 55 - m.length + 1 + q - (55 - m.length + 1) = q by omega]
    unfold lenB
    rw [List.getElem?_map, List.getElem?_range hq]
    rfl
  rcases part_nat (m ++ padB m.length) 15 with e | e
  · rw [e, show 4 * 15 = 56 + 4 from rfl, show 56 + 4 + 1 = 56 + 5 from rfl, show 56 + 4 + 2 = 56 + 6 from rfl, show 56 + 4 + 3 = 56 + 7 from rfl, at_ 4 (by decide), at_ 5 (by decide), at_ 6 (by decide), at_ 7 (by decide)]
    simp only [byt_toNat (Nat.mod_lt _ (by decide : 256 > 0))]
    omega
  · omega
/-- WHAT THE CHECK SAYS: the word of each lane is accepted -/
theorem batch_sound {nl : Nat} {v : Nat → Nat → Nat} {V : Nat → Nat} (hV : ∀ k, V k = pkN nl (v k)) (h0 : ∀ i, v 0 i = 0) {sd : List Nat} {ps : List BS} {a n : Nat} {s : ByteArray} (hs : s.data.toList = sd.map byt) (hsb : ∀ x ∈ sd, x < 256)
    (h1 : sd.length < 200) (h2 : ps.length < 200) (h3 : lI ps a n < 256) (h4 : lM sd ps a n ≤ 55) (ha : a < 256) (hn : n < 256) (hp : ∀ i, i < nl → ∀ p ∈ ps, p.c ≠ 0 → bsV v i p < 256)
    (h : chkL (pkN nl fun _ => 1) (pkN nl fun _ => 4294967295) V (specM sd ps a n [⟨128, 0⟩]) (8 * lM sd ps a n) = true) :
    ∀ i, i < nl → wordN s (pathI ps v i ++ [(a : Int), (n : Int)]) 0 < 281474976645120 := by
  intro i hi
  refine word_lt_of _ _ _ ?_
  have hsp : ∀ i, i < nl → _ := fun i hi => specM_map (h0 i) hs (by omega) (by omega) h3 ha hn (hp i hi) [⟨128, 0⟩]
  have hl : (ofM 8 [s, txt (encInts (pathI ps v i ++ [(a : Int), (n : Int)] ++ [0]))]).length ≤ 55 := by rw [← (hsp i hi).2]; exact h4
  rw [shaS_one _ hl]
  refine chkL_sound hV h (fun i => ofM 8 [s, txt (encInts (pathI ps v i ++ [(a : Int), (n : Int)] ++ [0]))] ++ padB (ofM 8 [s, txt (encInts (pathI ps v i ++ [(a : Int), (n : Int)] ++ [0]))]).length) (fun i hi => ?_) i hi
  obtain ⟨e1, e2⟩ := hsp i hi
  have hl : (ofM 8 [s, txt (encInts (pathI ps v i ++ [(a : Int), (n : Int)] ++ [0]))]).length ≤ 55 := by rw [← e2]; exact h4
  have hbs : [BS.mk 128 0].map (bsB v i) = [byt 128] := by simp [bs_const (h0 i)]
  rw [hbs] at e1
  refine ⟨fun j hj => ?_, by rw [e2]; exact pad_hi hl⟩
  rcases part_nat (ofM 8 [s, txt (encInts (pathI ps v i ++ [(a : Int), (n : Int)] ++ [0]))] ++ padB (ofM 8 [s, txt (encInts (pathI ps v i ++ [(a : Int), (n : Int)] ++ [0]))]).length) j with e | e
  · rw [e, pad_lo hl (by omega), pad_lo hl (by omega), pad_lo hl (by omega), pad_lo hl (by omega), ← e1]
    have hat : ∀ m, (((specM sd ps a n [⟨128, 0⟩]).map (bsB v i))[m]?.getD 0).toNat = bsV v i (atB (specM sd ps a n [⟨128, 0⟩]) m) := by
      intro m
      unfold atB
      rw [List.getElem?_map]
      cases hm : (specM sd ps a n [⟨128, 0⟩])[m]? with
      | none => show (0 : UInt8).toNat = bsV v i ⟨0, 0⟩; unfold bsV; rw [h0]; rfl
      | some x =>
        show (byt (bsV v i x)).toNat = bsV v i x
        exact byt_toNat (spec_lt (h0 i) hsb h1 h2 h3 ha hn (hp i hi) x (List.mem_of_getElem? hm))
    rw [hat, hat, hat, hat]
    rfl
  · omega
end Go.Proofs.YtkchalnohkfhbaaDoor
