/- The examples of the layer come out as they are specified: the law's sanity returns true in every world. No condition. -/
import Derived.Test.YtbofbihpmhkppaaWr
namespace Go.Proofs.Ytbofbihpmhkppaa
open Go.RowKit

/-- a slice literal of bytes reads as its bytes -/
theorem reads_lit (w : World) (e : TypeId) (cs : Array Value) (n : Nat) (xs : List Value) (h : cs.toList = xs) (hn : cs.size = n) (hm : n ≤ maxLen) :
    Reads (w.alloc (.cells cs e)) (w.alloc (.cells cs e)).heap.size 1 (some ⟨w.heap.size, 0, none⟩) n xs := by
  subst h; subst hn
  exact Reads.of_own (own_new w e cs 0 (Nat.zero_le _) hm)
theorem dec_a : decI [130, 1, 0, 9] = .ok (256, 3) := by kernel_rfl
theorem dec_b : decI [130, 1] = .error 3 := by kernel_rfl
theorem dec_c : decI [129, 0] = .error 2 := by kernel_rfl
theorem dec_d : decB [129, 2, 97, 98, 7] = .ok ([97, 98], 4) := by kernel_rfl
theorem dec_e : decL decI [129, 2, 129, 1, 127] = .ok ([1, -1], 5) := by kernel_rfl
theorem dec_f : decL decS [129, 2, 128, 129, 1, 97, 5] = .ok ([⟨#[]⟩, ⟨#[97]⟩], 6) := by kernel_rfl
theorem enc_a : encInt (-257) = [125, 254, 255] := by kernel_rfl
theorem enc_b : encBytes [97, 98] = [129, 2, 97, 98] := by kernel_rfl
theorem enc_c : encInts [1, -1] = [129, 2, 129, 1, 127] := by kernel_rfl
theorem enc_d : encStrs [⟨#[]⟩, ⟨#[97]⟩] = [129, 2, 128, 129, 1, 97] := by kernel_rfl

theorem reads_litB (w : World) (l : List UInt8) (cs : Array Value) (h : cs.toList = bytesV l) (hm : l.length ≤ 100) :
    Reads (w.alloc (.cells cs 5)) (w.alloc (.cells cs 5)).heap.size 1 (some ⟨w.heap.size, 0, none⟩) l.length (bytesV l) :=
  reads_lit w 5 cs _ _ h (by rw [← Array.length_toList, h, bytesV_length]) (by unfold maxLen; omega)

/-- the digest that starts with 1, 2 -/
def dg : List UInt8 := [1, 2, 0, 0, 0, 0, 0, 0, 0, 0, 0, 0, 0, 0, 0, 0]
theorem enc_e : encDigs 1 dg = 129 :: 1 :: dg := by kernel_rfl
theorem dec_g : decD (encDigs 1 dg) = .ok (dg, 1, 18) := by kernel_rfl
theorem reads_dg (w : World) (o : Obj) (cs : Array Value) (h : cs = (bytesV dg).toArray) :
    Reads ((w.alloc o).alloc (.cells cs 79)) ((w.alloc o).alloc (.cells cs 79)).heap.size 16 (some ⟨w.heap.size + 1, 0, none⟩) 1 (bytesV dg) := by
  refine ⟨rfl, fun _ => ⟨_, rfl, by simp, fun j u hu => ?_⟩⟩
  rw [h]
  have := cells_new (w.alloc o) 79 (bytesV dg) j u hu
  simpa using this
theorem reads_dg1 (w : World) (cs : Array Value) (h : cs = (bytesV dg).toArray) :
    Reads (w.alloc (.cells cs 79)) (w.alloc (.cells cs 79)).heap.size 16 (some ⟨w.heap.size, 0, none⟩) 1 (bytesV dg) := by
  refine ⟨rfl, fun _ => ⟨_, rfl, by simp, fun j u hu => ?_⟩⟩
  rw [h]
  exact cells_new w 79 (bytesV dg) j u hu
theorem blk_dg (w : World) (o : Obj) (cs : Array Value) (h : cs = (bytesV dg).toArray) : Blk ((w.alloc (.cells cs 79)).alloc o) w.heap.size 79 (bytesV dg).toArray := by
  subst h; exact (Blk.new w 79 _).alloc o
/-- what stays while the rest of sanity runs -/
structure Kp (w : World) (g B : Nat) (A5 A7 : Option Addr) (W : World) : Prop where
  b : Below w.heap.size w W
  s : B ≤ W.heap.size
  gs : g < B
  k : Blk W g 79 (bytesV dg).toArray
  q : Reads W g 1 A5 2 (ints [1, -1])
  p : Reads W B 16 A7 1 (bytesV dg)
theorem Kp.below {w W W' : World} {g B : Nat} {A5 A7 : Option Addr} (h : Kp w g B A5 A7 W) (hb : Below W.heap.size W W') : Kp w g B A5 A7 W' :=
  ⟨h.b.trans (hb.mono h.b.size), Nat.le_trans h.s hb.size, h.gs, h.k.below hb (Nat.lt_of_lt_of_le h.gs h.s), h.q.below (hb.mono (Nat.le_trans (Nat.le_of_lt h.gs) h.s)), h.p.below (hb.mono h.s)⟩
theorem Kp.alloc {w W : World} {g B : Nat} {A5 A7 : Option Addr} (h : Kp w g B A5 A7 W) (o : Obj) : Kp w g B A5 A7 (W.alloc o) := h.below ((Below.refl _ W).alloc (Nat.le_refl _) _)
theorem reads_litI (w : World) (l : List Int) (cs : Array Value) (h : cs.toList = ints l) (hm : l.length ≤ 100) :
    Reads (w.alloc (.cells cs 3)) (w.alloc (.cells cs 3)).heap.size 1 (some ⟨w.heap.size, 0, none⟩) l.length (ints l) :=
  reads_lit w 3 cs _ _ h (by rw [← Array.length_toList, h, ints_length]) (by unfold maxLen; omega)
theorem reads_litS (w : World) (l : List ByteArray) (cs : Array Value) (h : cs.toList = strs l) (hm : l.length ≤ 100) :
    Reads (w.alloc (.cells cs 9)) (w.alloc (.cells cs 9)).heap.size 1 (some ⟨w.heap.size, 0, none⟩) l.length (strs l) :=
  reads_lit w 9 cs _ _ h (by rw [← Array.length_toList, h, strs_length]) (by unfold maxLen; omega)
theorem got_open {α : Type} {D : Except Nat (List α × Nat)} {V : List α → List Value} {ty : TypeId} {w W' : World} {e : Ending} (h : Got D V ty w e W') :
    ∃ (A : Option Addr) (c : Nat) (r : List α) (z q : Nat), e = .returned (.tuple #[.slice A r.length c, .int .i64 (z : Int), .int .i64 (q : Int)]) ∧ r.length ≤ c ∧ Reads W' W'.heap.size 1 A r.length (V r) ∧
      D = (if q = 0 then .ok (r, z) else .error q) ∧ (q ≠ 0 → r = [] ∧ z = 0) ∧ Below w.heap.size w W' := by
  obtain ⟨⟨v, z, q, r, rfl, hown, hV, hD, hq⟩, hb⟩ := h
  obtain ⟨A, c, rfl, hc, -, -⟩ := own_slice hown
  exact ⟨A, c, r, z, q, rfl, hc, Reads.of_own hown, hD, hq, hb⟩
theorem got_ok {α : Type} {D : Except Nat (List α × Nat)} {V : List α → List Value} {ty : TypeId} {w W' : World} {e : Ending} {r : List α} {z : Nat} (h : Got D V ty w e W') (hD : D = .ok (r, z)) :
    ∃ (A : Option Addr) (c : Nat), e = .returned (.tuple #[.slice A r.length c, .int .i64 (z : Int), .int .i64 0]) ∧ r.length ≤ c ∧ Reads W' W'.heap.size 1 A r.length (V r) ∧ Below w.heap.size w W' := by
  obtain ⟨A, c, r', z', q, rfl, h1, h2, h3, -, h4⟩ := got_open h
  rw [hD] at h3
  by_cases hq : q = 0
  · subst hq
    rw [if_pos rfl] at h3
    injection h3 with h3
    injection h3 with e1 e2
    subst e1; subst e2
    exact ⟨A, c, rfl, h1, h2, h4⟩
  · rw [if_neg hq] at h3; cases h3
theorem gotD_open {D : Except Nat (List UInt8 × Nat × Nat)} {w W' : World} {e : Ending} (h : GotD D w e W') :
    ∃ (A : Option Addr) (c n z q : Nat) (r : List UInt8), e = .returned (.tuple #[.slice A n c, .int .i64 (z : Int), .int .i64 (q : Int)]) ∧ n ≤ c ∧ Reads W' W'.heap.size 16 A n (bytesV r) ∧
      D = (if q = 0 then .ok (r, n, z) else .error q) ∧ (q ≠ 0 → r = [] ∧ n = 0 ∧ z = 0) ∧ Below w.heap.size w W' := by
  obtain ⟨⟨v, z, q, n, r, rfl, hown, hV, hD, hq⟩, hb⟩ := h
  obtain ⟨A, c, rfl, hc, -, -⟩ := own_slice hown
  exact ⟨A, c, n, z, q, r, rfl, hc, Reads.of_own hown, hD, hq, hb⟩
theorem gotD_ok {D : Except Nat (List UInt8 × Nat × Nat)} {w W' : World} {e : Ending} {r : List UInt8} {n z : Nat} (h : GotD D w e W') (hD : D = .ok (r, n, z)) :
    ∃ (A : Option Addr) (c : Nat), e = .returned (.tuple #[.slice A n c, .int .i64 (z : Int), .int .i64 0]) ∧ n ≤ c ∧ Reads W' W'.heap.size 16 A n (bytesV r) ∧ Below w.heap.size w W' := by
  obtain ⟨A, c, n', z', q, r', rfl, h1, h2, h3, -, h4⟩ := gotD_open h
  rw [hD] at h3
  by_cases hq : q = 0
  · subst hq
    rw [if_pos rfl] at h3
    injection h3 with h3
    injection h3 with e1 e2
    injection e2 with e2 e3
    subst e1; subst e2; subst e3
    exact ⟨A, c, rfl, h1, h2, h4⟩
  · rw [if_neg hq] at h3; cases h3

set_option maxRecDepth 100000 in
set_option maxHeartbeats 2000000 in
theorem sanity_any (w : World) : Calls Try.prog 25 #[] w fun e W' => e = .returned (.bool true) ∧ Below w.heap.size w W' := by
  go_enter Try.func25, Try.ntmps25
  go_wp2_with fail
  refine (wGetInt_any _ 4 4 [130, 1, 0, 9] _ (reads_litB _ _ _ rfl (by decide)) (by omega) (by omega)).mono ?_
  rintro e w1 ⟨rfl, hd⟩
  have b1 : Below w.heap.size w w1 := ((Below.refl _ w).alloc (Nat.le_refl _) _).trans (hd.below _)
  clear hd
  rw [dec_a]
  simp only [retI]
  go_wp2_with fail
  refine (wGetInt_any _ 2 2 [130, 1] _ (reads_litB _ _ _ rfl (by decide)) (by omega) (by omega)).mono ?_
  rintro e w2 ⟨rfl, hd⟩
  have b2 : Below w.heap.size w w2 := (b1.alloc b1.size _).trans (hd.below _)
  clear hd b1
  rw [dec_b]
  simp only [retI]
  go_wp2_with fail
  refine (wGetInt_any _ 2 2 [129, 0] _ (reads_litB _ _ _ rfl (by decide)) (by omega) (by omega)).mono ?_
  rintro e w3 ⟨rfl, hd⟩
  have b3 : Below w.heap.size w w3 := (b2.alloc b2.size _).trans (hd.below _)
  clear hd b2
  rw [dec_c]
  simp only [retI]
  go_wp2_with fail
  refine (wGetBytes_any _ 5 5 [129, 2, 97, 98, 7] _ (reads_litB _ _ _ rfl (by decide)) (by omega) (by omega)).mono ?_
  rintro e w4 ⟨rfl, hd⟩
  have b4 : Below w.heap.size w w4 := (b3.alloc b3.size _).trans (hd.below _)
  clear hd b3
  rw [dec_d]
  simp only [retB]
  go_wp2_with fail
  refine (wGetInts_any _ 5 5 [129, 2, 129, 1, 127] _ (reads_litB _ _ _ rfl (by decide)) (by omega) (by omega)).mono ?_
  rintro e w5 hG
  obtain ⟨A5, c5, rfl, hc5, hr5, hbG⟩ := got_ok hG dec_e
  have b5 : Below w.heap.size w w5 := (b4.alloc b4.size _).trans (hbG.mono (by have := b4.size; simp; omega))
  clear hbG b4 hG
  go_wp2_with fail
  refine (wDigs_any _ 1 1 dg _ (reads_dg _ _ _ rfl) (by omega)).mono ?_
  rintro e w6 ⟨v, rfl, hown, hb⟩
  have k6 := (blk_dg w5 _ _ rfl).below hb (by simp; omega)
  have b6 : Below w.heap.size w w6 := ((b5.alloc b5.size _).alloc (by have := b5.size; simp; omega) _).trans (hb.mono (by have := b5.size; simp; omega))
  have r6 := hr5.below (((Below.refl _ w5).alloc (Nat.le_refl _) _).alloc (by simp) _ |>.trans (hb.mono (by simp; omega)))
  have s6 : w5.heap.size < w6.heap.size := by have := hb.size; simp at this; omega
  obtain ⟨A6, c6, rfl, hc6, -, -⟩ := own_slice hown
  have hr := Reads.of_own hown
  clear hb hown hr5
  rw [show (encDigs 1 dg).length = 18 from rfl] at *
  go_wp2_with fail
  refine (wGetDigests_any _ _ _ (encDigs 1 dg) _ hr (by omega) hc6).mono ?_
  rintro e w7 hG
  obtain ⟨A7, c7, rfl, hc7, r7, hb⟩ := gotD_ok hG dec_g
  have b7 : Below w.heap.size w w7 := b6.trans (hb.mono b6.size)
  have k7 := k6.below hb s6
  have q7 := r6.below (hb.mono (by omega))
  have s7 : w5.heap.size < w7.heap.size := by have := hb.size; omega
  clear hb hG hr hc6 k6 r6 b6
  go_wp2_with fail
  refine (wGetStrings_any _ 7 7 [129, 2, 128, 129, 1, 97, 5] _ (reads_litB _ _ _ rfl (by decide)) (by omega) (by omega)).mono ?_
  rintro e w8 hG
  obtain ⟨A8, c8, rfl, hc8, r8, hb⟩ := got_ok hG dec_f
  have b8 : Below w.heap.size w w8 := (b7.alloc b7.size _).trans (hb.mono (by have := b7.size; simp; omega))
  have k8 := (k7.alloc (.cells (bytesV [129, 2, 128, 129, 1, 97, 5]).toArray 5)).below hb (by simp; omega)
  have q8 := q7.below (((Below.refl _ w7).alloc (by omega) _).trans (hb.mono (by simp; omega)))
  have p8 := r7.below (((Below.refl _ w7).alloc (by omega) _).trans (hb.mono (by simp)))
  have s8 : w7.heap.size < w8.heap.size := by have := hb.size; simp at this; omega
  clear hb hG r7 k7 q7
  go_wp2_with fail
  have K8 : Kp w w5.heap.size w7.heap.size A5 A7 w8 := ⟨b8, by omega, s7, k8, q8, p8⟩
  clear b8 k8 q8 p8 b7
  refine (sameTexts_any _ _ 2 2 _ _ [⟨#[]⟩, ⟨#[97]⟩] [⟨#[]⟩, ⟨#[97]⟩] _ _ (r8.below ((Below.refl _ w8).alloc (Nat.le_refl _) _) |>.more (by simp)) (reads_litS _ _ _ rfl (by decide)) (by omega) (by omega)).mono ?_
  rintro e w9 ⟨rfl, hd⟩
  rw [decide_eq_true rfl]
  have K9 := (K8.alloc _).below (hd.below _)
  clear hd K8 r8
  go_wp2_with fail
  refine (wStrs_any _ 2 2 [⟨#[]⟩, ⟨#[97]⟩] _ (reads_litS _ _ _ rfl (by decide)) (by decide)).mono ?_
  rintro e w10 ⟨v, rfl, hown, hb⟩
  have K10 := (K9.alloc _).below hb
  obtain ⟨A10, c10, rfl, -, -, -⟩ := own_slice hown
  have r10 := Reads.of_own hown
  rw [enc_d] at *
  clear hb hown K9
  go_wp2_with fail
  refine (same_any _ _ 6 6 _ _ [129, 2, 128, 129, 1, 97] [129, 2, 128, 129, 1, 97] _ _ (r10.below ((Below.refl _ w10).alloc (Nat.le_refl _) _) |>.more (by simp)) (reads_litB _ _ _ rfl (by decide)) (by omega) (by omega)).mono ?_
  rintro e w11 ⟨rfl, hd⟩
  rw [decide_eq_true rfl]
  have K11 := (K10.alloc _).below (hd.below _)
  clear hd K10 r10
  go_wp2_with fail
  refine (wInt_any (-257) _ (by omega) (by omega)).mono ?_
  rintro e w12 ⟨v, rfl, hown, hb⟩
  have K12 := K11.below hb
  obtain ⟨A12, c12, rfl, -, -, -⟩ := own_slice hown
  have r12 := Reads.of_own hown
  rw [enc_a] at *
  clear hb hown K11
  go_wp2_with fail
  refine (same_any _ _ 3 3 _ _ [125, 254, 255] [125, 254, 255] _ _ (r12.below ((Below.refl _ w12).alloc (Nat.le_refl _) _) |>.more (by simp)) (reads_litB _ _ _ rfl (by decide)) (by omega) (by omega)).mono ?_
  rintro e w13 ⟨rfl, hd⟩
  rw [decide_eq_true rfl]
  have K13 := (K12.alloc _).below (hd.below _)
  clear hd K12 r12
  go_wp2_with fail
  have q13 := K13.q.alloc (by have := K13.s; have := K13.gs; omega) (.cells (ints [1, -1]).toArray 3)
  refine (sameInts_any _ _ 2 2 _ _ [1, -1] [1, -1] _ _ (q13.more (by have := K13.s; have := K13.gs; simp; omega)) (reads_litI _ _ _ rfl (by decide)) (by omega) (by omega)).mono ?_
  rintro e w14 ⟨rfl, hd⟩
  rw [decide_eq_true rfl]
  have K14 := (K13.alloc _).below (hd.below _)
  clear hd K13 q13
  go_wp2_with fail
  refine (wBytes_any ⟨#[97, 98]⟩ _ (by decide)).mono ?_
  rintro e w15 ⟨v, rfl, hown, hb⟩
  have K15 := K14.below hb
  obtain ⟨A15, c15, rfl, -, -, -⟩ := own_slice hown
  have r15 := Reads.of_own hown
  rw [show (⟨#[97, 98]⟩ : ByteArray).data.toList = [97, 98] from rfl, enc_b] at *
  clear hb hown K14
  go_wp2_with fail
  refine (same_any _ _ 4 4 _ _ [129, 2, 97, 98] [129, 2, 97, 98] _ _ (r15.below ((Below.refl _ w15).alloc (Nat.le_refl _) _) |>.more (by simp)) (reads_litB _ _ _ rfl (by decide)) (by omega) (by omega)).mono ?_
  rintro e w16 ⟨rfl, hd⟩
  rw [decide_eq_true rfl]
  have K16 := (K15.alloc _).below (hd.below _)
  clear hd K15 r15
  go_wp2_with fail
  refine (wInts_any _ 2 2 [1, -1] _ (reads_litI _ _ _ rfl (by decide)) (by simp [I64]) (by omega)).mono ?_
  rintro e w17 ⟨v, rfl, hown, hb⟩
  have K17 := (K16.alloc _).below hb
  obtain ⟨A17, c17, rfl, -, -, -⟩ := own_slice hown
  have r17 := Reads.of_own hown
  rw [enc_c] at *
  clear hb hown K16
  go_wp2_with fail
  refine (same_any _ _ 5 5 _ _ [129, 2, 129, 1, 127] [129, 2, 129, 1, 127] _ _ (r17.below ((Below.refl _ w17).alloc (Nat.le_refl _) _) |>.more (by simp)) (reads_litB _ _ _ rfl (by decide)) (by omega) (by omega)).mono ?_
  rintro e w18 ⟨rfl, hd⟩
  rw [decide_eq_true rfl]
  have K18 := (K17.alloc _).below (hd.below _)
  clear hd K17 r17
  have z0 : w18.cell? ⟨w5.heap.size, 0, none⟩ = some (.int .u8 1) := K18.k.at_ (i := 0) rfl
  have z1 : w18.cell? ⟨w5.heap.size, 1, none⟩ = some (.int .u8 2) := K18.k.at_ (i := 1) rfl
  have z2 : w18.cell? ⟨w5.heap.size, 2, none⟩ = some (.int .u8 0) := K18.k.at_ (i := 2) rfl
  have z3 : w18.cell? ⟨w5.heap.size, 3, none⟩ = some (.int .u8 0) := K18.k.at_ (i := 3) rfl
  have z4 : w18.cell? ⟨w5.heap.size, 4, none⟩ = some (.int .u8 0) := K18.k.at_ (i := 4) rfl
  have z5 : w18.cell? ⟨w5.heap.size, 5, none⟩ = some (.int .u8 0) := K18.k.at_ (i := 5) rfl
  have z6 : w18.cell? ⟨w5.heap.size, 6, none⟩ = some (.int .u8 0) := K18.k.at_ (i := 6) rfl
  have z7 : w18.cell? ⟨w5.heap.size, 7, none⟩ = some (.int .u8 0) := K18.k.at_ (i := 7) rfl
  have z8 : w18.cell? ⟨w5.heap.size, 8, none⟩ = some (.int .u8 0) := K18.k.at_ (i := 8) rfl
  have z9 : w18.cell? ⟨w5.heap.size, 9, none⟩ = some (.int .u8 0) := K18.k.at_ (i := 9) rfl
  have z10 : w18.cell? ⟨w5.heap.size, 10, none⟩ = some (.int .u8 0) := K18.k.at_ (i := 10) rfl
  have z11 : w18.cell? ⟨w5.heap.size, 11, none⟩ = some (.int .u8 0) := K18.k.at_ (i := 11) rfl
  have z12 : w18.cell? ⟨w5.heap.size, 12, none⟩ = some (.int .u8 0) := K18.k.at_ (i := 12) rfl
  have z13 : w18.cell? ⟨w5.heap.size, 13, none⟩ = some (.int .u8 0) := K18.k.at_ (i := 13) rfl
  have z14 : w18.cell? ⟨w5.heap.size, 14, none⟩ = some (.int .u8 0) := K18.k.at_ (i := 14) rfl
  have z15 : w18.cell? ⟨w5.heap.size, 15, none⟩ = some (.int .u8 0) := K18.k.at_ (i := 15) rfl
  go_wp2_with fail
  refine (sameDigs_any _ _ 1 _ _ dg dg _ _ (K18.p.alloc K18.s _ |>.more (Nat.le_trans K18.s (by simp))) (reads_dg1 _ _ rfl) (by omega)).mono ?_
  rintro e w19 ⟨rfl, hd⟩
  rw [decide_eq_true rfl]
  have K19 := (K18.alloc _).below (hd.below _)
  clear hd K18
  go_wp2_with fail
  go_ret
  exact ⟨rfl, K19.b⟩
end Go.Proofs.Ytbofbihpmhkppaa
