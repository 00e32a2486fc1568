/- The walk of WireTruncated: the law returns true. Conditions: the integer, the string and the lists are read in memory, of sizes that the lemma names. -/
import Derived.Test.YtbofbihpmhkppaaXc
namespace Go.Proofs.Ytbofbihpmhkppaa
open Go.RowKit
set_option linter.unusedVariables false

theorem got_err {α : Type} {D : Except Nat (List α × Nat)} {V : List α → List Value} {ty : TypeId} {w W' : World} {e : Ending} (h : Got D V ty w e W') (hD : D = .error 3) :
    ∃ (v : Value) (z : Int), e = .returned (.tuple #[v, .int .i64 z, .int .i64 3]) ∧ Below w.heap.size w W' := by
  obtain ⟨A, c, r, z, q, rfl, -, -, h3, -, hb⟩ := got_open h
  rw [hD] at h3
  by_cases hq : q = 0
  · rw [if_pos hq] at h3; cases h3
  · rw [if_neg hq] at h3
    injection h3 with h3
    subst h3
    exact ⟨_, _, rfl, hb⟩
theorem gotD_err {D : Except Nat (List UInt8 × Nat × Nat)} {w W' : World} {e : Ending} (h : GotD D w e W') (hD : D = .error 3) :
    ∃ (v : Value) (z : Int), e = .returned (.tuple #[v, .int .i64 z, .int .i64 3]) ∧ Below w.heap.size w W' := by
  obtain ⟨A, c, n, z, q, r, rfl, -, -, h3, -, hb⟩ := gotD_open h
  rw [hD] at h3
  by_cases hq : q = 0
  · rw [if_pos hq] at h3; cases h3
  · rw [if_neg hq] at h3
    injection h3 with h3
    subst h3
    exact ⟨_, _, rfl, hb⟩
theorem sizes_bound {l : List ByteArray} {b : Nat} (h : ∀ s ∈ l, s.size ≤ b) : sizes l ≤ l.length * (b + 1) := by
  induction l with
  | nil => simp [sizes]
  | cons s l ih =>
    have h1 := h s (by simp)
    have h2 := ih fun x hx => h x (by simp [hx])
    simp only [sizes, List.length_cons]
    rw [Nat.add_mul]; omega
/-- a row of bytes that lies there -/
def RowAt (W : World) (A : Option Addr) (E : List UInt8) : Prop := Reads W W.heap.size 1 A E.length (bytesV E)
theorem RowAt.below {W W' : World} {A : Option Addr} {E : List UInt8} (h : RowAt W A E) (hb : Below W.heap.size W W') : RowAt W' A E := (Reads.below h hb).more hb.size
theorem RowAt.take {W : World} {A : Option Addr} {E : List UInt8} (h : RowAt W A E) {i : Nat} (hi : i ≤ E.length) : Reads W W.heap.size 1 A i (bytesV (E.take i)) := by
  have := Reads.take h hi
  rwa [show (bytesV E).take (i * 1) = bytesV (E.take i) by simp [bytesV, List.map_take]] at this
/-- the five rows and the slice that holds them -/
structure R5 (w : World) (g : Nat) (cs : Array Value) (A0 : Option Addr) (A1 : Option Addr) (A2 : Option Addr) (A3 : Option Addr) (A4 : Option Addr) (E0 : List UInt8) (E1 : List UInt8) (E2 : List UInt8) (E3 : List UInt8) (E4 : List UInt8) (W : World) : Prop where
  b : Below w.heap.size w W
  lt : g < W.heap.size
  blk : Blk W g 46 cs
  r0 : RowAt W A0 E0
  r1 : RowAt W A1 E1
  r2 : RowAt W A2 E2
  r3 : RowAt W A3 E3
  r4 : RowAt W A4 E4
theorem R5.next {w W W1 : World} {g : Nat} {cs : Array Value} {A0 A1 A2 A3 A4 : Option Addr} {E0 E1 E2 E3 E4 : List UInt8} (h : R5 w g cs A0 A1 A2 A3 A4 E0 E1 E2 E3 E4 W) (hb : Below W.heap.size W W1) : R5 w g cs A0 A1 A2 A3 A4 E0 E1 E2 E3 E4 W1 :=
  ⟨below_step h.b (Nat.le_refl _) hb, Nat.lt_of_lt_of_le h.lt hb.size, h.blk.below hb h.lt, h.r0.below hb, h.r1.below hb, h.r2.below hb, h.r3.below hb, h.r4.below hb⟩

set_option maxRecDepth 100000 in
set_option maxHeartbeats 16000000 in
theorem wireTrunc_any (n : Int) (s : ByteArray) (A2 : Option Addr) (n2 c2 : Nat) (l2 : List Int) (A3 : Option Addr) (n3 c3 : Nat) (l3 : List ByteArray) (A4 : Option Addr) (n4 c4 : Nat) (l4 : List UInt8) (w : World)
    (hn : I64 n) (hs : s.size ≤ 140737488351232) (hc2 : n2 ≤ c2) (hm2 : n2 ≤ 140737488351232) (h2 : Reads w w.heap.size 1 A2 n2 (ints l2)) (hI : ∀ x ∈ l2, I64 x)
    (hc3 : n3 ≤ c3) (hm3 : n3 ≤ 140737488351232) (h3 : Reads w w.heap.size 1 A3 n3 (strs l3)) (hz : ∀ s ∈ l3, s.size ≤ 140737488351232)
    (hc4 : n4 ≤ c4) (hm4 : n4 ≤ 140737488351232) (h4 : Reads w w.heap.size 16 A4 n4 (bytesV l4)) :
    Calls Try.prog 12 #[.int .i64 n, .string s, .slice A2 n2 c2, .slice A3 n3 c3, .slice A4 n4 c4] w fun e W' => e = .returned (.bool true) ∧ Below w.heap.size w W' := by
  by_cases hbig : s.size + 9 * n2 + 16 * n4 > 400
  · have hb2 : (s.size : Int) + 9 * (n2 : Int) + 16 * (n4 : Int) > 400 := by omega
    go_enter Try.func12, Try.ntmps12
    go_wp2_with fail
    refine (sanity_any w).mono ?_
    rintro e w1 ⟨rfl, hb⟩
    go_wp2_with fail
    go_ret
    exact ⟨rfl, hb⟩
  have hb2 : ¬ (s.size : Int) + 9 * (n2 : Int) + 16 * (n4 : Int) > 400 := by omega
  by_cases hx : n3 > 40
  · have hx2 : (n3 : Int) > 40 := by omega
    go_enter Try.func12, Try.ntmps12
    go_wp2_with fail
    refine (sanity_any w).mono ?_
    rintro e w1 ⟨rfl, hb⟩
    go_wp2_with fail
    go_ret
    exact ⟨rfl, hb⟩
  have hx2 : ¬ (n3 : Int) > 40 := by omega
  have hz : sizes l3 ≤ 40 * (140737488351232 + 1) := Nat.le_trans (sizes_bound hz) (Nat.mul_le_mul_right _ (by have := h3.str_len; omega))
  by_cases hf : sizes l3 ≤ 2000
  · have el2 := h2.int_len
    have el4 : l4.length = n4 * 16 := by have := h4.1; rw [bytesV_length] at this; exact this
    have L0 := encInt_le n hn
    have L1 := encBytes_le s (by omega)
    have L2 := encInts_le hI (by omega)
    have L3 := sizes_cat hf
    have L4 := encDigs_le el4 (by omega)
    have S0 := decI_short n hn
    have S1 := decB_short s.data.toList (by rw [size_list]; omega)
    have S2 := ints_short l2 (by omega) hI
    have S3 := strs_short l3 (by omega)
    have S4 := decD_short n4 l4 (by omega) el4
    have P0 : 0 < (encInt n).length := by rw [encInt_length]; omega
    have P1 := encBytes_pos s.data.toList
    have P2 : 1 ≤ (encInts l2).length := enc_pos _ _
    have P3 : 1 ≤ (encStrs l3).length := enc_pos _ _
    have P4 : 1 ≤ (encDigs n4 l4).length := enc_pos _ _
    have N2 : n2 ≤ 2000 := by omega
    clear el2 el4
    obtain ⟨E0, e0⟩ : ∃ E, E = encInt n := ⟨_, rfl⟩
    rw [← e0] at L0 S0 P0
    have H0 := Lib.hid e0
    have HS0 := Lib.hid S0
    clear e0 S0
    obtain ⟨E1, e1⟩ : ∃ E, E = encBytes s.data.toList := ⟨_, rfl⟩
    rw [← e1] at L1 S1 P1
    have H1 := Lib.hid e1
    have HS1 := Lib.hid S1
    clear e1 S1
    obtain ⟨E2, e2⟩ : ∃ E, E = encInts l2 := ⟨_, rfl⟩
    rw [← e2] at L2 S2 P2
    have H2 := Lib.hid e2
    have HS2 := Lib.hid S2
    clear e2 S2
    obtain ⟨E3, e3⟩ : ∃ E, E = encStrs l3 := ⟨_, rfl⟩
    rw [← e3] at L3 S3 P3
    have H3 := Lib.hid e3
    have HS3 := Lib.hid S3
    clear e3 S3
    obtain ⟨E4, e4⟩ : ∃ E, E = encDigs n4 l4 := ⟨_, rfl⟩
    rw [← e4] at L4 S4 P4
    have H4 := Lib.hid e4
    have HS4 := Lib.hid S4
    clear e4 S4
    go_enter Try.func12, Try.ntmps12
    go_wp2_with fail
    refine (few_any A3 n3 c3 _ l3 w h3 (by omega)).mono ?_
    rintro e w1 ⟨rfl, hd⟩
    rw [decide_eq_true hf]
    have b1 := hd.below w.heap.size
    clear hd
    go_wp2_with fail
    refine (wInt_any n w1 hn.1 hn.2).mono ?_
    rintro e w2 ⟨v, rfl, hown, hb⟩
    rw [← H0.out] at hown
    obtain ⟨g0, k0, rfl, C0, R0⟩ := made_row1 hown (by omega)
    have T0 : RowAt w2 (some ⟨g0, 0, none⟩) E0 := R0
    have b2 := below_step b1 (Nat.le_refl _) hb
    clear hb hown R0 b1
    go_wp2_with fail
    refine (wBytes_any s w2 (by omega)).mono ?_
    rintro e w3 ⟨v, rfl, hown, hb⟩
    rw [← H1.out] at hown
    obtain ⟨g1, k1, rfl, C1, R1⟩ := made_row1 hown (by omega)
    have T1 : RowAt w3 (some ⟨g1, 0, none⟩) E1 := R1
    have b3 := below_step b2 (Nat.le_refl _) hb
    have T0 := T0.below hb
    clear hb hown R1 b2
    go_wp2_with fail
    refine (wInts_any A2 n2 c2 l2 w3 (h2.below b3 |>.more b3.size) hI (by omega)).mono ?_
    rintro e w4 ⟨v, rfl, hown, hb⟩
    rw [← H2.out] at hown
    obtain ⟨g2, k2, rfl, C2, R2⟩ := made_row1 hown (by omega)
    have T2 : RowAt w4 (some ⟨g2, 0, none⟩) E2 := R2
    have b4 := below_step b3 (Nat.le_refl _) hb
    have T0 := T0.below hb
    have T1 := T1.below hb
    clear hb hown R2 b3
    go_wp2_with fail
    refine (wStrs_any A3 n3 c3 l3 w4 (h3.below b4 |>.more b4.size) (by omega)).mono ?_
    rintro e w5 ⟨v, rfl, hown, hb⟩
    rw [← H3.out] at hown
    obtain ⟨g3, k3, rfl, C3, R3⟩ := made_row1 hown (by omega)
    have T3 : RowAt w5 (some ⟨g3, 0, none⟩) E3 := R3
    have b5 := below_step b4 (Nat.le_refl _) hb
    have T0 := T0.below hb
    have T1 := T1.below hb
    have T2 := T2.below hb
    clear hb hown R3 b4
    go_wp2_with fail
    refine (wDigs_any A4 n4 c4 l4 w5 (h4.below b5 |>.more b5.size) (by omega)).mono ?_
    rintro e w6 ⟨v, rfl, hown, hb⟩
    rw [← H4.out] at hown
    obtain ⟨g4, k4, rfl, C4, R4⟩ := made_row1 hown (by omega)
    have T4 : RowAt w6 (some ⟨g4, 0, none⟩) E4 := R4
    have b6 := below_step b5 (Nat.le_refl _) hb
    have T0 := T0.below hb
    have T1 := T1.below hb
    have T2 := T2.below hb
    have T3 := T3.below hb
    clear hb hown R4 b5
    go_wp2_with fail
    have hal := (Below.refl w6.heap.size w6).alloc (Nat.le_refl _) (.cells #[.slice (some ⟨g0, 0, none⟩) E0.length k0, .slice (some ⟨g1, 0, none⟩) E1.length k1, .slice (some ⟨g2, 0, none⟩) E2.length k2, .slice (some ⟨g3, 0, none⟩) E3.length k3, .slice (some ⟨g4, 0, none⟩) E4.length k4] 46)
    obtain ⟨g, hg⟩ : ∃ g, g = w6.heap.size := ⟨_, rfl⟩
    have HR : R5 w w6.heap.size #[.slice (some ⟨g0, 0, none⟩) E0.length k0, .slice (some ⟨g1, 0, none⟩) E1.length k1, .slice (some ⟨g2, 0, none⟩) E2.length k2, .slice (some ⟨g3, 0, none⟩) E3.length k3, .slice (some ⟨g4, 0, none⟩) E4.length k4] (some ⟨g0, 0, none⟩) (some ⟨g1, 0, none⟩) (some ⟨g2, 0, none⟩) (some ⟨g3, 0, none⟩) (some ⟨g4, 0, none⟩) E0 E1 E2 E3 E4 (w6.alloc (.cells #[.slice (some ⟨g0, 0, none⟩) E0.length k0, .slice (some ⟨g1, 0, none⟩) E1.length k1, .slice (some ⟨g2, 0, none⟩) E2.length k2, .slice (some ⟨g3, 0, none⟩) E3.length k3, .slice (some ⟨g4, 0, none⟩) E4.length k4] 46)) := ⟨below_step b6 (Nat.le_refl _) hal, by simp, Blk.new _ _ _, T0.below hal, T1.below hal, T2.below hal, T3.below hal, T4.below hal⟩
    rw [← hg] at HR ⊢
    clear hg hal b6 T0 T1 T2 T3 T4
    go_loopw [49] (fun i wr => ∃ k : Nat, k ≤ 5 ∧ i = .int .i64 k ∧ R5 w g #[.slice (some ⟨g0, 0, none⟩) E0.length k0, .slice (some ⟨g1, 0, none⟩) E1.length k1, .slice (some ⟨g2, 0, none⟩) E2.length k2, .slice (some ⟨g3, 0, none⟩) E3.length k3, .slice (some ⟨g4, 0, none⟩) E4.length k4] (some ⟨g0, 0, none⟩) (some ⟨g1, 0, none⟩) (some ⟨g2, 0, none⟩) (some ⟨g3, 0, none⟩) (some ⟨g4, 0, none⟩) E0 E1 E2 E3 E4 wr) (fun i _ => 5 - (intOf i).toNat)
    case atStart => exact ⟨0, by omega, rfl, HR⟩
    case round =>
      clear HR
      obtain ⟨k, hk, rfl, HR⟩ := hrel
      obtain ⟨wo, rfl⟩ : ∃ wo : World, wo = wr := ⟨_, rfl⟩
      by_cases hlt : k < 5
      · have hkk : k = 0 ∨ k = 1 ∨ k = 2 ∨ k = 3 ∨ k = 4 := by omega
        rcases hkk with rfl | rfl | rfl | rfl | rfl
        · have c0 : wo.cell? ⟨g, 0, none⟩ = some (.slice (some ⟨g0, 0, none⟩) E0.length k0) := HR.blk.at_ (i := 0) rfl
          obtain ⟨M, hM1, hM2⟩ : ∃ M : Nat, M ≤ E0.length ∧ (M : Int) = (if (500 : Int) < (E0.length : Int) then 500 else (E0.length : Int)) := by
            by_cases h : (500 : Int) < (E0.length : Int)
            · exact ⟨500, by omega, by rw [if_pos h]; rfl⟩
            · exact ⟨E0.length, Nat.le_refl _, by rw [if_neg h]⟩
          have hmin := fun ts t W => run_min_int2 (P := Try.prog) (w := W) ts t .i64 .i64 (E0.length : Int) 500
          rw [← hM2] at hmin
          clear hM2
          go_wp2_with fail
          clear hmin c0
          go_loopw [57] (fun i wr => ∃ j : Nat, j ≤ M ∧ i = .int .i64 j ∧ R5 w g #[.slice (some ⟨g0, 0, none⟩) E0.length k0, .slice (some ⟨g1, 0, none⟩) E1.length k1, .slice (some ⟨g2, 0, none⟩) E2.length k2, .slice (some ⟨g3, 0, none⟩) E3.length k3, .slice (some ⟨g4, 0, none⟩) E4.length k4] (some ⟨g0, 0, none⟩) (some ⟨g1, 0, none⟩) (some ⟨g2, 0, none⟩) (some ⟨g3, 0, none⟩) (some ⟨g4, 0, none⟩) E0 E1 E2 E3 E4 wr) (fun i _ => M - (intOf i).toNat)
          case atStart => exact ⟨0, by omega, rfl, HR⟩
          case round =>
            clear HR
            obtain ⟨j, hj, rfl, HR⟩ := hrel
            obtain ⟨wi, rfl⟩ : ∃ wi : World, wi = wr := ⟨_, rfl⟩
            by_cases hjm : j < M
            · have hji : (j : Int) < (M : Int) := by omega
              have hjc : (j : Int) ≤ (k0 : Int) := by omega
              go_wp2_with fail
              refine (wGetInt_any (some ⟨g0, 0, none⟩) j k0 (E0.take j) wi (HR.r0.take (by omega)) (by omega) (by omega)).mono ?_
              rintro e wj ⟨rfl, hd⟩
              rw [HS0.out j (by omega)]
              simp only [retI]
              have HN := HR.next (hd.below _)
              clear hd HR
              go_wp2_with fail
              go_roundw
              case rel => first | exact ⟨j + 1, by omega, by go_num, HN⟩ | ((repeat apply Exists.intro); exact ⟨⟨j + 1, by omega, by go_num, HN⟩, rfl⟩)
              case measure => simp [intOf]; omega
            · obtain rfl : j = M := by omega
              go_wp2_with fail
              go_roundw
              case rel => exact ⟨1, by omega, by go_num, HR⟩
              case measure => simp [intOf]
        · have c0 : wo.cell? ⟨g, 1, none⟩ = some (.slice (some ⟨g1, 0, none⟩) E1.length k1) := HR.blk.at_ (i := 1) rfl
          obtain ⟨M, hM1, hM2⟩ : ∃ M : Nat, M ≤ E1.length ∧ (M : Int) = (if (500 : Int) < (E1.length : Int) then 500 else (E1.length : Int)) := by
            by_cases h : (500 : Int) < (E1.length : Int)
            · exact ⟨500, by omega, by rw [if_pos h]; rfl⟩
            · exact ⟨E1.length, Nat.le_refl _, by rw [if_neg h]⟩
          have hmin := fun ts t W => run_min_int2 (P := Try.prog) (w := W) ts t .i64 .i64 (E1.length : Int) 500
          rw [← hM2] at hmin
          clear hM2
          go_wp2_with fail
          clear hmin c0
          go_loopw [57] (fun i wr => ∃ j : Nat, j ≤ M ∧ i = .int .i64 j ∧ R5 w g #[.slice (some ⟨g0, 0, none⟩) E0.length k0, .slice (some ⟨g1, 0, none⟩) E1.length k1, .slice (some ⟨g2, 0, none⟩) E2.length k2, .slice (some ⟨g3, 0, none⟩) E3.length k3, .slice (some ⟨g4, 0, none⟩) E4.length k4] (some ⟨g0, 0, none⟩) (some ⟨g1, 0, none⟩) (some ⟨g2, 0, none⟩) (some ⟨g3, 0, none⟩) (some ⟨g4, 0, none⟩) E0 E1 E2 E3 E4 wr) (fun i _ => M - (intOf i).toNat)
          case atStart => exact ⟨0, by omega, rfl, HR⟩
          case round =>
            clear HR
            obtain ⟨j, hj, rfl, HR⟩ := hrel
            obtain ⟨wi, rfl⟩ : ∃ wi : World, wi = wr := ⟨_, rfl⟩
            by_cases hjm : j < M
            · have hji : (j : Int) < (M : Int) := by omega
              have hjc : (j : Int) ≤ (k1 : Int) := by omega
              go_wp2_with fail
              refine (wGetBytes_any (some ⟨g1, 0, none⟩) j k1 (E1.take j) wi (HR.r1.take (by omega)) (by omega) (by omega)).mono ?_
              rintro e wj ⟨rfl, hd⟩
              rw [HS1.out j (by omega)]
              simp only [retB]
              have HN := HR.next (hd.below _)
              clear hd HR
              go_wp2_with fail
              go_roundw
              case rel => first | exact ⟨j + 1, by omega, by go_num, HN⟩ | ((repeat apply Exists.intro); exact ⟨⟨j + 1, by omega, by go_num, HN⟩, rfl⟩)
              case measure => simp [intOf]; omega
            · obtain rfl : j = M := by omega
              go_wp2_with fail
              go_roundw
              case rel => exact ⟨2, by omega, by go_num, HR⟩
              case measure => simp [intOf]
        · have c0 : wo.cell? ⟨g, 2, none⟩ = some (.slice (some ⟨g2, 0, none⟩) E2.length k2) := HR.blk.at_ (i := 2) rfl
          obtain ⟨M, hM1, hM2⟩ : ∃ M : Nat, M ≤ E2.length ∧ (M : Int) = (if (500 : Int) < (E2.length : Int) then 500 else (E2.length : Int)) := by
            by_cases h : (500 : Int) < (E2.length : Int)
            · exact ⟨500, by omega, by rw [if_pos h]; rfl⟩
            · exact ⟨E2.length, Nat.le_refl _, by rw [if_neg h]⟩
          have hmin := fun ts t W => run_min_int2 (P := Try.prog) (w := W) ts t .i64 .i64 (E2.length : Int) 500
          rw [← hM2] at hmin
          clear hM2
          go_wp2_with fail
          clear hmin c0
          go_loopw [57] (fun i wr => ∃ j : Nat, j ≤ M ∧ i = .int .i64 j ∧ R5 w g #[.slice (some ⟨g0, 0, none⟩) E0.length k0, .slice (some ⟨g1, 0, none⟩) E1.length k1, .slice (some ⟨g2, 0, none⟩) E2.length k2, .slice (some ⟨g3, 0, none⟩) E3.length k3, .slice (some ⟨g4, 0, none⟩) E4.length k4] (some ⟨g0, 0, none⟩) (some ⟨g1, 0, none⟩) (some ⟨g2, 0, none⟩) (some ⟨g3, 0, none⟩) (some ⟨g4, 0, none⟩) E0 E1 E2 E3 E4 wr) (fun i _ => M - (intOf i).toNat)
          case atStart => exact ⟨0, by omega, rfl, HR⟩
          case round =>
            clear HR
            obtain ⟨j, hj, rfl, HR⟩ := hrel
            obtain ⟨wi, rfl⟩ : ∃ wi : World, wi = wr := ⟨_, rfl⟩
            by_cases hjm : j < M
            · have hji : (j : Int) < (M : Int) := by omega
              have hjc : (j : Int) ≤ (k2 : Int) := by omega
              go_wp2_with fail
              refine (wGetInts_any (some ⟨g2, 0, none⟩) j k2 (E2.take j) wi (HR.r2.take (by omega)) (by omega) (by omega)).mono ?_
              rintro e wj hG
              obtain ⟨v, z, rfl, hb⟩ := got_err hG (HS2.out j (by omega))
              have HN := HR.next hb
              clear hb HR hG
              go_wp2_with fail
              go_roundw
              case rel => first | exact ⟨j + 1, by omega, by go_num, HN⟩ | ((repeat apply Exists.intro); exact ⟨⟨j + 1, by omega, by go_num, HN⟩, rfl⟩)
              case measure => simp [intOf]; omega
            · obtain rfl : j = M := by omega
              go_wp2_with fail
              go_roundw
              case rel => exact ⟨3, by omega, by go_num, HR⟩
              case measure => simp [intOf]
        · have c0 : wo.cell? ⟨g, 3, none⟩ = some (.slice (some ⟨g3, 0, none⟩) E3.length k3) := HR.blk.at_ (i := 3) rfl
          obtain ⟨M, hM1, hM2⟩ : ∃ M : Nat, M ≤ E3.length ∧ (M : Int) = (if (500 : Int) < (E3.length : Int) then 500 else (E3.length : Int)) := by
            by_cases h : (500 : Int) < (E3.length : Int)
            · exact ⟨500, by omega, by rw [if_pos h]; rfl⟩
            · exact ⟨E3.length, Nat.le_refl _, by rw [if_neg h]⟩
          have hmin := fun ts t W => run_min_int2 (P := Try.prog) (w := W) ts t .i64 .i64 (E3.length : Int) 500
          rw [← hM2] at hmin
          clear hM2
          go_wp2_with fail
          clear hmin c0
          go_loopw [57] (fun i wr => ∃ j : Nat, j ≤ M ∧ i = .int .i64 j ∧ R5 w g #[.slice (some ⟨g0, 0, none⟩) E0.length k0, .slice (some ⟨g1, 0, none⟩) E1.length k1, .slice (some ⟨g2, 0, none⟩) E2.length k2, .slice (some ⟨g3, 0, none⟩) E3.length k3, .slice (some ⟨g4, 0, none⟩) E4.length k4] (some ⟨g0, 0, none⟩) (some ⟨g1, 0, none⟩) (some ⟨g2, 0, none⟩) (some ⟨g3, 0, none⟩) (some ⟨g4, 0, none⟩) E0 E1 E2 E3 E4 wr) (fun i _ => M - (intOf i).toNat)
          case atStart => exact ⟨0, by omega, rfl, HR⟩
          case round =>
            clear HR
            obtain ⟨j, hj, rfl, HR⟩ := hrel
            obtain ⟨wi, rfl⟩ : ∃ wi : World, wi = wr := ⟨_, rfl⟩
            by_cases hjm : j < M
            · have hji : (j : Int) < (M : Int) := by omega
              have hjc : (j : Int) ≤ (k3 : Int) := by omega
              go_wp2_with fail
              refine (wGetStrings_any (some ⟨g3, 0, none⟩) j k3 (E3.take j) wi (HR.r3.take (by omega)) (by omega) (by omega)).mono ?_
              rintro e wj hG
              obtain ⟨v, z, rfl, hb⟩ := got_err hG (HS3.out j (by omega))
              have HN := HR.next hb
              clear hb HR hG
              go_wp2_with fail
              go_roundw
              case rel => first | exact ⟨j + 1, by omega, by go_num, HN⟩ | ((repeat apply Exists.intro); exact ⟨⟨j + 1, by omega, by go_num, HN⟩, rfl⟩)
              case measure => simp [intOf]; omega
            · obtain rfl : j = M := by omega
              go_wp2_with fail
              go_roundw
              case rel => exact ⟨4, by omega, by go_num, HR⟩
              case measure => simp [intOf]
        · have c0 : wo.cell? ⟨g, 4, none⟩ = some (.slice (some ⟨g4, 0, none⟩) E4.length k4) := HR.blk.at_ (i := 4) rfl
          obtain ⟨M, hM1, hM2⟩ : ∃ M : Nat, M ≤ E4.length ∧ (M : Int) = (if (500 : Int) < (E4.length : Int) then 500 else (E4.length : Int)) := by
            by_cases h : (500 : Int) < (E4.length : Int)
            · exact ⟨500, by omega, by rw [if_pos h]; rfl⟩
            · exact ⟨E4.length, Nat.le_refl _, by rw [if_neg h]⟩
          have hmin := fun ts t W => run_min_int2 (P := Try.prog) (w := W) ts t .i64 .i64 (E4.length : Int) 500
          rw [← hM2] at hmin
          clear hM2
          go_wp2_with fail
          clear hmin c0
          go_loopw [57] (fun i wr => ∃ j : Nat, j ≤ M ∧ i = .int .i64 j ∧ R5 w g #[.slice (some ⟨g0, 0, none⟩) E0.length k0, .slice (some ⟨g1, 0, none⟩) E1.length k1, .slice (some ⟨g2, 0, none⟩) E2.length k2, .slice (some ⟨g3, 0, none⟩) E3.length k3, .slice (some ⟨g4, 0, none⟩) E4.length k4] (some ⟨g0, 0, none⟩) (some ⟨g1, 0, none⟩) (some ⟨g2, 0, none⟩) (some ⟨g3, 0, none⟩) (some ⟨g4, 0, none⟩) E0 E1 E2 E3 E4 wr) (fun i _ => M - (intOf i).toNat)
          case atStart => exact ⟨0, by omega, rfl, HR⟩
          case round =>
            clear HR
            obtain ⟨j, hj, rfl, HR⟩ := hrel
            obtain ⟨wi, rfl⟩ : ∃ wi : World, wi = wr := ⟨_, rfl⟩
            by_cases hjm : j < M
            · have hji : (j : Int) < (M : Int) := by omega
              have hjc : (j : Int) ≤ (k4 : Int) := by omega
              go_wp2_with fail
              refine (wGetDigests_any (some ⟨g4, 0, none⟩) j k4 (E4.take j) wi (HR.r4.take (by omega)) (by omega) (by omega)).mono ?_
              rintro e wj hG
              obtain ⟨v, z, rfl, hb⟩ := gotD_err hG (HS4.out j (by omega))
              have HN := HR.next hb
              clear hb HR hG
              go_wp2_with fail
              go_roundw
              case rel => first | exact ⟨j + 1, by omega, by go_num, HN⟩ | ((repeat apply Exists.intro); exact ⟨⟨j + 1, by omega, by go_num, HN⟩, rfl⟩)
              case measure => simp [intOf]; omega
            · obtain rfl : j = M := by omega
              go_wp2_with fail
              go_roundw
              case rel => exact ⟨5, by omega, by go_num, HR⟩
              case measure => simp [intOf]
      · obtain rfl : k = 5 := by omega
        go_wp2_with fail
        refine (sanity_any wo).mono ?_
        rintro e wl ⟨rfl, hb⟩
        go_wp2_with fail
        go_ret
        exact ⟨rfl, below_step HR.b (Nat.le_refl _) hb⟩
  · go_enter Try.func12, Try.ntmps12
    go_wp2_with fail
    refine (few_any A3 n3 c3 _ l3 w h3 (by omega)).mono ?_
    rintro e w1 ⟨rfl, hd⟩
    rw [decide_eq_false hf]
    have b1 := hd.below w.heap.size
    clear hd
    go_wp2_with fail
    refine (sanity_any w1).mono ?_
    rintro e w2 ⟨rfl, hb⟩
    have b2 := below_step b1 (Nat.le_refl _) hb
    go_wp2_with fail
    go_ret
    exact ⟨rfl, b2⟩
end Go.Proofs.Ytbofbihpmhkppaa
