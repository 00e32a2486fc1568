/- The walk of WireCanonical: the law returns true. Conditions: the bytes are read in memory, of a length that a slice can have. -/
import Derived.Test.YtbofbihpmhkppaaXa
namespace Go.Proofs.Ytbofbihpmhkppaa
open Go.RowKit
set_option linter.unusedVariables false

set_option maxRecDepth 100000 in
set_option maxHeartbeats 2000000 in
theorem is_any (g m c B : Nat) (A : Option Addr) (l : List UInt8) (C : Option Addr) (k cc : Nat) (E : List UInt8) (u q : Nat) (w : World) (hb : Blk w g 46 #[.slice A m c]) (hl : Reads w B 1 A m (bytesV l)) (hE : Reads w B 1 C k (bytesV E))
    (hm : m ≤ 2000) (hmc : m ≤ c) (hk : k ≤ 100000) (h : q = 0 → 1 ≤ u ∧ u ≤ m ∧ E = l.take u) :
    Calls Try.prog 49 #[.slice C k cc, .int .i64 (u : Int), .int .i64 (q : Int), .pointer (some ⟨g, 0, none⟩)] w fun e w' => e = .returned (.bool true) ∧ Drawn w w' := by
  have c0 : w.cell? ⟨g, 0, none⟩ = some (.slice A m c) := hb.at_ (i := 0) rfl
  by_cases hq : q = 0
  · subst hq
    obtain ⟨h1, h2, h3⟩ := h rfl
    obtain ⟨ad, rfl, -⟩ := hl.byte_at (k := 0) (by omega)
    have hT := Reads.take hl (k := u) (by omega)
    have e0 : (bytesV l).take (u * 1) = bytesV E := by rw [h3]; simp [bytesV, List.map_take]
    rw [e0] at hT
    have H3 := Lib.hid h3
    have k1 : (0 : Int) ≤ (u : Int) := by omega
    have k2 : (u : Int) ≤ (m : Int) := by omega
    have k3 : (u : Int) ≤ (c : Int) := by omega
    clear h h3 e0
    go_enter Try.func49, Try.ntmps49
    go_wp2_with fail
    refine (same_any C (some ad) k u cc c E E B w hE hT (by omega) (by omega)).mono ?_
    rintro e w1 ⟨rfl, hd⟩
    rw [decide_eq_true rfl]
    go_wp2_with fail
    go_ret
    exact ⟨rfl, hd⟩
  · have hq2 : ((q : Int) != 0) = true := by simp; omega
    go_enter Try.func49, Try.ntmps49
    go_wp2_with fail
    go_ret
    exact ⟨rfl, 0, rfl⟩

/-- what was decoded, in one form for both cases -/
theorem canI (l : List UInt8) : ∃ (x : Int) (u q : Nat), retI (decI l) = .tuple #[.int .i64 x, .int .i64 (u : Int), .int .i64 (q : Int)] ∧ I64 x ∧ (q = 0 → 1 ≤ u ∧ u ≤ l.length ∧ encInt x = l.take u) := by
  cases hD : decI l with
  | error e => exact ⟨0, 0, e, rfl, by unfold I64; omega, fun h => by have := decI_err hD; omega⟩
  | ok p =>
    obtain ⟨x, u⟩ := p
    obtain ⟨h1, h2, h3, h4, h5⟩ := decI_canon l x u hD
    exact ⟨x, u, 0, rfl, h1, fun _ => ⟨h2, h4, h5⟩⟩
theorem canB (l : List UInt8) : ∃ (s : ByteArray) (u q : Nat), retB (decB l) = .tuple #[.string s, .int .i64 (u : Int), .int .i64 (q : Int)] ∧ s.size ≤ l.length ∧ (q = 0 → 1 ≤ u ∧ u ≤ l.length ∧ encBytes s.data.toList = l.take u) := by
  cases hD : decB l with
  | error e =>
    have he : e = 2 ∨ e = 3 := by
      unfold decB at hD
      cases hC : decC 1 l with
      | error e' => rw [hC] at hD; simp at hD; subst hD; exact decC_err hC
      | ok p => obtain ⟨n, u⟩ := p; rw [hC] at hD; simp at hD
    exact ⟨⟨#[]⟩, 0, e, rfl, Nat.zero_le _, fun h => by omega⟩
  | ok p =>
    obtain ⟨s, u⟩ := p
    obtain ⟨h1, h2, h3⟩ := decB_canon hD
    refine ⟨⟨s.toArray⟩, u, 0, rfl, ?_, fun _ => ⟨?_, h2, by simpa using h1⟩⟩
    · rw [← size_list]; simpa using h3
    · have := congrArg List.length h1
      have h4 := encBytes_pos s
      rw [List.length_take] at this; omega
theorem can_pos {E l : List UInt8} {u : Nat} (h : E = l.take u) (hE : 1 ≤ E.length) : 1 ≤ u := by
  have := congrArg List.length h
  rw [List.length_take] at this; omega
/-- the numbers that are decoded have 64 bits -/
theorem decN_mem {α : Type} {f : List UInt8 → Except Nat (α × Nat)} {P : α → Prop} (hf : ∀ b x u, f b = .ok (x, u) → P x) {b : List UInt8} : ∀ {k at_ : Nat} {r : List α} {z : Nat}, decN f b k at_ = .ok (r, z) → ∀ x ∈ r, P x
  | 0, at_, r, z, h => by simp [decN] at h; simp [h.1]
  | k + 1, at_, r, z, h => by
    unfold decN at h
    cases hq : f (b.drop at_) with
    | error e => rw [hq] at h; simp at h
    | ok q =>
      obtain ⟨x, u⟩ := q
      rw [hq] at h
      dsimp only at h
      cases hn : decN f b k (at_ + u) with
      | error e => rw [hn] at h; simp at h
      | ok q =>
        obtain ⟨r', z'⟩ := q
        rw [hn] at h
        simp only [Except.ok.injEq, Prod.mk.injEq] at h
        rw [← h.1]
        intro y hy
        rcases List.mem_cons.1 hy with rfl | hy
        · exact hf _ _ _ hq
        · exact decN_mem hf hn y hy
theorem canL {α : Type} {f : List UInt8 → Except Nat (α × Nat)} {P : α → Prop} (hf : ∀ b x u, f b = .ok (x, u) → P x) {l : List UInt8} {r : List α} {z q : Nat} (h : decL f l = (if q = 0 then .ok (r, z) else .error q)) (h0 : q ≠ 0 → r = [] ∧ z = 0) : ∀ x ∈ r, P x := by
  by_cases e : q = 0
  · rw [if_pos e] at h
    unfold decL at h
    cases hC : decC 1 l with
    | error e => rw [hC] at h; simp at h
    | ok p => obtain ⟨n, u⟩ := p; rw [hC] at h; exact decN_mem hf h
  · obtain ⟨rfl, -⟩ := h0 e; simp
theorem sizes_flat (r : List ByteArray) : sizes r ≤ (r.flatMap fun s => encBytes s.data.toList).length := by
  induction r with
  | nil => simp [sizes]
  | cons s r ih =>
    rw [List.flatMap_cons, List.length_append, sizes]
    have : s.size + 1 ≤ (encBytes s.data.toList).length := by unfold encBytes; rw [List.length_append, encInt_length, size_list]; omega
    omega
theorem canS {l : List UInt8} {r : List ByteArray} {z q : Nat} (h : decL decS l = (if q = 0 then .ok (r, z) else .error q)) (h0 : q ≠ 0 → r = [] ∧ z = 0) : sizes r ≤ l.length := by
  by_cases e : q = 0
  · rw [if_pos e] at h
    obtain ⟨h1, h2⟩ := strs_canon h
    have h3 := congrArg List.length h1
    have h4 := sizes_flat r
    unfold encStrs catS at h3
    rw [List.length_append, List.length_take] at h3; omega
  · obtain ⟨rfl, -⟩ := h0 e; simp [sizes]

set_option maxRecDepth 100000 in
set_option maxHeartbeats 8000000 in
theorem wireCanonical_any (A : Option Addr) (m c : Nat) (l : List UInt8) (w : World) (hmc : m ≤ c) (hm : m ≤ 140737488351232) (hl : Reads w w.heap.size 1 A m (bytesV l)) :
    Calls Try.prog 10 #[.slice A m c] w fun e W' => e = .returned (.bool true) ∧ Below w.heap.size w W' := by
  have hB := Blk.new w 46 #[.slice A m c]
  have b0 : Below w.heap.size w (w.alloc (.cells #[.slice A m c] 46)) := (Below.refl _ w).alloc (Nat.le_refl _) _
  have g0 : w.heap.size < (w.alloc (.cells #[.slice A m c] 46)).heap.size := by simp
  by_cases hbig : m > 2000
  · have hb2 : (m : Int) > 2000 := by omega
    go_enter Try.func10, Try.ntmps10
    go_wp2_with fail
    refine (sanity_any _).mono ?_
    rintro e w1 ⟨rfl, hb⟩
    go_wp2_with fail
    go_ret
    exact ⟨rfl, below_step b0 (Nat.le_refl _) hb⟩
  · have hb2 : ¬ (m : Int) > 2000 := by omega
    have el := hl.byte_len
    have hm2 : m ≤ 2000 := by omega
    obtain ⟨x1, u1, q1, e1, I1, K1⟩ := canI l
    obtain ⟨x2, u2, q2, e2, I2, K2⟩ := canB l
    rw [el] at K1 K2 I2
    have HL := Lib.hid el
    have E1 := Lib.hid e1
    have E2 := Lib.hid e2
    have HK1 := Lib.hid K1
    have HK2 := Lib.hid K2
    have L1 := encInt_le x1 I1
    have L2 := encBytes_le x2 (by omega)
    clear el e1 e2 K1 K2
    obtain ⟨g, hg⟩ : ∃ g, g = w.heap.size := ⟨_, rfl⟩
    go_enter Try.func10, Try.ntmps10
    go_wp2_with fail
    rw [← hg] at hB g0 ⊢
    obtain ⟨w0, hw0⟩ : ∃ w0, w0 = w.alloc (.cells #[.slice A m c] 46) := ⟨_, rfl⟩
    rw [← hw0] at hB b0 g0 ⊢
    have b0' := b0
    have gB : Below g w w0 := hg ▸ b0
    clear hw0 hg
    have c0 : w0.cell? ⟨g, 0, none⟩ = some (.slice A m c) := hB.at_ (i := 0) rfl
    refine (wGetInt_any A m c l w0 (hl.below b0 |>.more b0.size) (by omega) hmc).mono ?_
    rintro e w1 ⟨rfl, hd⟩
    have hb := hd.below w0.heap.size
    rw [E1.out]
    have b1 := below_step b0 (Nat.le_refl _) hb
    have hB := hB.below hb g0
    have g0 := Nat.lt_of_lt_of_le g0 hb.size
    clear hb hd c0
    have c1 : w1.cell? ⟨g, 0, none⟩ = some (.slice A m c) := hB.at_ (i := 0) rfl
    go_wp2_with fail
    refine (wGetBytes_any A m c l w1 (hl.below b1 |>.more b1.size) (by omega) hmc).mono ?_
    rintro e w2 ⟨rfl, hd⟩
    have hb := hd.below w1.heap.size
    rw [E2.out]
    have b2 := below_step b1 (Nat.le_refl _) hb
    have hB := hB.below hb g0
    have g0 := Nat.lt_of_lt_of_le g0 hb.size
    clear hb hd c1
    have c2 : w2.cell? ⟨g, 0, none⟩ = some (.slice A m c) := hB.at_ (i := 0) rfl
    go_wp2_with fail
    refine (wGetInts_any A m c l w2 (hl.below b2 |>.more b2.size) (by omega) hmc).mono ?_
    rintro e w3 hG
    obtain ⟨A3, c3, r3, u3, q3, rfl, C3, R3, f, h0, hb⟩ := got_open hG
    have b3 := below_step b2 (Nat.le_refl _) hb
    have hB := hB.below hb g0
    have g0 := Nat.lt_of_lt_of_le g0 hb.size
    have I3 := canL (P := I64) (fun b x u h => (decI_canon b x u h).1) f h0
    have N3 := got_len f h0
    rw [HL.out] at N3
    have L3 := encInts_le I3 (by omega)
    have K3 : q3 = 0 → 1 ≤ u3 ∧ u3 ≤ m ∧ encInts r3 = l.take u3 := fun e => by
      rw [if_pos e] at f
      obtain ⟨h1, h2⟩ := ints_canon f
      exact ⟨can_pos h1 (enc_pos _ _), by rw [← HL.out]; exact h2, h1⟩
    have HK3 := Lib.hid K3
    clear hb hG f h0 K3 c2
    have c3 : w3.cell? ⟨g, 0, none⟩ = some (.slice A m c) := hB.at_ (i := 0) rfl
    go_wp2_with fail
    refine (wGetStrings_any A m c l w3 (hl.below b3 |>.more b3.size) (by omega) hmc).mono ?_
    rintro e w4 hG
    obtain ⟨A4, c4, r4, u4, q4, rfl, C4, R4, f, h0, hb⟩ := got_open hG
    have b4 := below_step b3 (Nat.le_refl _) hb
    have hB := hB.below hb g0
    have g0 := Nat.lt_of_lt_of_le g0 hb.size
    have R3 := R3.below hb
    have R3 := R3.more hb.size
    have I4 := canS f h0
    have N4 := got_len f h0
    rw [HL.out] at I4 N4
    have L4 := sizes_cat (l := r4) (by omega)
    have K4 : q4 = 0 → 1 ≤ u4 ∧ u4 ≤ m ∧ encStrs r4 = l.take u4 := fun e => by
      rw [if_pos e] at f
      obtain ⟨h1, h2⟩ := strs_canon f
      exact ⟨can_pos h1 (enc_pos _ _), by rw [← HL.out]; exact h2, h1⟩
    have HK4 := Lib.hid K4
    clear hb hG f h0 K4 c3
    have c4 : w4.cell? ⟨g, 0, none⟩ = some (.slice A m c) := hB.at_ (i := 0) rfl
    go_wp2_with fail
    refine (wGetDigests_any A m c l w4 (hl.below b4 |>.more b4.size) (by omega) hmc).mono ?_
    rintro e w5 hG
    obtain ⟨A5, c5, n5, u5, q5, r5, rfl, C5, R5, f, h0, hb⟩ := gotD_open hG
    have b5 := below_step b4 (Nat.le_refl _) hb
    have hB := hB.below hb g0
    have g0 := Nat.lt_of_lt_of_le g0 hb.size
    have R3 := R3.below hb
    have R3 := R3.more hb.size
    have R4 := R4.below hb
    have R4 := R4.more hb.size
    have N5 := gotD_len f h0
    rw [HL.out] at N5
    have L5 := encDigs_le (n := n5) (l := r5) (by have := R5.1; rw [bytesV_length] at this; exact this) (by omega)
    have K5 : q5 = 0 → 1 ≤ u5 ∧ u5 ≤ m ∧ encDigs n5 r5 = l.take u5 := fun e => by
      rw [if_pos e] at f
      obtain ⟨h1, h2⟩ := decD_canon f
      exact ⟨can_pos h1 (enc_pos _ _), by rw [← HL.out]; exact h2, h1⟩
    have HK5 := Lib.hid K5
    clear hb hG f h0 K5 c4
    go_wp2_with fail
    refine (sanity_any w5).mono ?_
    rintro e w6 ⟨rfl, hb⟩
    have b6 := below_step b5 (Nat.le_refl _) hb
    have hB := hB.below hb g0
    have g0 := Nat.lt_of_lt_of_le g0 hb.size
    have R3 := R3.below hb
    have R3 := R3.more hb.size
    have R4 := R4.below hb
    have R4 := R4.more hb.size
    have R5 := R5.below hb
    have R5 := R5.more hb.size
    clear hb
    go_wp2_with fail
    refine (wInt_any x1 w6 I1.1 I1.2).mono ?_
    rintro e w7 ⟨v, rfl, hown, hb⟩
    obtain ⟨D1, d1, rfl, -, S1⟩ := made_row hown
    have b7 := below_step b6 (Nat.le_refl _) hb
    have hB := hB.below hb g0
    have g0 := Nat.lt_of_lt_of_le g0 hb.size
    have R3 := R3.below hb
    have R3 := R3.more hb.size
    have R4 := R4.below hb
    have R4 := R4.more hb.size
    have R5 := R5.below hb
    have R5 := R5.more hb.size
    clear hb hown
    go_wp2_with fail
    refine (is_any g m c w7.heap.size A l D1 _ d1 (encInt x1) u1 q1 w7 hB (hl.below b7 |>.more b7.size) S1 hm2 hmc (by omega) HK1.out).mono ?_
    rintro e w8 ⟨rfl, hd⟩
    have hb := hd.below w7.heap.size
    have b8 := below_step b7 (Nat.le_refl _) hb
    have hB := hB.below hb g0
    have g0 := Nat.lt_of_lt_of_le g0 hb.size
    have R3 := R3.below hb
    have R3 := R3.more hb.size
    have R4 := R4.below hb
    have R4 := R4.more hb.size
    have R5 := R5.below hb
    have R5 := R5.more hb.size
    clear hb hd S1
    go_wp2_with fail
    refine (wBytes_any x2 w8 (by omega)).mono ?_
    rintro e w9 ⟨v, rfl, hown, hb⟩
    obtain ⟨D2, d2, rfl, -, S2⟩ := made_row hown
    have b9 := below_step b8 (Nat.le_refl _) hb
    have hB := hB.below hb g0
    have g0 := Nat.lt_of_lt_of_le g0 hb.size
    have R3 := R3.below hb
    have R3 := R3.more hb.size
    have R4 := R4.below hb
    have R4 := R4.more hb.size
    have R5 := R5.below hb
    have R5 := R5.more hb.size
    clear hb hown
    go_wp2_with fail
    refine (is_any g m c w9.heap.size A l D2 _ d2 (encBytes x2.data.toList) u2 q2 w9 hB (hl.below b9 |>.more b9.size) S2 hm2 hmc (by omega) HK2.out).mono ?_
    rintro e w10 ⟨rfl, hd⟩
    have hb := hd.below w9.heap.size
    have b10 := below_step b9 (Nat.le_refl _) hb
    have hB := hB.below hb g0
    have g0 := Nat.lt_of_lt_of_le g0 hb.size
    have R3 := R3.below hb
    have R3 := R3.more hb.size
    have R4 := R4.below hb
    have R4 := R4.more hb.size
    have R5 := R5.below hb
    have R5 := R5.more hb.size
    clear hb hd S2
    go_wp2_with fail
    refine (wInts_any A3 _ c3 r3 w10 R3 I3 (by omega)).mono ?_
    rintro e w11 ⟨v, rfl, hown, hb⟩
    obtain ⟨D3, d3, rfl, -, S3⟩ := made_row hown
    have b11 := below_step b10 (Nat.le_refl _) hb
    have hB := hB.below hb g0
    have g0 := Nat.lt_of_lt_of_le g0 hb.size
    have R4 := R4.below hb
    have R4 := R4.more hb.size
    have R5 := R5.below hb
    have R5 := R5.more hb.size
    clear hb hown
    go_wp2_with fail
    refine (is_any g m c w11.heap.size A l D3 _ d3 (encInts r3) u3 q3 w11 hB (hl.below b11 |>.more b11.size) S3 hm2 hmc (by omega) HK3.out).mono ?_
    rintro e w12 ⟨rfl, hd⟩
    have hb := hd.below w11.heap.size
    have b12 := below_step b11 (Nat.le_refl _) hb
    have hB := hB.below hb g0
    have g0 := Nat.lt_of_lt_of_le g0 hb.size
    have R4 := R4.below hb
    have R4 := R4.more hb.size
    have R5 := R5.below hb
    have R5 := R5.more hb.size
    clear hb hd S3
    go_wp2_with fail
    refine (wStrs_any A4 _ c4 r4 w12 R4 (by omega)).mono ?_
    rintro e w13 ⟨v, rfl, hown, hb⟩
    obtain ⟨D4, d4, rfl, -, S4⟩ := made_row hown
    have b13 := below_step b12 (Nat.le_refl _) hb
    have hB := hB.below hb g0
    have g0 := Nat.lt_of_lt_of_le g0 hb.size
    have R5 := R5.below hb
    have R5 := R5.more hb.size
    clear hb hown
    go_wp2_with fail
    refine (is_any g m c w13.heap.size A l D4 _ d4 (encStrs r4) u4 q4 w13 hB (hl.below b13 |>.more b13.size) S4 hm2 hmc (by omega) HK4.out).mono ?_
    rintro e w14 ⟨rfl, hd⟩
    have hb := hd.below w13.heap.size
    have b14 := below_step b13 (Nat.le_refl _) hb
    have hB := hB.below hb g0
    have g0 := Nat.lt_of_lt_of_le g0 hb.size
    have R5 := R5.below hb
    have R5 := R5.more hb.size
    clear hb hd S4
    go_wp2_with fail
    refine (wDigs_any A5 n5 c5 r5 w14 R5 (by omega)).mono ?_
    rintro e w15 ⟨v, rfl, hown, hb⟩
    obtain ⟨D5, d5, rfl, -, S5⟩ := made_row hown
    have b15 := below_step b14 (Nat.le_refl _) hb
    have hB := hB.below hb g0
    have g0 := Nat.lt_of_lt_of_le g0 hb.size
    clear hb hown
    go_wp2_with fail
    refine (is_any g m c w15.heap.size A l D5 _ d5 (encDigs n5 r5) u5 q5 w15 hB (hl.below b15 |>.more b15.size) S5 hm2 hmc (by omega) HK5.out).mono ?_
    rintro e w16 ⟨rfl, hd⟩
    have hb := hd.below w15.heap.size
    have b16 := below_step b15 (Nat.le_refl _) hb
    have hB := hB.below hb g0
    have g0 := Nat.lt_of_lt_of_le g0 hb.size
    clear hb hd S5
    go_wp2_with fail
    go_ret
    exact ⟨rfl, b16⟩
end Go.Proofs.Ytbofbihpmhkppaa
