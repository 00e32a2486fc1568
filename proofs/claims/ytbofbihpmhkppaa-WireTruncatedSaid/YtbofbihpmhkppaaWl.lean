/- Both functions GetStrings, for any bytes, return the same decoded strings or error. Conditions: at most 100000 bytes. -/
import Derived.Test.YtbofbihpmhkppaaWk
namespace Go.Proofs.Ytbofbihpmhkppaa
open Go.RowKit

theorem strs_snoc (l : List ByteArray) (x : ByteArray) : strs (l ++ [x]) = strs l ++ [.string x] := by simp [strs]
/-- a byte string as a value -/
def decS (b : List UInt8) : Except Nat (ByteArray × Nat) :=
  match decB b with
  | .error e => .error e
  | .ok (s, u) => .ok (⟨s.toArray⟩, u)
theorem decS_err {b : List UInt8} {q : Nat} (h : decS b = .error q) : decB b = .error q ∧ (q = 2 ∨ q = 3) := by
  unfold decS at h
  cases hB : decB b with
  | error e =>
    rw [hB] at h
    simp at h; subst h
    refine ⟨rfl, ?_⟩
    unfold decB at hB
    cases hC : decC 1 b with
    | error e' => rw [hC] at hB; simp at hB; subst hB; exact decC_err hC
    | ok p => obtain ⟨n, u⟩ := p; rw [hC] at hB; simp at hB
  | ok p => obtain ⟨s, u⟩ := p; rw [hB] at h; simp at h
theorem decS_ok {b : List UInt8} {s : ByteArray} {u : Nat} (h : decS b = .ok (s, u)) : ∃ t, decB b = .ok (t, u) ∧ s = ⟨t.toArray⟩ ∧ u ≤ b.length := by
  unfold decS at h
  cases hB : decB b with
  | error e => rw [hB] at h; simp at h
  | ok p =>
    obtain ⟨t, v⟩ := p
    rw [hB] at h
    simp only [Except.ok.injEq, Prod.mk.injEq] at h
    obtain ⟨h1, rfl⟩ := h
    refine ⟨t, rfl, h1.symm, ?_⟩
    unfold decB at hB
    cases hC : decC 1 b with
    | error e' => rw [hC] at hB; simp at hB
    | ok p =>
      obtain ⟨n, u⟩ := p
      rw [hC] at hB
      simp only [Except.ok.injEq, Prod.mk.injEq] at hB
      have := (decC_ok hC (by omega)).2
      omega
theorem info_str : ∃ i, Try.prog.info? 9 = some i ∧ i.zero = some (.string ⟨#[]⟩) ∧ i.size = 1 ∧ i.bytes = 16 := ⟨_, rfl, rfl, rfl, rfl⟩

set_option maxRecDepth 100000 in
set_option maxHeartbeats 1000000 in
theorem rGetStrings_any (A : Option Addr) (n c : Nat) (l : List UInt8) (w : World) (hl : Reads w w.heap.size 1 A n (bytesV l)) (hn : n ≤ 100000) (hnc : n ≤ c) :
    Calls Try.prog 44 #[.slice A n c] w (Got (decL decS l) strs 9 w) := by
  have el := hl.byte_len
  cases hD : decC 1 l with
  | error q =>
    have hq : (q : Int) ≠ 0 := by rcases decC_err hD with h | h <;> omega
    go_enter Try.func44, Try.ntmps44
    go_wp2_with fail
    refine (rCount_any A n c 1 l w hl hn hnc (by omega) (by omega)).mono ?_
    rintro e w1 ⟨⟨x, y, z, rfl, h1, -⟩, hb⟩
    obtain rfl := h1 q hD
    go_wp2_with fail
    go_ret3
    exact ⟨⟨_, 0, q, [], rfl, World.ownsRow_nil _ _ _ _, rfl, by rw [decL_err hD, if_neg (by omega)], fun _ => ⟨rfl, rfl⟩⟩, hb⟩
  | ok p =>
    obtain ⟨m, u⟩ := p
    obtain ⟨hI, hu⟩ := decC_ok hD (by omega)
    have hu0 : 0 < u := by have := decI_canon l _ _ hI; omega
    have hA : ∃ ad, A = some ad := by obtain ⟨ad, h, -⟩ := hl.byte_at (k := 0) (by omega); exact ⟨ad, h⟩
    obtain ⟨ad, rfl⟩ := hA
    obtain ⟨i0, hi, hz0, hz1, hz2⟩ := info_str
    have hdl := decL_ok (f := decS) hD
    obtain ⟨R, hR⟩ : ∃ R, R = decL decS l := ⟨_, rfl⟩
    rw [← hR] at hdl ⊢
    have HDL := Lib.hid hdl
    clear hdl hR
    go_enter Try.func44, Try.ntmps44
    go_wp2_with fail
    refine (rCount_any (some ad) n c 1 l w hl hn hnc (by omega) (by omega)).mono ?_
    rintro e w1 ⟨⟨x, y, z, rfl, -, h2⟩, hb⟩
    obtain ⟨rfl, rfl, rfl⟩ := h2 (m, u) hD
    dsimp only
    clear h2
    go_wp2_with fail
    go_loopw [6, 8, 9] (fun a v i wr => ∃ (j p : Nat) (acc : List ByteArray), j ≤ m ∧ i = .int .i64 j ∧ a = .int .i64 p ∧ p ≤ n ∧ acc.length = j ∧ Hid (R = pre acc (decN decS l (m - j) p)) ∧ wr.ownsRow w.heap.size 9 1 v acc.length (strs acc) ∧ Below w.heap.size w wr) (fun _ _ i _ => m - (intOf i).toNat)
    case atStart => exact ⟨0, u, [], by omega, rfl, rfl, by omega, rfl, Lib.hid (by rw [pre_nil]; exact HDL.out), World.ownsRow_nil _ _ _ _, hb⟩
    case round =>
      obtain ⟨j, q, acc, hj, rfl, rfl, hq, hlen, HI, hown, hnx⟩ := hrel
      obtain ⟨wo, rfl⟩ : ∃ wo : World, wo = wr := ⟨_, rfl⟩
      have HL := Lib.hid hlen
      clear hlen
      by_cases hlt : j < m
      · have hji : (j : Int) < (m : Int) := by omega
        have HI2 : Hid (R = pre acc (decN decS l ((m - j - 1) + 1) q)) := by rw [show m - j - 1 + 1 = m - j by omega]; exact HI
        have b4 : (q : Int) ≤ (n : Int) := by omega
        have b5 : (q : Int) ≤ (c : Int) := by omega
        by_cases hcq : c = q
        · have hE : decS (l.drop q) = .error 3 := by rw [List.drop_of_length_le (by omega)]; rfl
          have hnq : n = q := by omega
          go_wp2_with fail
          refine (rGetBytes_any (some ad) 0 0 (l.drop q) wo (reads_none _ _ _ _ _ (by omega)) (by omega) (by omega)).mono ?_
          rintro e w2 ⟨rfl, hb2⟩
          rw [(decS_err hE).1]
          simp only [retB]
          go_wp2_with fail
          go_ret3
          exact ⟨⟨_, 0, 3, [], rfl, World.ownsRow_nil _ _ _ _, rfl, by rw [HI2.out, decN_error hE, if_neg (by omega)], fun _ => ⟨rfl, rfl⟩⟩, hnx.trans (hb2.mono hnx.size)⟩
        · have hcq2 : (c : Int) ≠ (q : Int) := by omega
          have hrd : Reads wo w.heap.size 1 (some (ad.add q)) (n - q) (bytesV (l.drop q)) := by
            by_cases hnq : n = q
            · rw [show n - q = 0 by omega]; exact reads_none _ _ _ _ _ (by omega)
            · exact (reads_drop hl q (by omega)).below hnx
          cases hE : decS (l.drop q) with
          | error t =>
            have ht : (t : Int) ≠ 0 := by rcases (decS_err hE).2 with h | h <;> omega
            go_wp2_with fail
            refine (rGetBytes_any (some (ad.add q)) (n - q) (c - q) (l.drop q) wo (hrd.more hnx.size) (by omega) (by omega)).mono ?_
            rintro e w2 ⟨rfl, hb2⟩
            rw [(decS_err hE).1]
            simp only [retB]
            go_wp2_with fail
            go_ret3
            exact ⟨⟨_, 0, t, [], rfl, World.ownsRow_nil _ _ _ _, rfl, by rw [HI2.out, decN_error hE, if_neg (by omega)], fun _ => ⟨rfl, rfl⟩⟩, hnx.trans (hb2.mono hnx.size)⟩
          | ok p =>
            obtain ⟨x, v⟩ := p
            obtain ⟨tt, hEB, hxt, hv⟩ := decS_ok hE
            obtain ⟨X, hX⟩ : ∃ X : ByteArray, X = ⟨tt.toArray⟩ := ⟨_, rfl⟩
            obtain rfl : x = X := by rw [hxt, hX]
            go_wp2_with fail
            refine (rGetBytes_any (some (ad.add q)) (n - q) (c - q) (l.drop q) wo (hrd.more hnx.size) (by omega) (by omega)).mono ?_
            rintro e w2 ⟨rfl, hb2⟩
            rw [hEB]
            simp only [retB]
            rw [← hX]
            clear hX hxt
            have hown1 := own_below hown hb2
            have hab : acc.length ≤ 100000 := by have := HL.out; omega
            rw [List.length_drop] at hv
            have b6 : (q : Int) + (v : Int) ≤ (n : Int) := by omega
            have hsz := Nat.le_trans hnx.size hb2.size
            clear hv
            go_wp2_with (at_builtin; refine wpList_append_own _ rfl _ _ 42 rfl w.heap.size 9 i0 (.string ⟨#[]⟩) 1 16 Try.underlying42 hi hz0 hz1 hz2 rfl (by decide) _ _ _ rfl (hown1.alloc _) ⟨w2.heap.size, 0, none⟩ 1 1 [.string x] rfl rfl (cell_one_new _ _ _) (by simp [Value.oneCell']) (by unfold maxLen; omega) (by omega) (by simp; omega) ?_; intro v' w3 hown' hgrow _)
            go_roundw
            case rel =>
              refine ⟨j + 1, q + v, acc ++ [x], by omega, by go_num, by go_num, by omega, by rw [List.length_append, HL.out]; rfl, Lib.hid ?_, ?_, ((hnx.trans (hb2.mono hnx.size)).alloc hsz _).grown hgrow (by simp; omega) (fun b e => (hown1.lt b e).1)⟩
              · rw [HI2.out, decN_step hE, show m - (j + 1) = m - j - 1 by omega]
              · rw [List.length_append, strs_snoc]; exact hown'
            case measure => simp [intOf]; omega
      · obtain rfl : j = m := by omega
        go_wp2_with fail
        go_ret3
        exact ⟨⟨_, q, 0, acc, rfl, hown, strs_length _, by rw [HI.out, Nat.sub_self, if_pos rfl]; simp [decN, pre], fun h => absurd rfl h⟩, hnx⟩

set_option maxRecDepth 100000 in
set_option maxHeartbeats 1000000 in
theorem wGetStrings_any (A : Option Addr) (n c : Nat) (l : List UInt8) (w : World) (hl : Reads w w.heap.size 1 A n (bytesV l)) (hn : n ≤ 100000) (hnc : n ≤ c) :
    Calls Try.prog 43 #[.slice A n c] w (Got (decL decS l) strs 9 w) := by
  have el := hl.byte_len
  cases hD : decC 1 l with
  | error q =>
    have hq : (q : Int) ≠ 0 := by rcases decC_err hD with h | h <;> omega
    go_enter Try.func43, Try.ntmps43
    go_wp2_with fail
    refine (wCount_any A n c 1 l w hl hn hnc (by omega) (by omega)).mono ?_
    rintro e w1 ⟨⟨x, y, z, rfl, h1, -⟩, hd⟩
    have hb := hd.below w.heap.size
    obtain rfl := h1 q hD
    go_wp2_with fail
    go_ret3
    exact ⟨⟨_, 0, q, [], rfl, World.ownsRow_nil _ _ _ _, rfl, by rw [decL_err hD, if_neg (by omega)], fun _ => ⟨rfl, rfl⟩⟩, hb⟩
  | ok p =>
    obtain ⟨m, u⟩ := p
    obtain ⟨hI, hu⟩ := decC_ok hD (by omega)
    have hu0 : 0 < u := by have := decI_canon l _ _ hI; omega
    have hA : ∃ ad, A = some ad := by obtain ⟨ad, h, -⟩ := hl.byte_at (k := 0) (by omega); exact ⟨ad, h⟩
    obtain ⟨ad, rfl⟩ := hA
    obtain ⟨i0, hi, hz0, hz1, hz2⟩ := info_str
    have hdl := decL_ok (f := decS) hD
    obtain ⟨R, hR⟩ : ∃ R, R = decL decS l := ⟨_, rfl⟩
    rw [← hR] at hdl ⊢
    have HDL := Lib.hid hdl
    clear hdl hR
    go_enter Try.func43, Try.ntmps43
    go_wp2_with fail
    refine (wCount_any (some ad) n c 1 l w hl hn hnc (by omega) (by omega)).mono ?_
    rintro e w1 ⟨⟨x, y, z, rfl, -, h2⟩, hd⟩
    have hb := hd.below w.heap.size
    obtain ⟨rfl, rfl, rfl⟩ := h2 (m, u) hD
    dsimp only
    clear h2
    go_wp2_with fail
    go_loopw [6, 8, 22] (fun a v i wr => ∃ (j p : Nat) (acc : List ByteArray), j ≤ m ∧ i = .int .i64 j ∧ a = .int .i64 p ∧ p ≤ n ∧ acc.length = j ∧ Hid (R = pre acc (decN decS l (m - j) p)) ∧ wr.ownsRow w.heap.size 9 1 v acc.length (strs acc) ∧ Below w.heap.size w wr) (fun _ _ i _ => m - (intOf i).toNat)
    case atStart => exact ⟨0, u, [], by omega, rfl, rfl, by omega, rfl, Lib.hid (by rw [pre_nil]; exact HDL.out), World.ownsRow_nil _ _ _ _, hb⟩
    case round =>
      obtain ⟨j, q, acc, hj, rfl, rfl, hq, hlen, HI, hown, hnx⟩ := hrel
      obtain ⟨wo, rfl⟩ : ∃ wo : World, wo = wr := ⟨_, rfl⟩
      have HL := Lib.hid hlen
      clear hlen
      by_cases hlt : j < m
      · have hji : (j : Int) < (m : Int) := by omega
        have HI2 : Hid (R = pre acc (decN decS l ((m - j - 1) + 1) q)) := by rw [show m - j - 1 + 1 = m - j by omega]; exact HI
        have b4 : (q : Int) ≤ (n : Int) := by omega
        have b5 : (q : Int) ≤ (c : Int) := by omega
        by_cases hcq : c = q
        · have hE : decS (l.drop q) = .error 3 := by rw [List.drop_of_length_le (by omega)]; rfl
          have hnq : n = q := by omega
          go_wp2_with fail
          refine (wGetBytes_any (some ad) 0 0 (l.drop q) wo (reads_none _ _ _ _ _ (by omega)) (by omega) (by omega)).mono ?_
          rintro e w2 ⟨rfl, hd2⟩
          have hb2 := hd2.below wo.heap.size
          rw [(decS_err hE).1]
          simp only [retB]
          go_wp2_with fail
          go_ret3
          exact ⟨⟨_, 0, 3, [], rfl, World.ownsRow_nil _ _ _ _, rfl, by rw [HI2.out, decN_error hE, if_neg (by omega)], fun _ => ⟨rfl, rfl⟩⟩, hnx.trans (hb2.mono hnx.size)⟩
        · have hcq2 : (c : Int) ≠ (q : Int) := by omega
          have hrd : Reads wo w.heap.size 1 (some (ad.add q)) (n - q) (bytesV (l.drop q)) := by
            by_cases hnq : n = q
            · rw [show n - q = 0 by omega]; exact reads_none _ _ _ _ _ (by omega)
            · exact (reads_drop hl q (by omega)).below hnx
          cases hE : decS (l.drop q) with
          | error t =>
            have ht : (t : Int) ≠ 0 := by rcases (decS_err hE).2 with h | h <;> omega
            go_wp2_with fail
            refine (wGetBytes_any (some (ad.add q)) (n - q) (c - q) (l.drop q) wo (hrd.more hnx.size) (by omega) (by omega)).mono ?_
            rintro e w2 ⟨rfl, hd2⟩
            have hb2 := hd2.below wo.heap.size
            rw [(decS_err hE).1]
            simp only [retB]
            go_wp2_with fail
            go_ret3
            exact ⟨⟨_, 0, t, [], rfl, World.ownsRow_nil _ _ _ _, rfl, by rw [HI2.out, decN_error hE, if_neg (by omega)], fun _ => ⟨rfl, rfl⟩⟩, hnx.trans (hb2.mono hnx.size)⟩
          | ok p =>
            obtain ⟨x, v⟩ := p
            obtain ⟨tt, hEB, hxt, hv⟩ := decS_ok hE
            obtain ⟨X, hX⟩ : ∃ X : ByteArray, X = ⟨tt.toArray⟩ := ⟨_, rfl⟩
            obtain rfl : x = X := by rw [hxt, hX]
            go_wp2_with fail
            refine (wGetBytes_any (some (ad.add q)) (n - q) (c - q) (l.drop q) wo (hrd.more hnx.size) (by omega) (by omega)).mono ?_
            rintro e w2 ⟨rfl, hd2⟩
            have hb2 := hd2.below wo.heap.size
            rw [hEB]
            simp only [retB]
            rw [← hX]
            clear hX hxt
            have hown1 := own_below hown hb2
            have hab : acc.length ≤ 100000 := by have := HL.out; omega
            rw [List.length_drop] at hv
            have b6 : (q : Int) + (v : Int) ≤ (n : Int) := by omega
            have hsz := Nat.le_trans hnx.size hb2.size
            clear hv
            go_wp2_with (at_builtin; refine wpList_append_own _ rfl _ _ 42 rfl w.heap.size 9 i0 (.string ⟨#[]⟩) 1 16 Try.underlying42 hi hz0 hz1 hz2 rfl (by decide) _ _ _ rfl (hown1.alloc _) ⟨w2.heap.size, 0, none⟩ 1 1 [.string x] rfl rfl (cell_one_new _ _ _) (by simp [Value.oneCell']) (by unfold maxLen; omega) (by omega) (by simp; omega) ?_; intro v' w3 hown' hgrow _)
            go_roundw
            case rel =>
              refine ⟨j + 1, q + v, acc ++ [x], by omega, by go_num, by go_num, by omega, by rw [List.length_append, HL.out]; rfl, Lib.hid ?_, ?_, ((hnx.trans (hb2.mono hnx.size)).alloc hsz _).grown hgrow (by simp; omega) (fun b e => (hown1.lt b e).1)⟩
              · rw [HI2.out, decN_step hE, show m - (j + 1) = m - j - 1 by omega]
              · rw [List.length_append, strs_snoc]; exact hown'
            case measure => simp [intOf]; omega
      · obtain rfl : j = m := by omega
        go_wp2_with fail
        go_ret3
        exact ⟨⟨_, q, 0, acc, rfl, hown, strs_length _, by rw [HI.out, Nat.sub_self, if_pos rfl]; simp [decN, pre], fun h => absurd rfl h⟩, hnx⟩
end Go.Proofs.Ytbofbihpmhkppaa
