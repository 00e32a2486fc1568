/- The program's reader and its next step read one integer after the other, and its GetInts, for any bytes, returns what decL says. Conditions: at most 100000 bytes. -/
import Derived.Test.YtbekkndkdfmijaaWk
namespace Go.Proofs.Ytbekkndkdfmijaa
open Go.RowKit

set_option maxRecDepth 100000 in
set_option maxHeartbeats 1000000 in
theorem wReader_any (A : Option Addr) (n c u : Nat) (w : World) :
    Calls Try.prog 53 #[.slice A n c, .int .i64 (u : Int)] w fun e W' => e = .returned (.func (.func 57) #[] #[.pointer (some ⟨w.heap.size, 0, none⟩), .pointer (some ⟨w.heap.size + 1, 0, none⟩)]) ∧ W' = ((w.alloc (.cells #[.slice A n c] 33)).alloc (.cells #[.int .i64 (u : Int)] 3)) := by
  go_enter Try.func53, Try.ntmps53
  go_wp2_with fail
  go_ret
  exact ⟨rfl, rfl⟩

/-- where the reader stands then -/
def nxt (u : Nat) (r : Except Nat (Int × Nat)) : Nat :=
  match r with
  | .error _ => u
  | .ok (_, v) => u + v
def retN (u : Nat) (r : Except Nat (Int × Nat)) : Value :=
  match r with
  | .error t => .tuple #[.int .i64 0, .int .i64 (u : Int), .int .i64 (t : Int)]
  | .ok (x, v) => .tuple #[.int .i64 x, .int .i64 ((u + v : Nat) : Int), .int .i64 0]

set_option maxRecDepth 100000 in
set_option maxHeartbeats 1000000 in
theorem wNext_any (g1 g2 B : Nat) (ad : Addr) (n c u : Nat) (l : List UInt8) (w : World) (h1 : Blk w g1 33 #[.slice (some ad) n c]) (h2 : Blk w g2 3 #[.int .i64 (u : Int)]) (hl : Reads w B 1 (some ad) n (bytesV l)) (hB : B ≤ w.heap.size) (hn : n ≤ 100000) (hnc : n ≤ c) (hu : u ≤ n) :
    Calls Try.prog 57 #[.pointer (some ⟨g1, 0, none⟩), .pointer (some ⟨g2, 0, none⟩)] w fun e W' => e = .returned (retN u (decI (l.drop u))) ∧ ∃ k k', W' = ((w.drewN k).setCell ⟨g2, 0, none⟩ (.int .i64 (nxt u (decI (l.drop u)) : Int))).drewN k' := by
  have c1 : w.cell? ⟨g1, 0, none⟩ = some (.slice (some ad) n c) := h1.at_ (i := 0) rfl
  have c2 : w.cell? ⟨g2, 0, none⟩ = some (.int .i64 (u : Int)) := h2.at_ (i := 0) rfl
  have f2 : w.frozen? ⟨g2, 0, none⟩ = false := h2.frozen 0
  have el := hl.byte_len
  have b4 : (u : Int) ≤ (n : Int) := by omega
  have b5 : (u : Int) ≤ (c : Int) := by omega
  by_cases hcq : c = u
  · have hE : decI (l.drop u) = .error 3 := by rw [List.drop_of_length_le (by omega)]; rfl
    rw [hE]
    have hnq : n = u := by omega
    go_enter Try.func57, Try.ntmps57
    go_wp2_with fail
    refine (wGetInt_any (some ad) 0 0 (l.drop u) w (reads_none _ _ _ _ _ (by omega)) (by omega) (by omega)).mono ?_
    rintro e w2 ⟨rfl, k, rfl⟩
    rw [hE]
    simp only [retI]
    have q2 : ((w.drewN k).setCell ⟨g2, 0, none⟩ (.int .i64 (u : Int))).cell? ⟨g2, 0, none⟩ = some (.int .i64 (u : Int)) := ((h2.drewN k).set_ 0 _).at_ (i := 0) rfl
    go_wp2_with fail
    go_quiet (fail)
    go_wp2_with fail
    go_ret3
    exact ⟨rfl, k, _, rfl⟩
  · have hcq2 : (c : Int) ≠ (u : Int) := by omega
    have hrd : Reads w w.heap.size 1 (some (ad.add u)) (n - u) (bytesV (l.drop u)) := by
      by_cases hnq : n = u
      · rw [show n - u = 0 by omega]; exact reads_none _ _ _ _ _ (by omega)
      · exact (reads_drop hl u (by omega)).more hB
    cases hE : decI (l.drop u) with
    | error t =>
      go_enter Try.func57, Try.ntmps57
      go_wp2_with fail
      refine (wGetInt_any (some (ad.add u)) (n - u) (c - u) (l.drop u) w hrd (by omega) (by omega)).mono ?_
      rintro e w2 ⟨rfl, k, rfl⟩
      rw [hE]
      simp only [retI]
      have q2 : ((w.drewN k).setCell ⟨g2, 0, none⟩ (.int .i64 (u : Int))).cell? ⟨g2, 0, none⟩ = some (.int .i64 (u : Int)) := ((h2.drewN k).set_ 0 _).at_ (i := 0) rfl
      go_wp2_with fail
      go_quiet (fail)
      go_wp2_with fail
      go_ret3
      exact ⟨rfl, k, _, rfl⟩
    | ok p =>
      obtain ⟨x, v⟩ := p
      obtain ⟨-, -, -, hv, -⟩ := decI_canon _ _ _ hE
      rw [List.length_drop] at hv
      have b6 : (u : Int) + (v : Int) ≤ (n : Int) := by omega
      have b7 : ((u + v : Nat) : Int) = (u : Int) + (v : Int) := by omega
      go_enter Try.func57, Try.ntmps57
      go_wp2_with fail
      refine (wGetInt_any (some (ad.add u)) (n - u) (c - u) (l.drop u) w hrd (by omega) (by omega)).mono ?_
      rintro e w2 ⟨rfl, k, rfl⟩
      rw [hE]
      simp only [retI]
      have q2 : ((w.drewN k).setCell ⟨g2, 0, none⟩ (.int .i64 ((u : Int) + (v : Int)))).cell? ⟨g2, 0, none⟩ = some (.int .i64 ((u : Int) + (v : Int))) := ((h2.drewN k).set_ 0 _).at_ (i := 0) rfl
      go_wp2_with fail
      go_quiet (fail)
      go_wp2_with fail
      go_ret3
      exact ⟨by simp only [retN]; rw [b7]; rfl, k, _, by simp only [nxt]; rw [b7]⟩

theorem own_base {w : World} {base base' size n : Nat} {e : TypeId} {v : Value} {xs : List Value} (h : w.ownsRow base e size v n xs) (hb : base' ≤ base) : w.ownsRow base' e size v n xs := by
  refine ⟨h.1, ?_⟩
  rcases h.2 with h | ⟨g, cap, cur, h1, h2, h3⟩
  · exact .inl h
  · exact .inr ⟨g, cap, cur, h1, Nat.le_trans hb h2, h3⟩
theorem own_drewN {w : World} {base size n : Nat} {e : TypeId} {v : Value} {xs : List Value} (h : w.ownsRow base e size v n xs) (k : Nat) : (w.drewN k).ownsRow base e size v n xs := h
theorem own_setCell {w : World} {base size n : Nat} {e : TypeId} {v : Value} {xs : List Value} (h : w.ownsRow base e size v n xs) {p : Addr} (hp : p.block < base) (u : Value) : (w.setCell p u).ownsRow base e size v n xs := by
  refine ⟨h.1, ?_⟩
  rcases h.2 with h | ⟨g, cap, cur, h1, h2, h3, h4⟩
  · exact .inl h
  · exact .inr ⟨g, cap, cur, h1, h2, (Below.heap_setCell w p u g (by omega)).trans h3, h4⟩

set_option maxRecDepth 100000 in
set_option maxHeartbeats 1000000 in
theorem wGetInts_any (A : Option Addr) (n c : Nat) (l : List UInt8) (w : World) (hl : Reads w w.heap.size 1 A n (bytesV l)) (hn : n ≤ 100000) (hnc : n ≤ c) :
    Calls Try.prog 46 #[.slice A n c] w (Got (decL decI l) ints 3 w) := by
  have el := hl.byte_len
  cases hD : decC 1 l with
  | error q =>
    have hq : (q : Int) ≠ 0 := by rcases decC_err hD with h | h <;> omega
    go_enter Try.func46, Try.ntmps46
    go_wp2_with fail
    refine (wCount_any A n c 1 l w hl hn hnc (by omega) (by omega)).mono ?_
    rintro e w1 ⟨⟨x, y, z, rfl, h1, -⟩, hd⟩
    have hb := hd.below w.heap.size
    obtain rfl := h1 q hD
    go_wp2_with fail
    go_ret3
    exact ⟨⟨_, 0, q, [], rfl, World.ownsRow_nil _ _ _ _, rfl, by rw [decL_err hD, if_neg (by omega)], fun _ => ⟨rfl, rfl⟩⟩, hb⟩
  | ok p =>
    obtain ⟨m, u⟩ := p
    obtain ⟨hI, hu⟩ := decC_ok hD (by omega)
    have hu0 : 0 < u := by have := decI_canon l _ _ hI; omega
    have hA : ∃ ad, A = some ad := by obtain ⟨ad, h, -⟩ := hl.byte_at (k := 0) (by omega); exact ⟨ad, h⟩
    obtain ⟨ad, rfl⟩ := hA
    obtain ⟨i0, hi, hz0, hz1, hz2⟩ := info_int
    have hdl := decL_ok (f := decI) hD
    obtain ⟨R, hR⟩ : ∃ R, R = decL decI l := ⟨_, rfl⟩
    rw [← hR] at hdl ⊢
    have HDL := Lib.hid hdl
    clear hdl hR
    go_enter Try.func46, Try.ntmps46
    go_wp2_with fail
    refine (wCount_any (some ad) n c 1 l w hl hn hnc (by omega) (by omega)).mono ?_
    rintro e w1 ⟨⟨x, y, z, rfl, -, h2⟩, hd⟩
    have hb := hd.below w.heap.size
    obtain ⟨rfl, rfl, rfl⟩ := h2 (m, u) hD
    dsimp only
    clear h2 hd
    go_wp2_with fail
    refine (wReader_any (some ad) n c u w1).mono ?_
    rintro e w2 ⟨rfl, hw2⟩
    obtain ⟨g, hg⟩ : ∃ g, g = w1.heap.size := ⟨_, rfl⟩
    rw [← hg]
    have h1 : Blk w2 g 33 #[.slice (some ad) n c] := by rw [hw2, hg]; exact (Blk.new w1 33 _).alloc _
    have h2 : Blk w2 (g + 1) 3 #[.int .i64 (u : Int)] := by
      have := Blk.new (w1.alloc (.cells #[.slice (some ad) n c] 33)) 3 #[.int .i64 (u : Int)]
      rw [hw2, hg]; simpa using this
    have hsz : w2.heap.size = g + 2 := by rw [hw2, hg]; simp
    have hgw : w.heap.size ≤ g := by rw [hg]; exact hb.size
    have hb2 : Below w.heap.size w w2 := by rw [hw2]; exact (hb.alloc hb.size _).alloc (by simp; omega) _
    clear hw2 hg hb
    go_wp2_with fail
    go_loopw [6, 9, 26] (fun a v i wr => ∃ (j p : Nat) (acc : List Int), j ≤ m ∧ i = .int .i64 j ∧ a = .int .i64 p ∧ p ≤ n ∧ acc.length = j ∧ Hid (R = pre acc (decN decI l (m - j) p)) ∧ wr.ownsRow (g + 2) 3 1 v acc.length (ints acc) ∧ Below w.heap.size w wr ∧ Blk wr g 33 #[.slice (some ad) n c] ∧ Blk wr (g + 1) 3 #[.int .i64 (p : Int)] ∧ g + 2 ≤ wr.heap.size) (fun _ _ i _ => m - (intOf i).toNat)
    case atStart => exact ⟨0, u, [], by omega, rfl, rfl, by omega, rfl, Lib.hid (by rw [pre_nil]; exact HDL.out), World.ownsRow_nil _ _ _ _, hb2, h1, h2, by omega⟩
    case round =>
      clear h1 h2 hb2
      obtain ⟨j, q, acc, hj, rfl, rfl, hq, hlen, HI, hown, hnx, h1, h2, hgr⟩ := hrel
      obtain ⟨wo, rfl⟩ : ∃ wo : World, wo = wr := ⟨_, rfl⟩
      have HL := Lib.hid hlen
      clear hlen
      by_cases hlt : j < m
      · have hji : (j : Int) < (m : Int) := by omega
        have HI2 : Hid (R = pre acc (decN decI l ((m - j - 1) + 1) q)) := by rw [show m - j - 1 + 1 = m - j by omega]; exact HI
        cases hE : decI (l.drop q) with
        | error t =>
          have ht : (t : Int) ≠ 0 := by rcases decI_err hE with h | h <;> omega
          go_wp2_with fail
          refine (wNext_any g (g + 1) w.heap.size ad n c q l wo h1 h2 (hl.below hnx) hnx.size hn hnc hq).mono ?_
          rw [hE]
          rintro e w3 ⟨rfl, k, k', rfl⟩
          simp only [retN, nxt]
          go_wp2_with fail
          go_ret3
          exact ⟨⟨_, 0, t, [], rfl, World.ownsRow_nil _ _ _ _, rfl, by rw [HI2.out, decN_error hE, if_neg (by omega)], fun _ => ⟨rfl, rfl⟩⟩, below_drewN' ((below_drewN' hnx k).setCell (by show w.heap.size ≤ g + 1; omega) _) k'⟩
        | ok p =>
          obtain ⟨x, v⟩ := p
          obtain ⟨-, -, -, hv, -⟩ := decI_canon _ _ _ hE
          rw [List.length_drop] at hv
          have hqv : q + v ≤ n := by omega
          have hab : acc.length ≤ 100000 := by have := HL.out; omega
          go_wp2_with fail
          refine (wNext_any g (g + 1) w.heap.size ad n c q l wo h1 h2 (hl.below hnx) hnx.size hn hnc hq).mono ?_
          rw [hE]
          rintro e w3 ⟨rfl, k, k', hw3⟩
          simp only [retN, nxt] at hw3 ⊢
          have hx3 : Below w.heap.size w w3 := by rw [hw3]; exact below_drewN' ((below_drewN' hnx k).setCell (by show w.heap.size ≤ g + 1; omega) _) k'
          have k1 : Blk w3 g 33 #[.slice (some ad) n c] := by rw [hw3]; exact ((h1.drewN k).far (by show g ≠ g + 1; omega) _).drewN k'
          have k2 : Blk w3 (g + 1) 3 #[.int .i64 ((q + v : Nat) : Int)] := by rw [hw3]; exact ((h2.drewN k).set_ 0 _).drewN k'
          have hown1 := own_drewN (own_setCell (w := wo.drewN k) hown (p := ⟨g + 1, 0, none⟩) (by show g + 1 < g + 2; omega) (.int .i64 ((q + v : Nat) : Int))) k'
          rw [← hw3] at hown1
          have hs3 : g + 2 ≤ w3.heap.size := by
            rw [hw3]; exact Nat.le_trans hgr (below_drewN' ((below_drewN' (Below.refl 0 wo) k).setCell (Nat.zero_le _) _) k').size
          clear hw3 hown h1 h2
          go_wp2_with (at_builtin; refine wpList_append_own _ rfl _ _ 23 rfl (g + 2) 3 i0 (.int .i64 0) 1 8 Try.underlying23 hi hz0 hz1 hz2 rfl (by decide) _ _ _ rfl (hown1.alloc _) ⟨w3.heap.size, 0, none⟩ 1 1 [.int .i64 x] rfl rfl (cell_one_new _ _ _) (by simp [Value.oneCell']) (by unfold maxLen; omega) (by omega) (by simp; omega) ?_; intro v' w4 hown' hgrow _)
          go_roundw
          case rel =>
            refine ⟨j + 1, q + v, acc ++ [x], by omega, by go_num, by go_num, by omega, by rw [List.length_append, HL.out]; rfl, Lib.hid ?_, ?_, (hx3.alloc hx3.size _).grown hgrow (by have := hx3.size; simp; omega) (fun b e => Nat.le_trans (by omega) (hown1.lt b e).1), (k1.alloc _).grown hgrow (fun e => by have := (hown1.lt g e.symm).1; omega), (k2.alloc _).grown hgrow (fun e => by have := (hown1.lt (g + 1) e.symm).1; omega), ?_⟩
            · rw [HI2.out, decN_step hE, show m - (j + 1) = m - j - 1 by omega]
            · rw [List.length_append, ints_snoc]; exact hown'
            · exact Nat.le_trans hs3 (((Below.refl 0 w3).alloc (Nat.zero_le _) _).grown hgrow (Nat.zero_le _) (fun _ _ => Nat.zero_le _)).size
          case measure => simp [intOf]; omega
      · obtain rfl : j = m := by omega
        go_wp2_with fail
        go_ret3
        exact ⟨⟨_, q, 0, acc, rfl, own_base hown (by omega), ints_length _, by rw [HI.out, Nat.sub_self, if_pos rfl]; simp [decN, pre], fun h => absurd rfl h⟩, hnx⟩
end Go.Proofs.Ytbekkndkdfmijaa
