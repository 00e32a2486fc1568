/- Both functions GetDigests, for any bytes, return the same decoded digests or error. Conditions: at most 100000 bytes. -/
import Derived.Test.YtbofbihpmhkppaaWm
namespace Go.Proofs.Ytbofbihpmhkppaa
open Go.RowKit

/-- DECODING DIGESTS: the bytes of n digests -/
def decD (b : List UInt8) : Except Nat (List UInt8 × Nat × Nat) :=
  match decC 16 b with
  | .error e => .error e
  | .ok (n, u) => .ok ((b.drop u).take (16 * n), n, u + 16 * n)
def GotD (D : Except Nat (List UInt8 × Nat × Nat)) (w : World) (e : Ending) (W' : World) : Prop :=
  (∃ (v : Value) (z q n : Nat) (r : List UInt8), e = .returned (.tuple #[v, .int .i64 (z : Int), .int .i64 (q : Int)]) ∧ W'.ownsRow w.heap.size 79 16 v n (bytesV r) ∧ r.length = n * 16 ∧ D = (if q = 0 then .ok (r, n, z) else .error q) ∧ (q ≠ 0 → r = [] ∧ n = 0 ∧ z = 0)) ∧ Below w.heap.size w W'
theorem info_dig : ∃ i, Try.prog.info? 79 = some i ∧ i.zero = some (.agg #[.int .u8 0, .int .u8 0, .int .u8 0, .int .u8 0, .int .u8 0, .int .u8 0, .int .u8 0, .int .u8 0, .int .u8 0, .int .u8 0, .int .u8 0, .int .u8 0, .int .u8 0, .int .u8 0, .int .u8 0, .int .u8 0]) ∧ i.size = 16 ∧ i.bytes = 16 := ⟨_, rfl, rfl, rfl, rfl⟩
theorem dig_cells2 {w : World} {ad : Addr} {l D : List UInt8} {p : Nat} (hc : ∀ (k : Nat) (u : Value), (bytesV l)[k]? = some u → w.cell? (ad.add k) = some u) (hD : D = (l.drop p).take 16) (k : Nat) (u : Value)
    (hu : (bytesV D)[k]? = some u) : w.cell? ((ad.add p).add k) = some u := by
  rw [add_add']
  refine hc _ u ?_
  rw [bytesV_get] at hu ⊢
  rw [hD, List.getElem?_take] at hu
  split at hu
  · rw [List.getElem?_drop] at hu; exact hu
  · simp at hu

theorem array_at (w : World) (ad : Addr) (c : Nat) : (Instr.arrayAt 79 (.slice (some ad) 16 c)).run Try.prog w = .ok (.pointer (some ad)) w := by
  simp [Instr.arrayAt, Sem.run_bind, run_underlying Try.underlying79]

set_option maxRecDepth 100000 in
set_option maxHeartbeats 1000000 in
theorem wGetDigests_any (A : Option Addr) (n c : Nat) (l : List UInt8) (w : World) (hl : Reads w w.heap.size 1 A n (bytesV l)) (hn : n ≤ 100000) (hnc : n ≤ c) :
    Calls Try.prog 46 #[.slice A n c] w (GotD (decD l) w) := by
  have el := hl.byte_len
  cases hD : decC 16 l with
  | error q =>
    have hq : (q : Int) ≠ 0 := by rcases decC_err hD with h | h <;> omega
    have hdd : decD l = .error q := by unfold decD; rw [hD]
    rw [hdd]
    go_enter Try.func46, Try.ntmps46
    go_wp2_with fail
    refine (wCount_any A n c 16 l w hl hn hnc (by omega) (by omega)).mono ?_
    rintro e w1 ⟨⟨x, y, z, rfl, h1, -⟩, hd⟩
    have hb := hd.below w.heap.size
    obtain rfl := h1 q hD
    go_wp2_with fail
    go_ret3
    exact ⟨⟨_, 0, q, 0, [], rfl, World.ownsRow_nil _ _ _ _, rfl, by rw [if_neg (by omega)], fun _ => ⟨rfl, rfl, rfl⟩⟩, hb⟩
  | ok p =>
    obtain ⟨m, u⟩ := p
    obtain ⟨hI, hu⟩ := decC_ok hD (by omega)
    have hu0 : 0 < u := by have := decI_canon l _ _ hI; omega
    have hA : ∃ ad, A = some ad := by obtain ⟨ad, h, -⟩ := hl.byte_at (k := 0) (by omega); exact ⟨ad, h⟩
    obtain ⟨ad, rfl⟩ := hA
    obtain ⟨i0, hi, hz0, hz1, hz2⟩ := info_dig
    have hdd : decD l = .ok ((l.drop u).take (16 * m), m, u + 16 * m) := by unfold decD; rw [hD]
    rw [hdd]
    clear hdd
    go_enter Try.func46, Try.ntmps46
    go_wp2_with fail
    refine (wCount_any (some ad) n c 16 l w hl hn hnc (by omega) (by omega)).mono ?_
    rintro e w1 ⟨⟨x, y, z, rfl, -, h2⟩, hd⟩
    have hb := hd.below w.heap.size
    obtain ⟨rfl, rfl, rfl⟩ := h2 (m, u) hD
    dsimp only
    clear h2
    go_wp2_with fail
    go_loopw [6, 8, 19] (fun a v i wr => ∃ (j p : Nat), j ≤ m ∧ i = .int .i64 j ∧ a = .int .i64 p ∧ p = u + 16 * j ∧ wr.ownsRow w.heap.size 79 16 v j (bytesV ((l.drop u).take (16 * j))) ∧ Below w.heap.size w wr) (fun _ _ i _ => m - (intOf i).toNat)
    case atStart => exact ⟨0, u, by omega, rfl, rfl, by omega, by simpa [bytesV] using World.ownsRow_nil _ _ _ _, hb⟩
    case round =>
      obtain ⟨j, q, hj, rfl, rfl, hq, hown, hnx⟩ := hrel
      obtain ⟨wo, rfl⟩ : ∃ wo : World, wo = wr := ⟨_, rfl⟩
      by_cases hlt : j < m
      · have hji : (j : Int) < (m : Int) := by omega
        have b4 : (q : Int) + 16 ≤ (n : Int) := by omega
        have b5 : (q : Int) + 16 ≤ (c : Int) := by omega
        have b6 : (c : Int) ≠ (q : Int) := by omega
        have b7 : IntKind.i64.wrap ((q : Int) + 16) = (q : Int) + 16 := IntWalk.i64_in _ (by omega)
        have b8 : (q : Int) ≤ (q : Int) + 16 := by omega
        have b9 : c ≠ q := by omega
        obtain ⟨D, hdd⟩ : ∃ D, D = (l.drop q).take 16 := ⟨_, rfl⟩
        have hD16 : D.length = 16 := by rw [hdd]; simp; omega
        have hs : (l.drop u).take (16 * (j + 1)) = (l.drop u).take (16 * j) ++ D := by
          rw [hdd, Nat.mul_add, Nat.mul_one, List.take_add, List.drop_drop, hq]
        have hjm : j ≤ 100000 := by omega
        have HQ := Lib.hid hq
        obtain ⟨ad', e1, -, hc⟩ := (hl.below hnx).2 (by omega)
        cases e1
        have hcs := fun k u => dig_cells2 hc hdd k u
        clear hdd hc hq
        obtain ⟨d0, d1, d2, d3, d4, d5, d6, d7, d8, d9, d10, d11, d12, d13, d14, d15, rfl⟩ := list16 D hD16
        have hcs2 : ∀ (k : Nat) (u : Value), ([.int .u8 ((d0.toNat : Nat) : Int), .int .u8 ((d1.toNat : Nat) : Int), .int .u8 ((d2.toNat : Nat) : Int), .int .u8 ((d3.toNat : Nat) : Int), .int .u8 ((d4.toNat : Nat) : Int), .int .u8 ((d5.toNat : Nat) : Int), .int .u8 ((d6.toNat : Nat) : Int), .int .u8 ((d7.toNat : Nat) : Int), .int .u8 ((d8.toNat : Nat) : Int), .int .u8 ((d9.toNat : Nat) : Int), .int .u8 ((d10.toNat : Nat) : Int), .int .u8 ((d11.toNat : Nat) : Int), .int .u8 ((d12.toNat : Nat) : Int), .int .u8 ((d13.toNat : Nat) : Int), .int .u8 ((d14.toNat : Nat) : Int), .int .u8 ((d15.toNat : Nat) : Int)] : List Value)[k]? = some u → wo.cell? ((ad.add q).add k) = some u := hcs
        have HCS := Lib.hid hcs2
        have HS := Lib.hid hs
        have harr := array_at wo (ad.add q) (c - q)
        clear hcs hcs2 hs hD16
        go_wp2_with (first
          | (with_reducible refine wpList_load_cells rfl 79 _ rfl (ad.add q) rfl [.int .u8 ((d0.toNat : Nat) : Int), .int .u8 ((d1.toNat : Nat) : Int), .int .u8 ((d2.toNat : Nat) : Int), .int .u8 ((d3.toNat : Nat) : Int), .int .u8 ((d4.toNat : Nat) : Int), .int .u8 ((d5.toNat : Nat) : Int), .int .u8 ((d6.toNat : Nat) : Int), .int .u8 ((d7.toNat : Nat) : Int), .int .u8 ((d8.toNat : Nat) : Int), .int .u8 ((d9.toNat : Nat) : Int), .int .u8 ((d10.toNat : Nat) : Int), .int .u8 ((d11.toNat : Nat) : Int), .int .u8 ((d12.toNat : Nat) : Int), .int .u8 ((d13.toNat : Nat) : Int), .int .u8 ((d14.toNat : Nat) : Int), .int .u8 ((d15.toNat : Nat) : Int)] _ (HCS.out) Try.underlying79 rfl (by kernel_rfl) ?_)
          | (at_builtin; refine wpList_append_own _ rfl _ _ 43 rfl w.heap.size 79 i0 (.agg #[.int .u8 0, .int .u8 0, .int .u8 0, .int .u8 0, .int .u8 0, .int .u8 0, .int .u8 0, .int .u8 0, .int .u8 0, .int .u8 0, .int .u8 0, .int .u8 0, .int .u8 0, .int .u8 0, .int .u8 0, .int .u8 0]) 16 16 Try.underlying43 hi hz0 hz1 hz2 rfl (by decide) _ _ _ rfl (hown.alloc _) ⟨wo.heap.size, 0, none⟩ 1 1 [.int .u8 ((d0.toNat : Nat) : Int), .int .u8 ((d1.toNat : Nat) : Int), .int .u8 ((d2.toNat : Nat) : Int), .int .u8 ((d3.toNat : Nat) : Int), .int .u8 ((d4.toNat : Nat) : Int), .int .u8 ((d5.toNat : Nat) : Int), .int .u8 ((d6.toNat : Nat) : Int), .int .u8 ((d7.toNat : Nat) : Int), .int .u8 ((d8.toNat : Nat) : Int), .int .u8 ((d9.toNat : Nat) : Int), .int .u8 ((d10.toNat : Nat) : Int), .int .u8 ((d11.toNat : Nat) : Int), .int .u8 ((d12.toNat : Nat) : Int), .int .u8 ((d13.toNat : Nat) : Int), .int .u8 ((d14.toNat : Nat) : Int), .int .u8 ((d15.toNat : Nat) : Int)] rfl rfl (cells_new wo _ _) (bytesV_one [d0, d1, d2, d3, d4, d5, d6, d7, d8, d9, d10, d11, d12, d13, d14, d15]) (by unfold maxLen; omega) (by omega) (by have := hnx.size; simp; omega) ?_; intro v' w3 hown' hgrow _))
        go_roundw
        case rel =>
          refine ⟨j + 1, q + 16, by omega, by go_num, by go_num, by have := HQ.out; omega, ?_, (hnx.alloc hnx.size _).grown hgrow (by simp; have := hnx.size; omega) (fun b e => (hown.lt b e).1)⟩
          rw [HS.out, bytesV_append]; exact hown'
        case measure => simp [intOf]; omega
      · obtain rfl : j = m := by omega
        go_wp2_with fail
        go_ret3
        subst hq
        exact ⟨⟨_, _, 0, j, _, rfl, hown, by rw [List.length_take, List.length_drop]; omega, by rw [if_pos rfl], fun h => absurd rfl h⟩, hnx⟩

theorem dig_fill (D : List UInt8) (hD : D.length = 16) (k : Nat) (hk : k < 16) : (bytesV (D.take k) ++ List.replicate (16 - k) (Value.int .u8 0)).toArray.setIfInBounds k (.int .u8 (((D[k]?.getD 0).toNat : Nat) : Int)) =
    (bytesV (D.take (k + 1)) ++ List.replicate (16 - (k + 1)) (Value.int .u8 0)).toArray := by
  rw [List.setIfInBounds_toArray, List.take_add_one, List.getElem?_eq_getElem (by omega : k < D.length), bytesV_append]
  have hlen : (bytesV (D.take k)).length = k := by rw [bytesV_length, List.length_take]; omega
  have e : 16 - k = (16 - (k + 1)) + 1 := by omega
  rw [List.set_append_right _ _ (by omega), hlen, Nat.sub_self, e, List.replicate_succ, List.set_cons_zero, List.append_assoc]
  rfl

set_option maxRecDepth 100000 in
set_option maxHeartbeats 1000000 in
theorem rGetDigests_any (A : Option Addr) (n c : Nat) (l : List UInt8) (w : World) (hl : Reads w w.heap.size 1 A n (bytesV l)) (hn : n ≤ 100000) (hnc : n ≤ c) :
    Calls Try.prog 47 #[.slice A n c] w (GotD (decD l) w) := by
  have el := hl.byte_len
  cases hD : decC 16 l with
  | error q =>
    have hq : (q : Int) ≠ 0 := by rcases decC_err hD with h | h <;> omega
    have hdd : decD l = .error q := by unfold decD; rw [hD]
    rw [hdd]
    go_enter Try.func47, Try.ntmps47
    go_wp2_with fail
    refine (rCount_any A n c 16 l w hl hn hnc (by omega) (by omega)).mono ?_
    rintro e w1 ⟨⟨x, y, z, rfl, h1, -⟩, hb⟩
    obtain rfl := h1 q hD
    go_wp2_with fail
    go_ret3
    exact ⟨⟨_, 0, q, 0, [], rfl, World.ownsRow_nil _ _ _ _, rfl, by rw [if_neg (by omega)], fun _ => ⟨rfl, rfl, rfl⟩⟩, hb⟩
  | ok p =>
    obtain ⟨m, u⟩ := p
    obtain ⟨hI, hu⟩ := decC_ok hD (by omega)
    have hu0 : 0 < u := by have := decI_canon l _ _ hI; omega
    have hA : ∃ ad, A = some ad := by obtain ⟨ad, h, -⟩ := hl.byte_at (k := 0) (by omega); exact ⟨ad, h⟩
    obtain ⟨ad, rfl⟩ := hA
    obtain ⟨i0, hi, hz0, hz1, hz2⟩ := info_dig
    have hdd : decD l = .ok ((l.drop u).take (16 * m), m, u + 16 * m) := by unfold decD; rw [hD]
    rw [hdd]
    clear hdd
    go_enter Try.func47, Try.ntmps47
    go_wp2_with fail
    refine (rCount_any (some ad) n c 16 l w hl hn hnc (by omega) (by omega)).mono ?_
    rintro e w1 ⟨⟨x, y, z, rfl, -, h2⟩, hb⟩
    obtain ⟨rfl, rfl, rfl⟩ := h2 (m, u) hD
    dsimp only
    clear h2
    go_wp2_with fail
    go_loopw [6, 8, 9] (fun a v i wr => ∃ (j p : Nat), j ≤ m ∧ i = .int .i64 j ∧ a = .int .i64 p ∧ p = u + 16 * j ∧ wr.ownsRow w.heap.size 79 16 v j (bytesV ((l.drop u).take (16 * j))) ∧ Below w.heap.size w wr) (fun _ _ i _ => m - (intOf i).toNat)
    case atStart => exact ⟨0, u, by omega, rfl, rfl, by omega, by simpa [bytesV] using World.ownsRow_nil _ _ _ _, hb⟩
    case round =>
      obtain ⟨j, q, hj, rfl, rfl, hq, hown, hnx⟩ := hrel
      obtain ⟨wo, rfl⟩ : ∃ wo : World, wo = wr := ⟨_, rfl⟩
      by_cases hlt : j < m
      · have hji : (j : Int) < (m : Int) := by omega
        obtain ⟨D, hdd⟩ : ∃ D, D = (l.drop q).take 16 := ⟨_, rfl⟩
        have hD16 : D.length = 16 := by rw [hdd]; simp; omega
        have hs : (l.drop u).take (16 * (j + 1)) = (l.drop u).take (16 * j) ++ D := by
          rw [hdd, Nat.mul_add, Nat.mul_one, List.take_add, List.drop_drop, hq]
        have hqn : q + 16 ≤ n := by omega
        have hjm : j ≤ 100000 := by omega
        have HQ := Lib.hid hq
        have HD := Lib.hid hdd
        have HS := Lib.hid hs
        clear hs hdd hq
        obtain ⟨g, hg⟩ : ∃ g, g = wo.heap.size := ⟨_, rfl⟩
        have HG := Lib.hid hg
        go_wp2_with fail
        rw [← hg]
        clear hg
        go_loopw [11] (fun i wr => ∃ k : Nat, k ≤ 16 ∧ i = .int .i64 k ∧ Below wo.heap.size wo wr ∧ Blk wr g 79 (bytesV (D.take k) ++ List.replicate (16 - k) (Value.int .u8 0)).toArray) (fun i _ => 16 - (intOf i).toNat)
        case atStart => exact ⟨0, by omega, rfl, (Below.refl _ _).alloc (Nat.le_refl _) _, by rw [HG.out]; exact Blk.new wo 79 _⟩
        case round =>
          obtain ⟨k, hk, rfl, hbx, hbk⟩ := hrel
          by_cases hlk : k < 16
          · have hkk : (k : Int) < 16 := by omega
            have f2 := hbk.frozen k
            obtain ⟨N, hN⟩ : ∃ N : Nat, N = q + k := ⟨_, rfl⟩
            have bN : IntKind.i64.wrap ((q : Int) + (k : Int)) = (N : Int) := by rw [IntWalk.i64_in _ (by omega)]; omega
            have bn : (N : Int) < (n : Int) := by omega
            obtain ⟨ad', e1, -, -, c1⟩ := (hl.below (hnx.trans (hbx.mono hnx.size))).byte_at (k := N) (by omega)
            cases e1
            have hdk : l[N]?.getD 0 = D[k]?.getD 0 := by
              rw [HD.out, List.getElem?_take_of_lt hlk, List.getElem?_drop, hN]
            rw [hdk] at c1
            have c2 : wr.cell? ⟨g, k, none⟩ = some (.int .u8 0) := hbk.at_ (by
              rw [List.getElem?_toArray, List.getElem?_append_right (by rw [bytesV_length, List.length_take]; omega), List.getElem?_replicate, if_pos (by rw [bytesV_length, List.length_take]; omega)])
            have hfill := dig_fill D hD16 k hlk
            have HF := Lib.hid hfill
            clear hfill hdk hN
            generalize (D[k]?.getD 0).toNat = dk at *
            go_wp2_with fail
            go_roundw
            case rel => exact ⟨k + 1, by omega, by go_num, hbx.setCell (by show wo.heap.size ≤ g; rw [HG.out]; exact Nat.le_refl _) _, by rw [← HF.out]; exact hbk.set_ k _⟩
            case measure => simp [intOf]; omega
          · obtain rfl : k = 16 := by omega
            have hD2 := hbk
            rw [List.take_of_length_le (by omega), Nat.sub_self, List.replicate_zero, List.append_nil] at hD2
            clear hbk
            have hown1 := own_below hown hbx
            obtain ⟨d0, d1, d2, d3, d4, d5, d6, d7, d8, d9, d10, d11, d12, d13, d14, d15, rfl⟩ := list16 D hD16
            have hcs2 : ∀ (k : Nat) (u : Value), ([.int .u8 ((d0.toNat : Nat) : Int), .int .u8 ((d1.toNat : Nat) : Int), .int .u8 ((d2.toNat : Nat) : Int), .int .u8 ((d3.toNat : Nat) : Int), .int .u8 ((d4.toNat : Nat) : Int), .int .u8 ((d5.toNat : Nat) : Int), .int .u8 ((d6.toNat : Nat) : Int), .int .u8 ((d7.toNat : Nat) : Int), .int .u8 ((d8.toNat : Nat) : Int), .int .u8 ((d9.toNat : Nat) : Int), .int .u8 ((d10.toNat : Nat) : Int), .int .u8 ((d11.toNat : Nat) : Int), .int .u8 ((d12.toNat : Nat) : Int), .int .u8 ((d13.toNat : Nat) : Int), .int .u8 ((d14.toNat : Nat) : Int), .int .u8 ((d15.toNat : Nat) : Int)] : List Value)[k]? = some u → wr.cell? ((⟨g, 0, none⟩ : Addr).add k) = some u := by
              intro k u hku
              rw [addr_add0, hD2.cell, List.getElem?_toArray]; exact hku
            have HCS := Lib.hid hcs2
            have hgw : w.heap.size ≤ g := by rw [HG.out]; exact hnx.size
            have hgr : w.heap.size ≤ wr.heap.size := Nat.le_trans hnx.size hbx.size
            clear hcs2 hD2 hD16
            go_wp2_with (first
              | (with_reducible refine wpList_load_cells rfl 79 _ rfl ⟨g, 0, none⟩ rfl [.int .u8 ((d0.toNat : Nat) : Int), .int .u8 ((d1.toNat : Nat) : Int), .int .u8 ((d2.toNat : Nat) : Int), .int .u8 ((d3.toNat : Nat) : Int), .int .u8 ((d4.toNat : Nat) : Int), .int .u8 ((d5.toNat : Nat) : Int), .int .u8 ((d6.toNat : Nat) : Int), .int .u8 ((d7.toNat : Nat) : Int), .int .u8 ((d8.toNat : Nat) : Int), .int .u8 ((d9.toNat : Nat) : Int), .int .u8 ((d10.toNat : Nat) : Int), .int .u8 ((d11.toNat : Nat) : Int), .int .u8 ((d12.toNat : Nat) : Int), .int .u8 ((d13.toNat : Nat) : Int), .int .u8 ((d14.toNat : Nat) : Int), .int .u8 ((d15.toNat : Nat) : Int)] _ (HCS.out) Try.underlying79 rfl (by kernel_rfl) ?_)
              | (at_builtin; refine wpList_append_own _ rfl _ _ 43 rfl w.heap.size 79 i0 (.agg #[.int .u8 0, .int .u8 0, .int .u8 0, .int .u8 0, .int .u8 0, .int .u8 0, .int .u8 0, .int .u8 0, .int .u8 0, .int .u8 0, .int .u8 0, .int .u8 0, .int .u8 0, .int .u8 0, .int .u8 0, .int .u8 0]) 16 16 Try.underlying43 hi hz0 hz1 hz2 rfl (by decide) _ _ _ rfl (hown1.alloc _) ⟨wr.heap.size, 0, none⟩ 1 1 [.int .u8 ((d0.toNat : Nat) : Int), .int .u8 ((d1.toNat : Nat) : Int), .int .u8 ((d2.toNat : Nat) : Int), .int .u8 ((d3.toNat : Nat) : Int), .int .u8 ((d4.toNat : Nat) : Int), .int .u8 ((d5.toNat : Nat) : Int), .int .u8 ((d6.toNat : Nat) : Int), .int .u8 ((d7.toNat : Nat) : Int), .int .u8 ((d8.toNat : Nat) : Int), .int .u8 ((d9.toNat : Nat) : Int), .int .u8 ((d10.toNat : Nat) : Int), .int .u8 ((d11.toNat : Nat) : Int), .int .u8 ((d12.toNat : Nat) : Int), .int .u8 ((d13.toNat : Nat) : Int), .int .u8 ((d14.toNat : Nat) : Int), .int .u8 ((d15.toNat : Nat) : Int)] rfl rfl (cells_new wr _ _) (bytesV_one [d0, d1, d2, d3, d4, d5, d6, d7, d8, d9, d10, d11, d12, d13, d14, d15]) (by unfold maxLen; omega) (by omega) (by simp; omega) ?_; intro v' w3 hown' hgrow _))
            go_roundw
            case rel =>
              refine ⟨j + 1, q + 16, by omega, by go_num, by go_num, by have := HQ.out; omega, ?_, ((hnx.trans (hbx.mono hnx.size)).alloc hgr _).grown hgrow (by simp; omega) (fun b e => (hown1.lt b e).1)⟩
              rw [HS.out, bytesV_append]; exact hown'
            case measure => simp [intOf]; omega
      · obtain rfl : j = m := by omega
        go_wp2_with fail
        go_ret3
        subst hq
        exact ⟨⟨_, _, 0, j, _, rfl, hown, by rw [List.length_take, List.length_drop]; omega, by rw [if_pos rfl], fun h => absurd rfl h⟩, hnx⟩
end Go.Proofs.Ytbofbihpmhkppaa

