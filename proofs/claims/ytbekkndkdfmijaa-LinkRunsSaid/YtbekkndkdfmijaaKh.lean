/- Reading a packet. Conditions: the bytes are at most a hundred thousand. -/
import Derived.Test.YtbekkndkdfmijaaKg
import Derived.Deep.CutRange
set_option linter.unusedSimpArgs false
set_option linter.unusedVariables false
namespace Go.Proofs.Ytbekkndkdfmijaa
open Go.RowKit

/-- a length that was decoded stands there -/
theorem decC_canon {s : Nat} {b : List UInt8} {n u : Nat} (h : decC s b = .ok (n, u)) (hs : 0 < s) : encInt (n : Int) = b.take u ∧ n * s + u ≤ b.length := by
  obtain ⟨h1, h2⟩ := decC_ok h hs
  exact ⟨(decI_canon _ _ _ h1).2.2.2.2, h2⟩
theorem decB_canon {b s : List UInt8} {u : Nat} (h : decB b = .ok (s, u)) : encBytes s = b.take u ∧ u ≤ b.length ∧ s.length ≤ b.length := by
  unfold decB at h
  cases hc : decC 1 b with
  | error e => rw [hc] at h; simp at h
  | ok q =>
    obtain ⟨n, v⟩ := q
    rw [hc] at h
    simp only [Except.ok.injEq, Prod.mk.injEq] at h
    obtain ⟨rfl, rfl⟩ := h
    obtain ⟨h1, h2⟩ := decC_canon hc (by omega)
    have hl : ((b.drop v).take n).length = n := by simp; omega
    refine ⟨?_, by omega, by omega⟩
    unfold encBytes
    rw [hl, h1, List.take_add]
section
variable {α : Type} {f : List UInt8 → Except Nat (α × Nat)} {enc : α → List UInt8}
theorem decN_length {b : List UInt8} : ∀ {k at_ : Nat} {r : List α} {z : Nat}, decN f b k at_ = .ok (r, z) → r.length = k
  | 0, at_, r, z, h => by simp [decN] at h; simp [h.1]
  | k + 1, at_, r, z, h => by
    unfold decN at h
    cases hf : f (b.drop at_) with
    | error e => rw [hf] at h; simp at h
    | ok q =>
      obtain ⟨x, u⟩ := q
      rw [hf] at h
      dsimp only at h
      cases hn : decN f b k (at_ + u) with
      | error e => rw [hn] at h; simp at h
      | ok q =>
        obtain ⟨r', z'⟩ := q
        rw [hn] at h
        simp only [Except.ok.injEq, Prod.mk.injEq] at h
        rw [← h.1, List.length_cons, decN_length hn]
theorem decN_canon (hc : ∀ b x u, f b = .ok (x, u) → enc x = b.take u ∧ u ≤ b.length) {b : List UInt8} : ∀ {k at_ : Nat} {l : List α} {z : Nat}, decN f b k at_ = .ok (l, z) → at_ ≤ b.length →
    at_ ≤ z ∧ z ≤ b.length ∧ l.flatMap enc = (b.drop at_).take (z - at_)
  | 0, at_, l, z, h, hb => by
    simp [decN] at h
    obtain ⟨rfl, rfl⟩ := h
    exact ⟨Nat.le_refl _, hb, by simp⟩
  | k + 1, at_, l, z, h, hb => by
    unfold decN at h
    cases hf : f (b.drop at_) with
    | error e => rw [hf] at h; simp at h
    | ok q =>
      obtain ⟨x, u⟩ := q
      rw [hf] at h
      dsimp only at h
      obtain ⟨h1, h2⟩ := hc _ _ _ hf
      rw [List.length_drop] at h2
      cases hn : decN f b k (at_ + u) with
      | error e => rw [hn] at h; simp at h
      | ok q =>
        obtain ⟨r, z'⟩ := q
        rw [hn] at h
        simp only [Except.ok.injEq, Prod.mk.injEq] at h
        obtain ⟨rfl, rfl⟩ := h
        obtain ⟨h3, h4, h5⟩ := decN_canon hc hn (by omega)
        refine ⟨by omega, h4, ?_⟩
        rw [List.flatMap_cons, h1, h5, ← List.drop_drop, show z' - at_ = u + (z' - (at_ + u)) by omega, List.take_add]
theorem decL_canon (hc : ∀ b x u, f b = .ok (x, u) → enc x = b.take u ∧ u ≤ b.length) {b : List UInt8} {l : List α} {z : Nat} (h : decL f b = .ok (l, z)) : encInt (l.length : Int) ++ l.flatMap enc = b.take z ∧ z ≤ b.length := by
  unfold decL at h
  cases hC : decC 1 b with
  | error e => rw [hC] at h; simp at h
  | ok q =>
    obtain ⟨n, u⟩ := q
    rw [hC] at h
    dsimp only at h
    obtain ⟨h1, h2⟩ := decC_canon hC (by omega)
    obtain ⟨h3, h4, h5⟩ := decN_canon hc h (by omega)
    rw [decN_length h, h1, h5]
    refine ⟨?_, h4⟩
    conv => rhs; rw [show z = u + (z - u) by omega, List.take_add]
end
theorem ints_canon {b : List UInt8} {l : List Int} {z : Nat} (h : decL decI b = .ok (l, z)) : encInts l = b.take z ∧ z ≤ b.length :=
  decL_canon (enc := encInt) (fun b x u h => ⟨(decI_canon b x u h).2.2.2.2, (decI_canon b x u h).2.2.2.1⟩) h
theorem decN_i64 {b : List UInt8} : ∀ {k at_ : Nat} {l : List Int} {z : Nat}, decN decI b k at_ = .ok (l, z) → ∀ x ∈ l, I64 x
  | 0, at_, l, z, h => by
    simp [decN] at h
    obtain ⟨rfl, rfl⟩ := h
    simp
  | k + 1, at_, l, z, h => by
    unfold decN at h
    cases hf : decI (b.drop at_) with
    | error e => rw [hf] at h; simp at h
    | ok q =>
      obtain ⟨x, u⟩ := q
      rw [hf] at h
      dsimp only at h
      cases hn : decN decI b k (at_ + u) with
      | error e => rw [hn] at h; simp at h
      | ok q =>
        obtain ⟨r, z'⟩ := q
        rw [hn] at h
        simp only [Except.ok.injEq, Prod.mk.injEq] at h
        obtain ⟨rfl, rfl⟩ := h
        intro y hy
        rcases List.mem_cons.1 hy with rfl | hy
        · exact (decI_canon _ _ _ hf).1
        · exact decN_i64 hn y hy
theorem decL_i64 {b : List UInt8} {l : List Int} {z : Nat} (h : decL decI b = .ok (l, z)) : ∀ x ∈ l, I64 x := by
  unfold decL at h
  cases hC : decC 1 b with
  | error e => rw [hC] at h; simp at h
  | ok q =>
    obtain ⟨n, u⟩ := q
    rw [hC] at h
    exact decN_i64 h
theorem decB_err {b : List UInt8} {e : Nat} (h : decB b = .error e) : e ≠ 0 := by
  unfold decB at h
  cases hC : decC 1 b with
  | error q => rw [hC] at h; simp at h; subst h; rcases decC_err hC with h | h <;> omega
  | ok q => rw [hC] at h; simp at h
theorem two_of {r : List Int} (h : r.length = 2) : ∃ s a, r = [s, a] := by
  match r, h with
  | [s, a], _ => exact ⟨s, a, rfl⟩
theorem pktOk_eq (s a : Int) (b : List UInt8) (n : Nat) (h : b.length = n) : pktOk s a b = (decide (0 ≤ s) && decide (0 ≤ a) && decide (n ≤ 65536) && (decide (0 < s) || decide (n = 0))) := by subst h; rfl
set_option maxRecDepth 100000 in
set_option maxHeartbeats 4000000 in
theorem valid_any (s a : Int) (A : Option Addr) (n c : Nat) (w : World) :
    Calls Try.prog 48 #[.agg #[.int .i64 s, .int .i64 a, .slice A n c]] w fun e W' => e = .returned (.bool (decide (0 ≤ s) && decide (0 ≤ a) && decide (n ≤ 65536) && (decide (0 < s) || decide (n = 0)))) ∧ Below w.heap.size w W' := by
  have b0 : Below w.heap.size w (w.alloc (.cells #[.int .i64 s, .int .i64 a, .slice A n c] 68)) := (Below.refl _ w).alloc (Nat.le_refl _) _
  by_cases h1 : 0 ≤ s
  · by_cases h2 : 0 ≤ a
    · by_cases h3 : (n : Int) ≤ 65536
      · by_cases h4 : 0 < s
        · go_enter Try.func48, Try.ntmps48
          go_wp2_with fail
          go_ret
          exact ⟨ret_bool (by simp [h1, h2, h4]; omega), b0⟩
        · by_cases h5 : n = 0
          · subst h5
            have h4' : decide (0 < s) = false := decide_eq_false h4
            go_enter Try.func48, Try.ntmps48
            go_wp2_with fail
            go_ret
            exact ⟨ret_bool (by simp [h1, h2]), b0⟩
          · have h5' : ((n : Int) == 0) = false := by simp; omega
            have h4' : decide (0 < s) = false := decide_eq_false h4
            go_enter Try.func48, Try.ntmps48
            go_wp2_with fail
            go_ret
            exact ⟨ret_bool (by simp [h4, h5]), b0⟩
      · have h3' : decide ((n : Int) ≤ 65536) = false := decide_eq_false h3
        go_enter Try.func48, Try.ntmps48
        go_wp2_with fail
        go_ret
        exact ⟨ret_bool (by rw [show decide (n ≤ 65536) = false from decide_eq_false (by omega)]; simp), b0⟩
    · have h2' : decide (0 ≤ a) = false := decide_eq_false h2
      go_enter Try.func48, Try.ntmps48
      go_wp2_with fail
      go_ret
      exact ⟨ret_bool (by simp [h2']), b0⟩
  · have h1' : decide (0 ≤ s) = false := decide_eq_false h1
    go_enter Try.func48, Try.ntmps48
    go_wp2_with fail
    go_ret
    exact ⟨ret_bool (by simp [h1']), b0⟩
theorem results_cell_tmp {P : Program} {fn : Func} {p q : Tmp} {ty : TypeId} (h : fn.results = #[.cell p ty, .tmp q]) (tmps : Array Value) (w : World) (g : Nat) (t : TypeId) (cs : Array Value) (fr : Nat × Nat) (d : TypeDesc)
    (hp : tmps.getD p undef = .pointer (some ⟨g, 0, none⟩)) (hg : w.heap[g]? = some (.cells cs t fr))
    (hu : P.underlying ty = some d) (hd : (match d with | .struct _ | .array _ _ => true | _ => false) = true) (hi : (P.info? ty).map (·.size) = some cs.size) :
    (results fn tmps).run P w = .ok (.tuple #[.agg cs, tmps.getD q undef]) w := by
  have hp' : tmps[p]?.getD undef = .pointer (some ⟨g, 0, none⟩) := by simpa using hp
  simp [results, h, hp', asAddr, run_loadVar_row w g t ty cs fr d hg hu hd hi]
theorem info68 : (Try.prog.info? 68).map (·.size) = some 3 := by kernel_rfl
/-- what reading a packet gives -/
def RdP (l : List UInt8) (w : World) (e : Ending) (W' : World) : Prop :=
  (∃ (s a : Int) (A : Option Addr) (n c : Nat) (b : List UInt8), e = .returned (.tuple #[.agg #[.int .i64 s, .int .i64 a, .slice A n c], .bool (readP l).isSome]) ∧ (∀ p, readP l = some p → p = (s, a, b)) ∧ Hid (Per W' A n b) ∧ n ≤ c ∧ I64 s ∧ I64 a ∧ b.length ≤ 100000 ∧ Hid (∀ ad, A = some ad → w.heap.size ≤ ad.block)) ∧ Below w.heap.size w W'
theorem Per.ok {w W : World} {A : Option Addr} {n : Nat} {l : List UInt8} (h : Per w A n l) (k : Ok w W) : Per W A n l := fun W' hW' => h W' (Below.trans k (Below.mono hW' k.size))
theorem per_cut {w w5 : World} {gc g n : Nat} {l : List UInt8} (h : Per w (some ⟨gc, 0, none⟩) n l) (k : Ok w w5) (hg : g < gc) (u0 u1 u2 : Value) : Per (((w5.setCell ⟨g, 0, none⟩ u0).setCell ⟨g, 1, none⟩ u1).setCell ⟨g, 2, none⟩ u2) (some ⟨gc, 0, none⟩) n l := by
  have h5 := h w5 k
  refine per_of ⟨h5.1, fun hn => ?_⟩
  obtain ⟨ad, e, hb, hc⟩ := h5.2 hn
  cases e
  refine ⟨_, rfl, by simpa [World.setCell] using hb, fun j u hu => ?_⟩
  have := hc j u hu
  rw [addr_add0] at this ⊢
  have ne : ∀ i, (⟨g, i, none⟩ : Addr) ≠ ⟨gc, j, none⟩ := fun i e => by injection e with e; omega
  rw [World.cell?_setCell_other _ _ _ _ (ne 2), World.cell?_setCell_other _ _ _ _ (ne 1), World.cell?_setCell_other _ _ _ _ (ne 0)]
  exact this
theorem conv_per (W0 : World) (bb : List UInt8) (cap : Nat) (z : Nat × Nat) (g : Nat) (hg : g = W0.heap.size) : Per (W0.alloc (.cells (bytesRow ⟨bb.toArray⟩ cap) 5 z)) (some ⟨g, 0, none⟩) bb.length bb := by
  subst hg
  refine per_of ⟨by rw [bytesV_length, Nat.mul_one], fun _ => ⟨_, rfl, by simp, fun j u hu => ?_⟩⟩
  have := conv_cells W0 ⟨bb.toArray⟩ cap 5 z j u (by simpa using hu)
  exact this
theorem hdefp {l bb : List UInt8} {s a : Int} {z m n : Nat} (h : readP l = (if z + m = l.length ∧ pktOk s a bb = true then some (s, a, bb) else none)) (hz : z + m = n) (el : l.length = n) : (readP l).isSome = pktOk s a bb ∧ ∀ p, readP l = some p → p = (s, a, bb) := by
  rw [h]
  by_cases hp : pktOk s a bb = true
  · rw [if_pos ⟨by omega, hp⟩, hp]
    exact ⟨rfl, fun p hp => (Option.some.inj hp).symm⟩
  · rw [if_neg (fun h => hp h.2)]
    exact ⟨by cases hv : pktOk s a bb; rfl; exact absurd hv hp, fun p hp => by cases hp⟩
theorem rdP_none {l : List UInt8} {w W' : World} {e : Ending} {s a : Int} (h : readP l = none) (he : e = .returned (.tuple #[.agg #[.int .i64 0, .int .i64 0, .slice none 0 0], .bool false])) (hb : Below w.heap.size w W') : RdP l w e W' := by
  refine ⟨⟨0, 0, none, 0, 0, [], by rw [he, h]; rfl, fun p hp => (by rw [h] at hp; cases hp), Lib.hid (per_of (Reads.nil_ _ _ _ _)), Nat.le_refl _, ⟨by omega, by omega⟩, ⟨by omega, by omega⟩, by simp, Lib.hid (by simp)⟩, hb⟩
abbrev Z68 : Array Value := #[.int .i64 0, .int .i64 0, .slice none 0 0]
theorem info68z : (Try.prog.info? 68).map (·.size) = some (#[.int .i64 0, .int .i64 0, .slice none 0 0] : Array Value).size := info68
theorem one68z : (#[.int .i64 0, .int .i64 0, .slice none 0 0] : Array Value).all (·.oneCell') = true := by
  rw [Array.all_eq_true']
  intro x hx
  simp at hx
  rcases hx with rfl | rfl <;> rfl
set_option maxRecDepth 100000 in
set_option maxHeartbeats 8000000 in
theorem wRead_any (A : Option Addr) (n c : Nat) (l : List UInt8) (w : World) (hl : Reads w w.heap.size 1 A n (bytesV l)) (hn : n ≤ 100000) (hnc : n ≤ c) :
    Calls Try.prog 36 #[.slice A n c] w (RdP l w) := by
  have el := hl.byte_len
  have b0 : Below w.heap.size w (w.alloc (.cells #[.int .i64 0, .int .i64 0, .slice none 0 0] 68)) := (Below.refl _ w).alloc (Nat.le_refl _) _
  have k0 := Blk.new w 68 #[.int .i64 0, .int .i64 0, .slice none 0 0]
  have hG := wGetInts_any A n c l _ ((hl.below b0).more b0.size) hn hnc
  have HG := Lib.hid hG
  clear hG
  have hdef : readP l = (match decL decI l with
    | .error _ => none
    | .ok (xs, n) => match xs with
      | [s, a] => match decB (l.drop n) with
        | .error _ => none
        | .ok (b, m) => if n + m = l.length ∧ pktOk s a b = true then some (s, a, b) else none
      | _ => none) := rfl
  go_enter Try.func36, Try.ntmps36
  go_wp2_with fail
  refine HG.out.mono ?_
  generalize w.alloc (.cells #[.int .i64 0, .int .i64 0, .slice none 0 0] 68) = w1 at *
  rintro E w2 ⟨⟨v, z, q, r, rfl, ho, hvl, hD, hz⟩, hb⟩
  have b2 := below_next b0 hb
  have k2 := k0.below hb k0.lt
  have h2 : w2.heap[w.heap.size]? = some (.cells #[.int .i64 0, .int .i64 0, .slice none 0 0] 68 (0, 0)) := k2
  by_cases hq : (q : Int) = 0
  · obtain rfl : q = 0 := by omega
    rw [if_pos rfl] at hD
    rw [hD] at hdef
    dsimp only at hdef
    obtain ⟨-, hzl⟩ := ints_canon hD
    have hI := decL_i64 hD
    by_cases hr2 : r.length = 2
    · obtain ⟨s, a, rfl⟩ := two_of hr2
      dsimp only at hdef
      have hsI : I64 s := hI s (by simp)
      have haI : I64 a := hI a (by simp)
      obtain ⟨gx, cx, rfl, -, hgx⟩ := ho.form (by simp)
      have hx := ho.cells (g := gx) rfl
      have kx0 : w2.cell? ⟨gx, 0, none⟩ = some (.int .i64 s) := by have := hx 0 (.int .i64 s) rfl; rwa [addr_add0] at this
      have kx1 : w2.cell? ⟨gx, 1, none⟩ = some (.int .i64 a) := by have := hx 1 (.int .i64 a) rfl; rwa [addr_add0] at this
      clear hx ho hI hvl hz
      have hA : ∃ ad, A = some ad := by
        have : 0 < n := by
          rcases Nat.eq_zero_or_pos n with h0 | h0
          · have : l = [] := List.eq_nil_of_length_eq_zero (by omega)
            subst this
            have hn : decL decI [] = .error 3 := rfl
            rw [hn] at hD
            cases hD
          · exact h0
        obtain ⟨ad, h, -⟩ := hl.byte_at (k := 0) this
        exact ⟨ad, h⟩
      obtain ⟨ad, rfl⟩ := hA
      clear hD
      have hzn : z ≤ n := by omega
      have b4 : (z : Int) ≤ (n : Int) := by omega
      have b5 : (z : Int) ≤ (c : Int) := by omega
      by_cases hcz : c = z
      · have hnz : n = z := by omega
        have hdr : l.drop z = [] := List.drop_of_length_le (by omega)
        have hB : decB (l.drop z) = .error 3 := by rw [hdr]; rfl
        have hgb := wGetBytes_any (some ad) 0 0 (l.drop z) w2 (reads_none _ _ _ _ _ (by omega)) (by omega) (by omega)
        have HGB := Lib.hid hgb
        rw [hB] at hdef
        dsimp only at hdef
        have HD := Lib.hid hdef
        have hl2 : (([s, a] : List Int).length) = 2 := rfl
        clear hgb hdef hdr
        subst hnz
        subst hcz
        go_wp2_with fail
        refine HGB.out.mono ?_
        rintro E w3 ⟨rfl, qq, rfl⟩
        rw [hB]
        simp only [retB]
        have h3 : (w2.drewN qq).heap[w.heap.size]? = some (.cells #[.int .i64 0, .int .i64 0, .slice none 0 0] 68 (0, 0)) := h2
        go_wp2_with (with_reducible refine wpList_store_row rfl 68 _ _ rfl w.heap.size #[.int .i64 0, .int .i64 0, .slice none 0 0] rfl rfl 68 _ h3 info68z rfl one68z ?_)
        refine bodyPost_ret (results_cell_tmp Try.results36 _ _ w.heap.size 68 #[.int .i64 0, .int .i64 0, .slice none 0 0] (0, 0) _ rfl (Blk.row h3 _) Try.underlying68 rfl info68z) rfl ?_
        exact rdP_none (s := 0) (a := 0) HD.out rfl (below_setRow (below_drewN' b2 qq) (Nat.le_refl _) _)
      · have hcz2 : (c : Int) ≠ (z : Int) := by omega
        have hrd : Reads w2 w2.heap.size 1 (some (ad.add z)) (n - z) (bytesV (l.drop z)) := by
          by_cases hnz : n = z
          · rw [show n - z = 0 by omega]; exact reads_none _ _ _ _ _ (by omega)
          · exact ((reads_drop hl z (by omega)).below b2).more b2.size
        have hgb := wGetBytes_any (some (ad.add z)) (n - z) (c - z) (l.drop z) w2 hrd (by omega) (by omega)
        have HGB := Lib.hid hgb
        clear hgb hrd
        cases hB : decB (l.drop z) with
        | error t =>
          rw [hB] at hdef
          dsimp only at hdef
          have ht := decB_err hB
          have HD := Lib.hid hdef
          have ht2 : (t : Int) ≠ 0 := by omega
          have hl2 : (([s, a] : List Int).length) = 2 := rfl
          clear hdef
          go_wp2_with fail
          refine HGB.out.mono ?_
          rintro E w3 ⟨rfl, qq, rfl⟩
          rw [hB]
          simp only [retB]
          have h3 : (w2.drewN qq).heap[w.heap.size]? = some (.cells #[.int .i64 0, .int .i64 0, .slice none 0 0] 68 (0, 0)) := h2
          go_wp2_with (with_reducible refine wpList_store_row rfl 68 _ _ rfl w.heap.size #[.int .i64 0, .int .i64 0, .slice none 0 0] rfl rfl 68 _ h3 info68z rfl one68z ?_)
          refine bodyPost_ret (results_cell_tmp Try.results36 _ _ w.heap.size 68 #[.int .i64 0, .int .i64 0, .slice none 0 0] (0, 0) _ rfl (Blk.row h3 _) Try.underlying68 rfl info68z) rfl ?_
          exact rdP_none (s := 0) (a := 0) HD.out rfl (below_setRow (below_drewN' b2 qq) (Nat.le_refl _) _)
        | ok p =>
          obtain ⟨bb, m⟩ := p
          rw [hB] at hdef
          dsimp only at hdef
          obtain ⟨-, hm1, hm2⟩ := decB_canon hB
          rw [List.length_drop] at hm1 hm2
          have HM := Lib.hid hm1
          by_cases hzm : z + m = n
          · have hl2 : (([s, a] : List Int).length) = 2 := rfl
            have hne : (((z : Int) + (m : Int)) != (n : Int)) = false := by simp; omega
            have hsm : (z : Int) + (m : Int) ≤ 200000 := by omega
            have hsm2 : (z : Int) + (m : Int) = (n : Int) := by omega
            have HDF := Lib.hid hdef
            have HM2 := Lib.hid hm2
            clear hdef hm2
            go_wp2_with fail
            refine HGB.out.mono ?_
            rintro E w3 ⟨rfl, qq, rfl⟩
            rw [hB]
            simp only [retB]
            have h3 : (w2.drewN qq).heap[w.heap.size]? = some (.cells #[.int .i64 0, .int .i64 0, .slice none 0 0] 68 (0, 0)) := h2
            have b3 := below_drewN' b2 qq
            have kx0 : (w2.drewN qq).cell? ⟨gx, 0, none⟩ = some (.int .i64 s) := kx0
            have kx1 : (w2.drewN qq).cell? ⟨gx, 1, none⟩ = some (.int .i64 a) := kx1
            generalize w2.drewN qq = w3 at *
            have hS : ∀ W, Ok w3 W → W.cell? ⟨gx, 0, none⟩ = some (.int .i64 s) ∧ W.cell? ⟨gx, 1, none⟩ = some (.int .i64 a) := fun W hW => ⟨(Below.cell hW (World.block_lt_of_cell? _ _ kx0)).trans kx0, (Below.cell hW (World.block_lt_of_cell? _ _ kx1)).trans kx1⟩
            have HS := Lib.hid hS
            clear hS
            have ok3 := Ok.refl w3
            have hcv := fun W => run_bytes_of_string (P := Try.prog) W 9 33 5 ⟨bb.toArray⟩ Try.underlying9 Try.underlying33 Try.underlying5
            go_upto_region 7 with fail
            go_cut [9] from 43 to 51 (fun p wx => ∃ gp gc cap, p = .pointer (some ⟨gp, 0, none⟩) ∧ Hid (Blk wx gp 68 #[.int .i64 s, .int .i64 a, .slice (some ⟨gc, 0, none⟩) bb.length cap] ∧ bb.length ≤ cap ∧ Per wx (some ⟨gc, 0, none⟩) bb.length bb ∧ Ok w3 wx ∧ w3.heap.size ≤ gp ∧ w3.heap.size ≤ gc))
            case first =>
              go_region_held (fun W => W.cell? ⟨gx, 0, none⟩ = some (.int .i64 s) ∧ W.cell? ⟨gx, 1, none⟩ = some (.int .i64 a))
                (first | exact HS.out _ (by (repeat (first | with_reducible assumption | with_reducible apply Ok.drew | with_reducible apply Ok.alloc | with_reducible apply Ok.drewN))))
                (first | fail)
              · go_wp2_with fail
                go_meet
                refine ⟨_, w3.heap.size, grownCap w3.drew bb.length 0 5, rfl, Lib.hid ⟨(Blk.new' (by simp)).drew.drew, grownCap_ge _ _ _ _, ?_, ?_, by simp, by simp⟩⟩
                · exact Per.ok (conv_per w3 bb _ _ _ rfl) (Ok.drew (Ok.drew (Ok.alloc (Ok.refl _) _)))
                · (repeat (first | with_reducible exact Ok.refl _ | with_reducible apply Ok.drew | with_reducible apply Ok.alloc))
              · go_wp2_with fail
                go_meet
                refine ⟨_, w3.heap.size + 1, grownCap (w3.alloc (.cells #[.int .i64 0, .int .i64 0, .slice none 0 0] 68)).drew bb.length 0 5, rfl, Lib.hid ⟨((Blk.new w3 68 _).alloc _).drew.drew, grownCap_ge _ _ _ _, ?_, ?_, by simp, by simp⟩⟩
                · exact Per.ok (conv_per (w3.alloc _) bb _ _ _ (by simp)) (Ok.drew (Ok.drew (Ok.refl _)))
                · (repeat (first | with_reducible exact Ok.refl _ | with_reducible apply Ok.drew | with_reducible apply Ok.alloc))
            case rest =>
              obtain ⟨gp, gc, cap, rfl, HC⟩ := hcut
              obtain ⟨kp, hcap, hper, okx, hgp, hgc⟩ := HC.out
              have b4 := b3.trans (Below.mono okx b3.size)
              have k4 := Blk.ok h3 okx
              have hpk := hdefp HDF.out hzm el
              have hwlt : w.heap.size ≠ gp := by have := k0.lt; have := b3.size; have := Blk.lt h3; omega
              have hS : ∀ W, Ok wc W → W.cell? ⟨gp, 0, none⟩ = some (.int .i64 s) ∧ W.cell? ⟨gp, 1, none⟩ = some (.int .i64 a) ∧ W.cell? ⟨gp, 2, none⟩ = some (.slice (some ⟨gc, 0, none⟩) bb.length cap) := fun W hW => ⟨(kp.ok hW).at_ rfl, (kp.ok hW).at_ rfl, (kp.ok hW).at_ rfl⟩
              have hS2 : ∀ W u0 u1 u2, Ok wc W → (((W.setCell ⟨w.heap.size, 0, none⟩ u0).setCell ⟨w.heap.size, 1, none⟩ u1).setCell ⟨w.heap.size, 2, none⟩ u2).cell? ⟨gp, 0, none⟩ = some (.int .i64 s) ∧ (((W.setCell ⟨w.heap.size, 0, none⟩ u0).setCell ⟨w.heap.size, 1, none⟩ u1).setCell ⟨w.heap.size, 2, none⟩ u2).cell? ⟨gp, 1, none⟩ = some (.int .i64 a) ∧ (((W.setCell ⟨w.heap.size, 0, none⟩ u0).setCell ⟨w.heap.size, 1, none⟩ u1).setCell ⟨w.heap.size, 2, none⟩ u2).cell? ⟨gp, 2, none⟩ = some (.slice (some ⟨gc, 0, none⟩) bb.length cap) := fun W u0 u1 u2 hW => by
                have k := (((kp.ok hW).far (p := ⟨w.heap.size, 0, none⟩) (Ne.symm hwlt) u0).far (p := ⟨w.heap.size, 1, none⟩) (Ne.symm hwlt) u1).far (p := ⟨w.heap.size, 2, none⟩) (Ne.symm hwlt) u2
                exact ⟨k.at_ rfl, k.at_ rfl, k.at_ rfl⟩
              have HS1 := Lib.hid hS
              have HS2 := Lib.hid hS2
              have H4 := Lib.hid b4
              have HPK := Lib.hid hpk
              have HPE := Lib.hid hper
              have HCAP := Lib.hid hcap
              have okw := Ok.refl wc
              clear hS hS2 hpk hper hcap b4 HC
              obtain ⟨g0, g1, g2⟩ := HS1.out wc okw
              go_wp2_with fail
              go_region_held3 (fun W => W.cell? ⟨gp, 0, none⟩ = some (.int .i64 s) ∧ W.cell? ⟨gp, 1, none⟩ = some (.int .i64 a) ∧ W.cell? ⟨gp, 2, none⟩ = some (.slice (some ⟨gc, 0, none⟩) bb.length cap))
                (first | (refine HS1.out _ ?_; (repeat (first | with_reducible assumption | with_reducible apply Ok.drew | with_reducible apply Ok.alloc | with_reducible apply Ok.drewN)); done) | (refine HS2.out _ _ _ _ ?_; (repeat (first | with_reducible assumption | with_reducible apply Ok.drew | with_reducible apply Ok.alloc | with_reducible apply Ok.drewN)); done))
                (first
                  | (go_at_call 48; (refine (valid_any s a (some ⟨gc, 0, none⟩) bb.length cap _).mono ?_); (rintro E w5 ⟨rfl, hb5⟩); (have ok5 : Ok wc w5 := Ok.step (by (repeat (first | with_reducible assumption | with_reducible apply Ok.drew | with_reducible apply Ok.alloc | with_reducible apply Ok.drewN))) hb5); (have k5 := Blk.ok k4 ok5); (have t0 : w5.cell? ⟨w.heap.size, 0, none⟩ = some (.int .i64 0) := k5.at_ rfl); (have t1 : w5.cell? ⟨w.heap.size, 1, none⟩ = some (.int .i64 0) := k5.at_ rfl); (have t2 : w5.cell? ⟨w.heap.size, 2, none⟩ = some (.slice none 0 0) := k5.at_ rfl); (have f0 := k5.frozen 0); (have f1 := k5.frozen 1); (have f2 := k5.frozen 2)))
              have kf : Blk (((w5.setCell ⟨w.heap.size, 0, none⟩ (.int .i64 s)).setCell ⟨w.heap.size, 1, none⟩ (.int .i64 a)).setCell ⟨w.heap.size, 2, none⟩ (.slice (some ⟨gc, 0, none⟩) bb.length cap)) w.heap.size 68 #[.int .i64 s, .int .i64 a, .slice (some ⟨gc, 0, none⟩) bb.length cap] := ((k5.set_ 0 (.int .i64 s)).set_ 1 (.int .i64 a)).set_ 2 (.slice (some ⟨gc, 0, none⟩) bb.length cap)
              have bf : Below w.heap.size w (((w5.setCell ⟨w.heap.size, 0, none⟩ (.int .i64 s)).setCell ⟨w.heap.size, 1, none⟩ (.int .i64 a)).setCell ⟨w.heap.size, 2, none⟩ (.slice (some ⟨gc, 0, none⟩) bb.length cap)) :=
                (((H4.out.trans (Below.mono ok5 H4.out.size)).setCell (p := ⟨w.heap.size, 0, none⟩) (Nat.le_refl _) _).setCell (p := ⟨w.heap.size, 1, none⟩) (Nat.le_refl _) _).setCell (p := ⟨w.heap.size, 2, none⟩) (Nat.le_refl _) _
              have hpf : Per (((w5.setCell ⟨w.heap.size, 0, none⟩ (.int .i64 s)).setCell ⟨w.heap.size, 1, none⟩ (.int .i64 a)).setCell ⟨w.heap.size, 2, none⟩ (.slice (some ⟨gc, 0, none⟩) bb.length cap)) (some ⟨gc, 0, none⟩) bb.length bb := per_cut HPE.out ok5 (Nat.lt_of_lt_of_le (Blk.lt h3) hgc) _ _ _
              go_wp2_with fail
              refine bodyPost_ret (results_cell_tmp Try.results36 _ _ w.heap.size 68 #[.int .i64 s, .int .i64 a, .slice (some ⟨gc, 0, none⟩) bb.length cap] (0, 0) _ rfl kf Try.underlying68 rfl info68) rfl ?_
              have hv : (decide (0 ≤ s) && decide (0 ≤ a) && decide (bb.length ≤ 65536) && (decide (0 < s) || decide (bb = []))) = (readP l).isSome := by rw [HPK.out.1]; unfold pktOk; simp
              have hM2 := HM2.out
              exact ⟨⟨s, a, _, _, cap, bb, congrArg (fun b => Ending.returned (.tuple #[.agg #[.int .i64 s, .int .i64 a, .slice (some ⟨gc, 0, none⟩) bb.length cap], .bool b])) hv, HPK.out.2, Lib.hid hpf, HCAP.out, hsI, haI, by omega, Lib.hid (by rintro ad ⟨⟩; exact Nat.le_trans b3.size hgc)⟩, bf⟩
          · rw [if_neg (fun h => hzm (by omega))] at hdef
            have HD := Lib.hid hdef
            have hl2 : (([s, a] : List Int).length) = 2 := rfl
            have hne : (((z : Int) + (m : Int)) != (n : Int)) = true := by rw [bne_iff_ne]; omega
            have hsm : (z : Int) + (m : Int) ≤ 200000 := by omega
            clear hdef hm2
            go_wp2_with fail
            refine HGB.out.mono ?_
            rintro E w3 ⟨rfl, qq, rfl⟩
            rw [hB]
            simp only [retB]
            have h3 : (w2.drewN qq).heap[w.heap.size]? = some (.cells #[.int .i64 0, .int .i64 0, .slice none 0 0] 68 (0, 0)) := h2
            go_wp2_with (with_reducible refine wpList_store_row rfl 68 _ _ rfl w.heap.size #[.int .i64 0, .int .i64 0, .slice none 0 0] rfl rfl 68 _ h3 info68z rfl one68z ?_)
            refine bodyPost_ret (results_cell_tmp Try.results36 _ _ w.heap.size 68 #[.int .i64 0, .int .i64 0, .slice none 0 0] (0, 0) _ rfl (Blk.row h3 _) Try.underlying68 rfl info68z) rfl ?_
            exact rdP_none (s := 0) (a := 0) HD.out rfl (below_setRow (below_drewN' b2 qq) (Nat.le_refl _) _)
    · obtain ⟨X, c2, rfl, -, -, -⟩ := own_slice ho
      have hr3 : ((r.length : Int) != 2) = true := by rw [bne_iff_ne]; omega
      have hnone : readP l = none := by
        rw [hdef]
        match r, hr2 with
        | [], _ => rfl
        | [_], _ => rfl
        | _ :: _ :: _ :: _, _ => rfl
      have HD := Lib.hid hnone
      clear hdef ho hvl hz hD hnone hI
      go_wp2_with (with_reducible refine wpList_store_row rfl 68 _ _ rfl w.heap.size #[.int .i64 0, .int .i64 0, .slice none 0 0] rfl rfl 68 _ h2 info68z rfl one68z ?_)
      refine bodyPost_ret (results_cell_tmp Try.results36 _ _ w.heap.size 68 #[.int .i64 0, .int .i64 0, .slice none 0 0] (0, 0) _ rfl (Blk.row k2 _) Try.underlying68 rfl info68z) rfl ?_
      exact rdP_none (s := 0) (a := 0) HD.out rfl (below_setRow b2 (Nat.le_refl _) _)
  · rw [if_neg (by omega)] at hD
    rw [hD] at hdef
    have HD := Lib.hid hdef
    obtain ⟨X, c2, rfl, -, -, -⟩ := own_slice ho
    clear hdef ho hvl hz hD
    go_wp2_with (with_reducible refine wpList_store_row rfl 68 _ _ rfl w.heap.size #[.int .i64 0, .int .i64 0, .slice none 0 0] rfl rfl 68 _ h2 info68z rfl one68z ?_)
    refine bodyPost_ret (results_cell_tmp Try.results36 _ _ w.heap.size 68 #[.int .i64 0, .int .i64 0, .slice none 0 0] (0, 0) _ rfl (Blk.row k2 _) Try.underlying68 rfl info68z) rfl ?_
    exact rdP_none (s := 0) (a := 0) HD.out rfl (below_setRow b2 (Nat.le_refl _) _)
end Go.Proofs.Ytbekkndkdfmijaa
