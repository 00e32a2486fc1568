/- A packet's bytes, by the program and by the reference. Conditions: the packet is short. -/
import Derived.Test.YtbekkndkdfmijaaKe
import Derived.Lib.BufferRead
set_option linter.unusedSimpArgs false
set_option linter.unusedVariables false
namespace Go.Proofs.Ytbekkndkdfmijaa
open Go.RowKit

/-- nothing that was there has turned -/
def Ok (w W : World) : Prop := Below w.heap.size w W
section
variable {w W W' : World}
theorem Ok.refl (w : World) : Ok w w := Below.refl _ _
theorem Ok.alloc (h : Ok w W) (o : Obj) : Ok w (W.alloc o) := Below.alloc h h.size o
theorem Ok.drew (h : Ok w W) : Ok w W.drew := Below.drew h
theorem Ok.drewN (h : Ok w W) (n : Nat) : Ok w (W.drewN n) := below_drewN' h n
theorem Ok.step (h : Ok w W) (k : Below W.heap.size W W') : Ok w W' := Below.trans h (k.mono h.size)
theorem Blk.thru {g : Nat} {t : TypeId} {cs : Array Value} (h : Blk W g t cs) (k : Below W.heap.size W W') : Blk W' g t cs := h.below k h.lt
theorem Blk.ok {g : Nat} {t : TypeId} {cs : Array Value} (h : Blk W g t cs) (k : Ok W W') : Blk W' g t cs := h.below k h.lt
end
theorem Blk.new' {W : World} {g : Nat} {t : TypeId} {cs : Array Value} (hg : g = W.heap.size) : Blk (W.alloc (.cells cs t)) g t cs := by rw [hg]; exact Blk.new W t cs
theorem below_next {w W W' : World} (h : Below w.heap.size w W) (b : Below W.heap.size W W') : Below w.heap.size w W' := h.trans (b.mono h.size)
/-- from w on the slice reads as these bytes -/
def Per (w : World) (A : Option Addr) (n : Nat) (l : List UInt8) : Prop := ∀ W, Ok w W → Reads W W.heap.size 1 A n (bytesV l)
theorem per_of {w : World} {A : Option Addr} {n : Nat} {l : List UInt8} (h : Reads w w.heap.size 1 A n (bytesV l)) : Per w A n l := fun W hW => (Reads.below h hW).more hW.size
theorem Per.len {w : World} {A : Option Addr} {n : Nat} {l : List UInt8} (h : Per w A n l) : l.length = n := (h w (Ok.refl w)).byte_len
theorem conv_any {W : World} {B n c : Nat} {A : Option Addr} {l : List UInt8} (h : Reads W B 1 A n (bytesV l)) : (convert 33 9 (.slice A n c)).run Try.prog W = .ok (.string ⟨l.toArray⟩) W := by
  have el := h.byte_len
  cases A with
  | none =>
    have h0 : n = 0 := by
      rcases Nat.eq_zero_or_pos n with h0 | h0
      · exact h0
      · obtain ⟨ad, h1, _⟩ := h.2 h0
        cases h1
    subst h0
    obtain rfl : l = [] := List.eq_nil_of_length_eq_zero el
    exact Lib.run_convert_nil_bytes W 33 9 5 c Try.underlying33 Try.underlying5 Try.underlying9
  | some ad =>
    have := conv_bytes h 0 n c (by omega)
    rw [show ad.add 0 = ad from rfl, List.drop_zero, List.take_of_length_le (by omega)] at this
    exact this
theorem reads_two {W : World} {g : Nat} {t : TypeId} {s a : Int} (h : Blk W g t #[.int .i64 s, .int .i64 a]) : Reads W W.heap.size 1 (some ⟨g, 0, none⟩) 2 (ints [s, a]) :=
  ⟨rfl, fun _ => ⟨_, rfl, h.lt, fun j u hu => by
    rw [addr_add0]
    have hu2 : ([.int .i64 s, .int .i64 a] : List Value)[j]? = some u := hu
    exact h.at_ (by simpa using hu2)⟩⟩
theorem wInts_p (s a : Int) (g : Nat) (W : World) (hs : I64 s) (ha : I64 a) (hg : Blk W g 3 #[.int .i64 s, .int .i64 a]) :
    Calls Try.prog 26 #[.slice (some ⟨g, 0, none⟩) 2 2] W fun e W' => ∃ A n c, Hid (Per W' A n (encInts [s, a])) ∧ Hid (n ≤ 27 ∧ 0 < n) ∧ e = .returned (.slice A n c) ∧ Below W.heap.size W W' := by
  refine (wInts_any (some ⟨g, 0, none⟩) 2 2 [s, a] W (reads_two hg) (by intro x hx; simp at hx; rcases hx with rfl | rfl <;> assumption) (by omega)).mono ?_
  rintro e W' ⟨v, rfl, ho, hb⟩
  obtain ⟨A, c, rfl, hr⟩ := own_reads1 ho
  have h2 := encInt_le ((2 : Nat) : Int) (I64.nat (by omega))
  have h3 := encInt_le s hs
  have h4 := encInt_le a ha
  have h5 : 1 ≤ (encInt s).length := by rw [encInt_length]; omega
  have e : (encInts [s, a]).length = (encInt ((2 : Nat) : Int)).length + ((encInt s).length + (encInt a).length) := by
    show (encInt ((2 : Nat) : Int) ++ (encInt s ++ (encInt a ++ []))).length = _
    simp
  exact ⟨A, _, c, Lib.hid (per_of hr), Lib.hid (by omega), rfl, hb⟩
theorem wBytes_p (b : List UInt8) (W : World) (hb : b.length ≤ 100000) :
    Calls Try.prog 27 #[.string ⟨b.toArray⟩] W fun e W' => ∃ A n c, Hid (Per W' A n (encBytes b)) ∧ Hid (n ≤ 100009) ∧ e = .returned (.slice A n c) ∧ Below W.heap.size W W' := by
  refine (wBytes_any ⟨b.toArray⟩ W (by show b.toArray.size ≤ _; simp; omega)).mono ?_
  rintro e W' ⟨v, rfl, ho, hbl⟩
  obtain ⟨A, c, rfl, hr⟩ := own_reads1 ho
  have h2 := encBytes_le' b (by omega)
  exact ⟨A, _, c, Lib.hid (per_of hr), Lib.hid (by simpa using (by omega : (encBytes b).length ≤ 100009)), rfl, hbl⟩
theorem concat_p (g : Nat) (A B : Option Addr) (n m c d : Nat) (l r : List UInt8) (W : World) (hg : Blk W g 33 #[.slice A n c, .slice B m d]) (hl : Reads W W.heap.size 1 A n (bytesV l)) (hr : Reads W W.heap.size 1 B m (bytesV r))
    (h0 : Hid (n ≤ 27 ∧ 0 < n)) (h1 : Hid (m ≤ 100009)) :
    Calls Try.prog 42 #[.slice (some ⟨g, 0, none⟩) 2 2] W fun e W' => ∃ v, Hid (W'.ownsRow W.heap.size 5 1 v (l ++ r).length (bytesV (l ++ r))) ∧ e = .returned v ∧ Below W.heap.size W W' := by
  have h2 := h0.out
  have h3 := h1.out
  refine (concat_any g A B n m c d l r W hg hl hr (by omega) (by omega) (by omega)).mono ?_
  rintro e W' ⟨v, rfl, ho, hb⟩
  exact ⟨v, Lib.hid ho, rfl, hb⟩
theorem concat_q {A B : Option Addr} {n m : Nat} {l r : List UInt8} {w1 w2 : World} (HL1 : Hid (Per w1 A n l)) (HL2 : Hid (Per w2 B m r)) (h0 : Hid (n ≤ 27 ∧ 0 < n)) (h1 : Hid (m ≤ 100009)) (g c d : Nat) (W : World) (hg : Blk W g 33 #[.slice A n c, .slice B m d]) (k1 : Ok w1 W) (k2 : Ok w2 W) :
    Calls Try.prog 42 #[.slice (some ⟨g, 0, none⟩) 2 2] W fun e W' => ∃ v, Hid (W'.ownsRow W.heap.size 5 1 v (l ++ r).length (bytesV (l ++ r))) ∧ e = .returned v ∧ Below W.heap.size W W' :=
  concat_p g A B n m c d l r W hg (HL1.out W k1) (HL2.out W k2) h0 h1
set_option maxRecDepth 100000 in
set_option maxHeartbeats 8000000 in
theorem wPkt_any (s a : Int) (A : Option Addr) (n c : Nat) (b : List UInt8) (w : World) (hs : I64 s) (ha : I64 a) (hl : Reads w w.heap.size 1 A n (bytesV b)) (hn : n ≤ 100000) :
    Calls Try.prog 33 #[.agg #[.int .i64 s, .int .i64 a, .slice A n c]] w fun e W' => ∃ v, e = .returned v ∧ W'.ownsRow w.heap.size 5 1 v (pktB s a b).length (bytesV (pktB s a b)) ∧ Below w.heap.size w W' := by
  have el := hl.byte_len
  have hbl : b.length ≤ 100000 := by omega
  have hS : ∀ W, Ok (w.alloc (.cells #[.int .i64 s, .int .i64 a, .slice A n c] 68)) W → W.cell? ⟨w.heap.size, 0, none⟩ = some (.int .i64 s) ∧ W.cell? ⟨w.heap.size, 1, none⟩ = some (.int .i64 a) ∧ W.cell? ⟨w.heap.size, 2, none⟩ = some (.slice A n c) ∧ (convert 33 9 (.slice A n c)).run Try.prog W = .ok (.string ⟨b.toArray⟩) W := fun W hW => by
    have k := (Blk.new w 68 #[.int .i64 s, .int .i64 a, .slice A n c]).ok hW
    have hb : Below w.heap.size w W := ((Below.refl _ w).alloc (Nat.le_refl _) _).trans (Below.mono hW (by simp))
    exact ⟨k.at_ rfl, k.at_ rfl, k.at_ rfl, conv_any (hl.below hb)⟩
  have b0 : Below w.heap.size w (w.alloc (.cells #[.int .i64 s, .int .i64 a, .slice A n c] 68)) := (Below.refl _ w).alloc (Nat.le_refl _) _
  have HS := Lib.hid hS
  clear hS hl el hn
  go_enter Try.func33, Try.ntmps33
  go_wp2_with fail
  generalize w.alloc (.cells #[.int .i64 s, .int .i64 a, .slice A n c] 68) = wb at *
  obtain ⟨p0, p1, p2, p3⟩ := HS.out wb (Ok.refl wb)
  obtain ⟨q0, q1, q2, q3⟩ := HS.out wb.drew (Ok.refl wb).drew
  have ok0 := Ok.refl wb
  go_region_held3 (fun W => W.cell? ⟨w.heap.size, 0, none⟩ = some (.int .i64 s) ∧ W.cell? ⟨w.heap.size, 1, none⟩ = some (.int .i64 a) ∧ W.cell? ⟨w.heap.size, 2, none⟩ = some (.slice A n c) ∧ (convert 33 9 (.slice A n c)).run Try.prog W = .ok (.string ⟨b.toArray⟩) W)
    (first | exact HS.out _ (by (repeat (first | with_reducible assumption | with_reducible apply Ok.drew | with_reducible apply Ok.alloc))))
    (first
      | (go_at_call 26; refine (wInts_p s a _ _ hs ha ?_).mono ?_; (focus ((repeat (first | with_reducible assumption | with_reducible exact Blk.new _ _ _ | (with_reducible refine Blk.new' rfl) | (with_reducible refine Blk.new' ?_; simp; done) | with_reducible apply Blk.alloc | with_reducible apply Blk.drew | (with_reducible apply Blk.thru; rotate_left; with_reducible assumption))); done)); rintro E w1 ⟨A1, n1, c1, HL1, HN1, rfl, hb1⟩; have ok1 : Ok wb w1 := Ok.step (by (repeat (first | with_reducible assumption | with_reducible apply Ok.drew | with_reducible apply Ok.alloc))) hb1; have ok11 := Ok.refl w1; try (have ok21 : Ok w2 w1 := Ok.step (by (repeat (first | with_reducible assumption | with_reducible apply Ok.drew | with_reducible apply Ok.alloc))) hb1))
      | (go_at_call 27; refine (wBytes_p b _ hbl).mono ?_; rintro E w2 ⟨A2, n2, c2, HL2, HN2, rfl, hb2⟩; have ok2 : Ok wb w2 := Ok.step (by (repeat (first | with_reducible assumption | with_reducible apply Ok.drew | with_reducible apply Ok.alloc))) hb2; have ok22 := Ok.refl w2; try (have ok12 : Ok w1 w2 := Ok.step (by (repeat (first | with_reducible assumption | with_reducible apply Ok.drew | with_reducible apply Ok.alloc))) hb2))
      | (go_at_call 42; refine (concat_q HL1 HL2 HN1 HN2 _ c1 c2 _ ?_ ?_ ?_).mono ?_; (focus ((repeat (first | with_reducible assumption | with_reducible exact Blk.new _ _ _ | (with_reducible refine Blk.new' rfl) | (with_reducible refine Blk.new' ?_; simp; done) | with_reducible apply Blk.alloc | with_reducible apply Blk.drew | (with_reducible apply Blk.thru; rotate_left; with_reducible assumption))); done)); (focus ((repeat (first | with_reducible assumption | with_reducible apply Ok.drew | with_reducible apply Ok.alloc)); done)); (focus ((repeat (first | with_reducible assumption | with_reducible apply Ok.drew | with_reducible apply Ok.alloc)); done)); rintro E w3 ⟨v3, HO, rfl, hb3⟩; have ok3 : Ok wb w3 := Ok.step (by (repeat (first | with_reducible assumption | with_reducible apply Ok.drew | with_reducible apply Ok.alloc))) hb3))
  go_wp2_with fail
  go_ret
  have z0 := b0.size
  have z2 := Below.size ok2
  refine ⟨_, rfl, own_le HO.out (by simp; omega), b0.trans (Below.mono ok3 z0)⟩
set_option maxRecDepth 100000 in
set_option maxHeartbeats 4000000 in
theorem rPkt_any (s a : Int) (A : Option Addr) (n c : Nat) (b : List UInt8) (w : World) (hs : I64 s) (ha : I64 a) (hl : Reads w w.heap.size 1 A n (bytesV b)) (hn : n ≤ 100000) :
    Calls Try.prog 18 #[.agg #[.int .i64 s, .int .i64 a, .slice A n c]] w fun e W' => ∃ v, e = .returned v ∧ W'.ownsRow w.heap.size 5 1 v (pktB s a b).length (bytesV (pktB s a b)) ∧ Below w.heap.size w W' := by
  obtain ⟨i0, hi, hz0, hz1, hz2⟩ := info_parts info_u8
  have el := hl.byte_len
  have hbl : b.length ≤ 100000 := by omega
  have b0 : Below w.heap.size w (w.alloc (.cells #[.int .i64 s, .int .i64 a, .slice A n c] 43)) := (Below.refl _ w).alloc (Nat.le_refl _) _
  have k0 := Blk.new w 43 #[.int .i64 s, .int .i64 a, .slice A n c]
  have c0 : (w.alloc (.cells #[.int .i64 s, .int .i64 a, .slice A n c] 43)).cell? ⟨w.heap.size, 0, none⟩ = some (.int .i64 s) := k0.at_ rfl
  have c1 : (w.alloc (.cells #[.int .i64 s, .int .i64 a, .slice A n c] 43)).cell? ⟨w.heap.size, 1, none⟩ = some (.int .i64 a) := k0.at_ rfl
  have s0 : (w.alloc (.cells #[.int .i64 s, .int .i64 a, .slice A n c] 43)).heap.size = w.heap.size + 1 := by simp
  have hfin : pktB s a b = encInts [s, a] ++ encBytes b := rfl
  have HF := Lib.hid hfin
  have l1 : (encInts [s, a]).length ≤ 27 := by
    have h2 := encInt_le ((2 : Nat) : Int) (I64.nat (by omega))
    have h3 := encInt_le s hs
    have h4 := encInt_le a ha
    show (encInt ((2 : Nat) : Int) ++ (encInt s ++ (encInt a ++ []))).length ≤ 27
    simp only [List.length_append, List.length_nil]
    omega
  have l2 := encBytes_le' b (by omega)
  have L1 := Lib.hid l1
  have L2 := Lib.hid l2
  clear hfin l1 l2
  go_enter Try.func18, Try.ntmps18
  go_wp2_with fail
  generalize w.alloc (.cells #[.int .i64 s, .int .i64 a, .slice A n c] 43) = w0 at *
  have kI : Blk (w0.alloc (.cells #[.int .i64 s, .int .i64 a] 3)) (w.heap.size + 1) 3 #[.int .i64 s, .int .i64 a] := Blk.new' s0.symm
  have bI := b0.alloc b0.size (.cells #[.int .i64 s, .int .i64 a] 3)
  have k1 := k0.alloc (.cells #[.int .i64 s, .int .i64 a] 3)
  refine (rInts_any (some ⟨w.heap.size + 1, 0, none⟩) 2 2 [s, a] _ (reads_two kI) (by intro x hx; simp at hx; rcases hx with rfl | rfl <;> assumption) (by omega)).mono ?_
  generalize w0.alloc (.cells #[.int .i64 s, .int .i64 a] 3) = w1 at *
  rintro E w2 ⟨v, rfl, ho, hb⟩
  have b2 := below_next bI hb
  have k2 := k1.thru hb
  have c2 : w2.cell? ⟨w.heap.size, 2, none⟩ = some (.slice A n c) := k2.at_ rfl
  have hcv := conv_any (c := c) (hl.below b2)
  generalize encInts [s, a] = X at *
  go_wp2_with fail
  refine (rBytes_any ⟨b.toArray⟩ w2 (by show b.toArray.size ≤ _; simp; omega)).mono ?_
  rintro E w3 ⟨v3, rfl, ho3, hb3⟩
  have ho2 := own_below ho hb3
  have hne := own_ne ho ho3
  obtain ⟨A3, c3, rfl, hr3⟩ := own_reads1 ho3
  rw [show (⟨b.toArray⟩ : ByteArray).data.toList = b from by simp] at hr3
  have b3 := below_next b2 hb3
  have z1 := bI.size
  have zz := Nat.le_trans hb.size hb3.size
  clear ho ho3 c0 c1 c2 k0 k1 k2 kI
  have h1 := L1.out
  have h2 := L2.out
  go_wp2_with (at_builtin; refine wpList_append_reads _ rfl _ _ 33 rfl w1.heap.size 5 i0 (.int .u8 0) 1 1 Try.underlying33 hi hz0 hz1 hz2 rfl (by decide) _ _ _ rfl ho2 _ A3 _ c3 (bytesV (encBytes b)) rfl hr3 (bytesV_one _) (by unfold maxLen; simp; omega) (by simp; omega) zz ?_; intro v' w4 ho4 hgrow)
  go_ret
  refine ⟨_, rfl, ?_, b3.grown hgrow b3.size (fun k e => Nat.le_trans z1 (ho2.lt k e).1)⟩
  rw [HF.out, List.length_append, bytesV_append]
  exact own_le (by simpa using ho4) z1
end Go.Proofs.Ytbekkndkdfmijaa
