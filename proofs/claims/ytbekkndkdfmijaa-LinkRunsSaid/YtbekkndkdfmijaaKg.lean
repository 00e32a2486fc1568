/- Opening sealed bytes, by the program and by the reference. Conditions: the bytes are at most a hundred thousand. -/
import Derived.Test.YtbekkndkdfmijaaKf
set_option linter.unusedSimpArgs false
set_option linter.unusedVariables false
namespace Go.Proofs.Ytbekkndkdfmijaa
open Go.RowKit

theorem loop_all (w : World) (b : Nat → Bool) (body : Nat → Option Bool × Unit → Sem (ForInStep (Option Bool × Unit))) : ∀ (L : List Nat), (∀ i ∈ L, ∀ s, (body i s).run Try.prog w = .ok (if b i then .yield (none, ()) else .done (some false, ())) w) →
    (forIn L (none, ()) body).run Try.prog w = .ok (if L.all b then (none, ()) else (some false, ())) w
  | [], _ => by simp [Sem.run_pure]
  | i :: L, h => by
    rw [List.forIn_cons, Sem.run_bind, h i (by simp)]
    cases hb : b i with
    | true => simp [hb, loop_all w b body L fun j hj => h j (by simp [hj])]
    | false => simp [hb, Sem.run_pure]
set_option maxRecDepth 100000 in
set_option maxHeartbeats 4000000 in
theorem eq8 (f g : Nat → Int) (w : World) : (Op.equalIn 10000 79 (.agg (u8V f)) (.agg (u8V g))).run Try.prog w = .ok ((List.range 8).all fun i => f i == g i) w := by
  have u5 := Try.underlying5
  have a5 := Try.isAgg5
  have z5 := Try.sizeOf5
  rw [show (10000 : Nat) = 9999 + 1 from rfl, Op.equalIn]
  simp only [Sem.run_bind, run_underlying Try.underlying79, Result.andThen_ok, z5]
  simp only [Std.Legacy.Range.forIn_eq_forIn_range', Std.Legacy.Range.size, Nat.sub_zero, Nat.add_sub_cancel, Nat.div_one]
  rw [loop_all w (fun i => f i == g i)]
  · simp only [Result.andThen_ok]
    rw [show List.range 8 = List.range' 0 8 from rfl]
    cases (List.range' 0 8).all fun i => f i == g i <;> simp [Sem.run_pure]
  · intro i hi s
    simp only [List.range'_succ, List.range'_zero, List.mem_cons, List.not_mem_nil, or_false] at hi
    rcases hi with rfl | rfl | rfl | rfl | rfl | rfl | rfl | rfl
    all_goals
      unfold u8V
      go_simp
      first
        | (by_cases e : f 0 = g 0 <;> simp [e]; done)
        | (by_cases e : f 1 = g 1 <;> simp [e]; done)
        | (by_cases e : f 2 = g 2 <;> simp [e]; done)
        | (by_cases e : f 3 = g 3 <;> simp [e]; done)
        | (by_cases e : f 4 = g 4 <;> simp [e]; done)
        | (by_cases e : f 5 = g 5 <;> simp [e]; done)
        | (by_cases e : f 6 = g 6 <;> simp [e]; done)
        | (by_cases e : f 7 = g 7 <;> simp [e]; done)
/-- a byte of a list as a number -/
def bN (l : List UInt8) (i : Nat) : Int := ((l[i]?.getD 0).toNat : Int)
theorem u8V_bN (l : List UInt8) (h : l.length = 8) : (bytesV l).toArray = u8V (bN l) := by
  match l, h with
  | [a, b, c, d, e, f, g, i], _ => rfl
theorem all_bN {l r : List UInt8} (hl : l.length = 8) (hr : r.length = 8) : ((List.range 8).all fun i => bN l i == bN r i) = decide (l = r) := by
  rw [Bool.eq_iff_iff, List.all_eq_true, decide_eq_true_iff]
  constructor
  · intro h
    refine bytes_all_eq (by omega) fun j hj => ?_
    have := h j (by simp; omega)
    simpa [bN] using this
  · rintro rfl i _
    simp
def retO (v : Value) (r : Except Nat (List UInt8)) : Value :=
  match r with
  | .error e => .tuple #[.slice none 0 0, .int .i64 (e : Int)]
  | .ok _ => .tuple #[v, .int .i64 0]
theorem drop_cells {w : World} {B n : Nat} {ad : Addr} {l : List UInt8} (hl : Reads w B 1 (some ad) n (bytesV l)) (d i : Nat) (h : d + i < n) : w.cell? ((ad.add d).add i) = some (.int .u8 (bN (l.drop d) i)) := by
  have el := hl.byte_len
  obtain ⟨ad', e, -, -, hc⟩ := hl.byte_at (k := d + i) h
  cases e
  rw [add_add', hc]
  unfold bN
  rw [List.getElem?_drop]
theorem arrayAt8 (W : World) (p : Addr) (c : Nat) : (Instr.arrayAt 79 (.slice (some p) 8 c)).run Try.prog W = .ok (.pointer (some p)) W := by
  simp [Instr.arrayAt, run_underlying Try.underlying79]
set_option maxRecDepth 100000 in
set_option maxHeartbeats 8000000 in
theorem wOpen_any (key : Nat) (A : Option Addr) (n c : Nat) (l : List UInt8) (w : World) (hk : key < 18446744073709551616) (hl : Reads w w.heap.size 1 A n (bytesV l)) (hn : n ≤ 100000) (hnc : n ≤ c) :
    Calls Try.prog 25 #[.int .u64 (key : Int), .slice A n c] w fun e W' => (∃ v, e = .returned (retO v (openL key l)) ∧ ∀ r, openL key l = .ok r → W'.ownsRow w.heap.size 5 1 v r.length (bytesV r)) ∧ Below w.heap.size w W' := by
  have el := hl.byte_len
  by_cases h8 : n < 8
  · have ho : openL key l = .error 2 := by unfold openL; rw [if_pos (by omega)]
    rw [ho]
    have hneg : (n : Int) - 8 < 0 := by omega
    go_enter Try.func25, Try.ntmps25
    go_wp2_with fail
    go_ret2
    exact ⟨⟨.slice none 0 0, rfl, fun r h => by cases h⟩, Below.refl _ w⟩
  · obtain ⟨d, hd⟩ : ∃ d, n = d + 8 := ⟨n - 8, by omega⟩
    subst hd
    have hA : ∃ ad, A = some ad := by obtain ⟨ad, h, -⟩ := hl.byte_at (k := 0) (by omega); exact ⟨ad, h⟩
    obtain ⟨ad, rfl⟩ := hA
    have ho : openL key l = if sealB key (l.take d) = l.drop d then .ok (l.take d) else .error 9 := by
      unfold openL
      rw [if_neg (by omega), show l.length - 8 = d by omega]
    have hlt := hl.take (k := d) (by omega)
    rw [Nat.mul_one, show (bytesV l).take d = bytesV (l.take d) by simp [bytesV, List.map_take]] at hlt
    have hs := fun W (hW : Ok w W) => seal_any key (some ad) d c (l.take d) W hk ((hlt.below hW).more hW.size) (by omega)
    have hcl := fun W (hW : Ok w W) => clone_any (some ad) d c (l.take d) W ((hlt.below hW).more hW.size) (by omega)
    have e1 := u8V_bN (sealB key (l.take d)) (lowTo_length _ _)
    rw [e1] at hs
    simp only [u8V] at hs
    have hcells := fun W (hW : Ok w W) i (hi : i < 8) => drop_cells (hl.below hW) d i (by omega)
    have hq := all_bN (l := sealB key (l.take d)) (r := l.drop d) (lowTo_length _ _) (by rw [List.length_drop]; omega)
    have heq := fun W => eq8 (bN (sealB key (l.take d))) (bN (l.drop d)) W
    rw [hq] at heq
    simp only [u8V] at heq
    have HO := Lib.hid ho
    have HSL := Lib.hid hs
    have HCL := Lib.hid hcl
    have hp : ∀ W, Ok w W → W.cell? (ad.add d) = some (.int .u8 (bN (l.drop d) 0)) ∧ W.cell? ⟨(ad.add d).block, (ad.add d).off + 1, none⟩ = some (.int .u8 (bN (l.drop d) 1)) ∧ W.cell? ⟨(ad.add d).block, (ad.add d).off + 2, none⟩ = some (.int .u8 (bN (l.drop d) 2)) ∧ W.cell? ⟨(ad.add d).block, (ad.add d).off + 3, none⟩ = some (.int .u8 (bN (l.drop d) 3)) ∧ W.cell? ⟨(ad.add d).block, (ad.add d).off + 4, none⟩ = some (.int .u8 (bN (l.drop d) 4)) ∧ W.cell? ⟨(ad.add d).block, (ad.add d).off + 5, none⟩ = some (.int .u8 (bN (l.drop d) 5)) ∧ W.cell? ⟨(ad.add d).block, (ad.add d).off + 6, none⟩ = some (.int .u8 (bN (l.drop d) 6)) ∧ W.cell? ⟨(ad.add d).block, (ad.add d).off + 7, none⟩ = some (.int .u8 (bN (l.drop d) 7)) := fun W hW => by
      have h := hcells W hW
      exact ⟨h 0 (by omega), h 1 (by omega), h 2 (by omega), h 3 (by omega), h 4 (by omega), h 5 (by omega), h 6 (by omega), h 7 (by omega)⟩
    have HP := Lib.hid hp
    have hsa := fun W => arrayAt8 W (ad.add d) (c - d)
    have hneg : ¬ (d : Int) < 0 := by omega
    have b1 : ((d : Int) + 8) - 8 = (d : Int) := by omega
    have hdc : d ≤ c := by omega
    have hd8 : (d : Int) ≤ (d : Int) + 8 := by omega
    have hdc2 : (d : Int) ≤ (c : Int) := by omega
    have hcd : c ≠ d := by omega
    have hcd2 : (c : Int) ≠ (d : Int) := by omega
    generalize bN (l.drop d) = G at *
    generalize bN (sealB key (l.take d)) = F at *
    clear hl hlt hs hcl hcells hp el hq ho e1
    have okw := Ok.refl w
    obtain ⟨p0, p1, p2, p3, p4, p5, p6, p7⟩ := HP.out w okw
    by_cases hE : sealB key (l.take d) = l.drop d
    · rw [decide_eq_true hE] at heq
      have HE := Lib.hid hE
      clear hE
      go_enter Try.func25, Try.ntmps25
      go_wp2_with fail
      go_region_held3 (fun W => W.cell? (ad.add d) = some (.int .u8 (G 0)) ∧ W.cell? ⟨(ad.add d).block, (ad.add d).off + 1, none⟩ = some (.int .u8 (G 1)) ∧ W.cell? ⟨(ad.add d).block, (ad.add d).off + 2, none⟩ = some (.int .u8 (G 2)) ∧ W.cell? ⟨(ad.add d).block, (ad.add d).off + 3, none⟩ = some (.int .u8 (G 3)) ∧ W.cell? ⟨(ad.add d).block, (ad.add d).off + 4, none⟩ = some (.int .u8 (G 4)) ∧ W.cell? ⟨(ad.add d).block, (ad.add d).off + 5, none⟩ = some (.int .u8 (G 5)) ∧ W.cell? ⟨(ad.add d).block, (ad.add d).off + 6, none⟩ = some (.int .u8 (G 6)) ∧ W.cell? ⟨(ad.add d).block, (ad.add d).off + 7, none⟩ = some (.int .u8 (G 7)))
        (first | exact HP.out _ (by (repeat (first | with_reducible assumption | with_reducible apply Ok.drew | with_reducible apply Ok.alloc | with_reducible apply Ok.drewN))))
        (first
          | (go_at_call 41; (refine (HSL.out _ ?_).mono ?_); (focus ((repeat (first | with_reducible assumption | with_reducible apply Ok.drew | with_reducible apply Ok.alloc | with_reducible apply Ok.drewN)); done)); (rintro E w1 ⟨rfl, hb1⟩); (have ok1 : Ok w w1 := Ok.step (by (repeat (first | with_reducible assumption | with_reducible apply Ok.drew | with_reducible apply Ok.alloc | with_reducible apply Ok.drewN))) hb1)))
      all_goals
        go_wp2_with fail
        refine (HCL.out _ ok1).mono ?_
        rintro E w2 ⟨v, rfl, ho, hb2⟩
        go_wp2_with fail
        go_ret2
        refine ⟨⟨v, by rw [HO.out, if_pos HE.out]; rfl, fun r hr => ?_⟩, Ok.step ok1 hb2⟩
        rw [HO.out, if_pos HE.out] at hr
        injection hr with hr
        subst hr
        exact own_le ho (Below.size ok1)
    · rw [decide_eq_false hE] at heq
      have HE := Lib.hid hE
      clear hE
      go_enter Try.func25, Try.ntmps25
      go_wp2_with fail
      go_region_held3 (fun W => W.cell? (ad.add d) = some (.int .u8 (G 0)) ∧ W.cell? ⟨(ad.add d).block, (ad.add d).off + 1, none⟩ = some (.int .u8 (G 1)) ∧ W.cell? ⟨(ad.add d).block, (ad.add d).off + 2, none⟩ = some (.int .u8 (G 2)) ∧ W.cell? ⟨(ad.add d).block, (ad.add d).off + 3, none⟩ = some (.int .u8 (G 3)) ∧ W.cell? ⟨(ad.add d).block, (ad.add d).off + 4, none⟩ = some (.int .u8 (G 4)) ∧ W.cell? ⟨(ad.add d).block, (ad.add d).off + 5, none⟩ = some (.int .u8 (G 5)) ∧ W.cell? ⟨(ad.add d).block, (ad.add d).off + 6, none⟩ = some (.int .u8 (G 6)) ∧ W.cell? ⟨(ad.add d).block, (ad.add d).off + 7, none⟩ = some (.int .u8 (G 7)))
        (first | exact HP.out _ (by (repeat (first | with_reducible assumption | with_reducible apply Ok.drew | with_reducible apply Ok.alloc | with_reducible apply Ok.drewN))))
        (first
          | (go_at_call 41; (refine (HSL.out _ ?_).mono ?_); (focus ((repeat (first | with_reducible assumption | with_reducible apply Ok.drew | with_reducible apply Ok.alloc | with_reducible apply Ok.drewN)); done)); (rintro E w1 ⟨rfl, hb1⟩); (have ok1 : Ok w w1 := Ok.step (by (repeat (first | with_reducible assumption | with_reducible apply Ok.drew | with_reducible apply Ok.alloc | with_reducible apply Ok.drewN))) hb1)))
      all_goals
        go_wp2_with fail
        go_ret2
        refine ⟨⟨.slice none 0 0, by rw [HO.out, if_neg HE.out]; rfl, fun r hr => ?_⟩, ok1⟩
        rw [HO.out, if_neg HE.out] at hr
        cases hr
/-- what the reference's Open gives -/
def retR (A : Option Addr) (c : Nat) (r : Except Nat (List UInt8)) : Value :=
  match r with
  | .error e => .tuple #[.slice none 0 0, .int .i64 (e : Int)]
  | .ok r => .tuple #[.slice A r.length c, .int .i64 0]
theorem open_same (key : Nat) (l : List UInt8) (d : Nat) (h : l.length = d + 8) : decide (sealL key (l.take d) = l) = decide (sealB key (l.take d) = l.drop d) := by
  rw [decide_eq_decide]
  unfold sealL
  constructor
  · intro e
    have := congrArg (List.drop d) e
    rwa [List.drop_left' (by rw [List.length_take]; omega)] at this
  · intro e
    rw [e, List.take_append_drop]
set_option maxRecDepth 100000 in
set_option maxHeartbeats 8000000 in
theorem rOpen_any (key : Nat) (A : Option Addr) (n c : Nat) (l : List UInt8) (w : World) (hk : key < 18446744073709551616) (hl : Reads w w.heap.size 1 A n (bytesV l)) (hn : n ≤ 100000) (hnc : n ≤ c) :
    Calls Try.prog 30 #[.int .u64 (key : Int), .slice A n c] w fun e W' => e = .returned (retR A c (openL key l)) ∧ Below w.heap.size w W' := by
  have el := hl.byte_len
  by_cases h8 : n < 8
  · have ho : openL key l = .error 2 := by unfold openL; rw [if_pos (by omega)]
    rw [ho]
    have hneg : (n : Int) - 8 < 0 := by omega
    go_enter Try.func30, Try.ntmps30
    go_wp2_with fail
    go_ret2
    exact ⟨rfl, Below.refl _ w⟩
  · obtain ⟨d, hd⟩ : ∃ d, n = d + 8 := ⟨n - 8, by omega⟩
    subst hd
    have hA : ∃ ad, A = some ad := by obtain ⟨ad, h, -⟩ := hl.byte_at (k := 0) (by omega); exact ⟨ad, h⟩
    obtain ⟨ad, rfl⟩ := hA
    have ho : openL key l = if sealB key (l.take d) = l.drop d then .ok (l.take d) else .error 9 := by
      unfold openL
      rw [if_neg (by omega), show l.length - 8 = d by omega]
    have hlt := hl.take (k := d) (by omega)
    rw [Nat.mul_one, show (bytesV l).take d = bytesV (l.take d) by simp [bytesV, List.map_take]] at hlt
    have hdl : (l.take d).length = d := by rw [List.length_take]; omega
    have hs := rSeal_any key (some ad) d c (l.take d) w hk hlt (by omega)
    have hcmp := open_same key l d (by omega)
    have hsl : (sealL key (l.take d)).length = d + 8 := by rw [sealL_length, hdl]
    rw [hsl] at hs
    have hsm := fun (W : World) (hW : Ok w W) (B : Option Addr) (e : Nat) (hr : Reads W W.heap.size 1 B (d + 8) (bytesV (sealL key (l.take d)))) => same_any B (some ad) (d + 8) (d + 8) e c _ _ W.heap.size W hr ((hl.below hW).more hW.size) (by omega) (by omega)
    have HO := Lib.hid ho
    have HSL := Lib.hid hs
    have HDL := Lib.hid hdl
    have hneg : ¬ (d : Int) < 0 := by omega
    have b1 : ((d : Int) + 8) - 8 = (d : Int) := by omega
    have hdc : d ≤ c := by omega
    have hd8 : (d : Int) ≤ (d : Int) + 8 := by omega
    have hdc2 : (d : Int) ≤ (c : Int) := by omega
    clear hs hl hlt ho el hdl hsl
    cases hE : decide (sealB key (l.take d) = l.drop d)
    · rw [hE] at hcmp
      rw [hcmp] at hsm
      have HSM := Lib.hid hsm
      have HE := Lib.hid (of_decide_eq_false hE)
      clear hE hcmp hsm
      go_enter Try.func30, Try.ntmps30
      go_wp2_with fail
      refine HSL.out.mono ?_
      rintro E w1 ⟨v, rfl, ho, hb⟩
      obtain ⟨B, e, rfl, hr⟩ := own_reads1 ho
      have h2 := HSM.out w1 hb B e hr
      have H2 := Lib.hid h2
      clear h2 ho hr
      go_wp2_with fail
      refine H2.out.mono ?_
      rintro E w2 ⟨rfl, q, rfl⟩
      go_wp2_with fail
      go_ret2
      exact ⟨by rw [HO.out, if_neg HE.out]; rfl, below_drewN' hb q⟩
    · rw [hE] at hcmp
      rw [hcmp] at hsm
      have HSM := Lib.hid hsm
      have HE := Lib.hid (of_decide_eq_true hE)
      clear hE hcmp hsm
      go_enter Try.func30, Try.ntmps30
      go_wp2_with fail
      refine HSL.out.mono ?_
      rintro E w1 ⟨v, rfl, ho, hb⟩
      obtain ⟨B, e, rfl, hr⟩ := own_reads1 ho
      have h2 := HSM.out w1 hb B e hr
      have H2 := Lib.hid h2
      clear h2 ho hr
      go_wp2_with fail
      refine H2.out.mono ?_
      rintro E w2 ⟨rfl, q, rfl⟩
      go_wp2_with fail
      go_ret2
      exact ⟨by rw [HO.out, if_pos HE.out]; show _ = Ending.returned (.tuple #[.slice (some ad) (l.take d).length c, .int .i64 0]); rw [HDL.out]; rfl, below_drewN' hb q⟩
end Go.Proofs.Ytbekkndkdfmijaa
