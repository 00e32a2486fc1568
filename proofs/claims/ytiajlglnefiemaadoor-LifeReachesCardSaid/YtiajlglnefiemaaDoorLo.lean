/- Life cycles: the examples. Conditions: the round constants lie in their variable. -/
import Derived.Test.YtiajlglnefiemaaDoorLn
import Derived.Test.YtiajlglnefiemaaDoorLl
set_option linter.unusedSimpArgs false
set_option linter.unusedVariables false
namespace Go.Proofs.YtiajlglnefiemaaDoor
open Go.RowKit

theorem Blk.boolV_reads {w : World} {g : Nat} {t : TypeId} {n b : Nat} {f : Nat → Bool} (h : Blk w g t (boolV f n)) (hb : g < b) : Reads w b 1 (some ⟨g, 0, none⟩) n (bools (rngB f n)) := by
  refine ⟨by simp [bools, rngB], fun _ => ⟨_, rfl, hb, fun j u hu => ?_⟩⟩
  have e : (⟨g, 0, none⟩ : Addr).add j = ⟨g, j, none⟩ := by cases j <;> simp [Addr.add]
  rw [e]
  exact h.at_ (by unfold boolV; rw [List.getElem?_toArray]; exact hu)
/-- the moves of the example -/
def M4 : List (Int × Int) := [(0, 1), (1, 2), (2, 1), (1, 3)]
theorem M4_ok : lifeE 4 M4 = 0 := by kernel_rfl
theorem M4_mv : mv M4 0 = [1] := by kernel_rfl
theorem reads_two (w : World) (M : List (Int × Int)) : Reads (w.alloc (.cells (movsV M).toArray 54)) (w.heap.size + 1) 2 (some ⟨w.heap.size, 0, none⟩) M.length (movsV M) := by
  refine ⟨movsV_length M, fun _ => ⟨_, rfl, by simp, fun j u hu => ?_⟩⟩
  have h := (Blk.new w 54 (movsV M).toArray).at_ (i := j) (v := u) (by simpa using hu)
  have e : (⟨w.heap.size, 0, none⟩ : Addr).add j = ⟨w.heap.size, j, none⟩ := by cases j <;> simp [Addr.add]
  rw [e]
  exact h
set_option maxRecDepth 100000 in
set_option maxHeartbeats 8000000 in
theorem lifeLives_any (w : World) (hK : Consts w) (h0 : 0 < w.heap.size) : Calls Tryd.prog 42 #[] w fun e W' => e = .returned (.bool true) ∧ Below w.heap.size w W' := by
  go_enter Tryd.func42, Tryd.ntmps42
  go_wp2_with fail
  have sz2 : ((w.alloc (.cells #[.string ⟨#[97]⟩, .string ⟨#[98]⟩, .string ⟨#[99]⟩, .string ⟨#[100]⟩] 9)).alloc (.cells (movsV M4).toArray 54)).heap.size = w.heap.size + 1 + 1 := by simp
  have m1 := reads_two (w.alloc (.cells #[.string ⟨#[97]⟩, .string ⟨#[98]⟩, .string ⟨#[99]⟩, .string ⟨#[100]⟩] 9)) M4
  rw [World.size_alloc] at m1
  have b1 : Below w.heap.size w (w.alloc (.cells #[.string ⟨#[97]⟩, .string ⟨#[98]⟩, .string ⟨#[99]⟩, .string ⟨#[100]⟩] 9)) := (Below.refl _ w).alloc (Nat.le_refl _) _
  have b2 := b1.alloc b1.size (.cells (movsV M4).toArray 54)
  change Below w.heap.size w ((w.alloc (.cells #[.string ⟨#[97]⟩, .string ⟨#[98]⟩, .string ⟨#[99]⟩, .string ⟨#[100]⟩] 9)).alloc (.cells #[.int .i64 0, .int .i64 1, .int .i64 1, .int .i64 2, .int .i64 2, .int .i64 1, .int .i64 1, .int .i64 3] 54)) at b2
  change Reads ((w.alloc (.cells #[.string ⟨#[97]⟩, .string ⟨#[98]⟩, .string ⟨#[99]⟩, .string ⟨#[100]⟩] 9)).alloc (.cells #[.int .i64 0, .int .i64 1, .int .i64 1, .int .i64 2, .int .i64 2, .int .i64 1, .int .i64 1, .int .i64 3] 54)) (w.heap.size + 1 + 1) 2 (some ⟨w.heap.size + 1, 0, none⟩) 4 (movsV M4) at m1
  change ((w.alloc (.cells #[.string ⟨#[97]⟩, .string ⟨#[98]⟩, .string ⟨#[99]⟩, .string ⟨#[100]⟩] 9)).alloc (.cells #[.int .i64 0, .int .i64 1, .int .i64 1, .int .i64 2, .int .i64 2, .int .i64 1, .int .i64 1, .int .i64 3] 54)).heap.size = w.heap.size + 1 + 1 at sz2
  generalize (w.alloc (.cells #[.string ⟨#[97]⟩, .string ⟨#[98]⟩, .string ⟨#[99]⟩, .string ⟨#[100]⟩] 9)).alloc (.cells #[.int .i64 0, .int .i64 1, .int .i64 1, .int .i64 2, .int .i64 2, .int .i64 1, .int .i64 1, .int .i64 3] 54) = w2 at *
  rw [← sz2] at m1 ⊢
  have gA : ∃ gA, gA = w.heap.size := ⟨_, rfl⟩
  have L3 := Blk.new w2 50 #[.string ⟨#[]⟩, .slice (some ⟨w.heap.size, 0, none⟩) 4 4, .slice (some ⟨w.heap.size + 1, 0, none⟩) 4 4]
  have m3 := m1.alloc (Nat.le_refl _) (.cells #[.string ⟨#[]⟩, .slice (some ⟨w.heap.size, 0, none⟩) 4 4, .slice (some ⟨w.heap.size + 1, 0, none⟩) 4 4] 50)
  have b3 := b2.alloc b2.size (.cells #[.string ⟨#[]⟩, .slice (some ⟨w.heap.size, 0, none⟩) 4 4, .slice (some ⟨w.heap.size + 1, 0, none⟩) 4 4] 50)
  have z3 : w2.heap.size < (w2.alloc (.cells #[.string ⟨#[]⟩, .slice (some ⟨w.heap.size, 0, none⟩) 4 4, .slice (some ⟨w.heap.size + 1, 0, none⟩) 4 4] 50)).heap.size := by simp
  generalize w2.alloc (.cells #[.string ⟨#[]⟩, .slice (some ⟨w.heap.size, 0, none⟩) 4 4, .slice (some ⟨w.heap.size + 1, 0, none⟩) 4 4] 50) = w3 at *
  generalize w2.heap.size = gL at *
  have m3' := m3.more (Nat.le_of_lt z3)
  have K3 := hK.below (b3.mono h0)
  have h3 : 0 < w3.heap.size := Nat.lt_of_lt_of_le h0 b3.size
  refine (walk_one _ _ 4 4 _ 4 4 M4 1 w3 m3' M4_ok M4_mv (by omega) (by omega) K3 h3).mono ?_
  rintro E w4 ⟨v4, rfl, o4, b4⟩
  have cells := fun (W : World) (hW : Below w3.heap.size w3 W) => (show W.cell? ⟨gL, 0, none⟩ = some (.string ⟨#[]⟩) ∧ W.cell? ⟨gL, 1, none⟩ = some (.slice (some ⟨w.heap.size, 0, none⟩) 4 4) ∧ W.cell? ⟨gL, 2, none⟩ = some (.slice (some ⟨w.heap.size + 1, 0, none⟩) 4 4) from
    let L := L3.below hW z3
    ⟨L.at_ rfl, L.at_ rfl, L.at_ rfl⟩)
  have movs := fun (W : World) (hW : Below w3.heap.size w3 W) => (m3'.below hW).more hW.size
  have CS := Lib.hid cells
  have B3 := Lib.hid b3
  have rx := fun (lo hi : Nat) (W : World) (hW : Below w3.heap.size w3 W) (h1 : lo ≤ hi) (h2 : hi ≤ 1000) => reach_any ⟨#[]⟩ (some ⟨w.heap.size, 0, none⟩) 4 4 (some ⟨w.heap.size + 1, 0, none⟩) 4 4 M4 lo hi W (movs W hW) M4_ok h1 h2
  have RX := Lib.hid rx
  clear rx
  have MS := Lib.hid movs
  have isx := fun (l : List Int) (W : World) (hW : Below w3.heap.size w3 W) =>
    let W1 := W.alloc (.cells (ints l).toArray 3)
    let hb : Below w3.heap.size w3 W1 := hW.alloc hW.size _
    is_any ⟨#[]⟩ (some ⟨w.heap.size, 0, none⟩) 4 4 (some ⟨w.heap.size + 1, 0, none⟩) 4 4 M4 (some ⟨W.heap.size, 0, none⟩) (ints l).length (ints l).length l W1 (movs W1 hb) (reads_fresh' W (ints l) 3) (by omega) (by omega) (Nat.le_refl _)
  have ISX := Lib.hid isx
  clear cells movs isx m3 m3' L3 z3 m1 b1 b2 sz2
  obtain ⟨p0, p1, p2⟩ := CS.out w4 b4
  obtain ⟨A4, d4, rfl, r4⟩ := own_reads1 o4
  have D4 := Below.refl w4.heap.size w4
  have e5 : isB 4 M4 [0, 1, 2, 1, 3] = true := by kernel_rfl
  have hi5 := ISX.out [0, 1, 2, 1, 3] w4 b4 (by decide)
  rw [e5] at hi5
  have HI5 := Lib.hid hi5
  clear hi5 e5
  go_wp2_with fail
  refine HI5.out.mono ?_
  rintro E w5 ⟨rfl, bb5⟩
  have b5 := below_next (b4.alloc b4.size _) bb5
  have D5 := below_next (D4.alloc D4.size _) bb5
  clear D4
  clear HI5 bb5 p0 p1 p2
  obtain ⟨p0, p1, p2⟩ := CS.out w5 b5
  have e6 : isB 4 M4 [0, 2] = false := by kernel_rfl
  have hi6 := ISX.out [0, 2] w5 b5 (by decide)
  rw [e6] at hi6
  have HI6 := Lib.hid hi6
  clear hi6 e6
  go_wp2_with fail
  refine HI6.out.mono ?_
  rintro E w6 ⟨rfl, bb6⟩
  have b6 := below_next (b5.alloc b5.size _) bb6
  have D6 := below_next (D5.alloc D5.size _) bb6
  clear D5
  clear HI6 bb6 p0 p1 p2
  obtain ⟨p0, p1, p2⟩ := CS.out w6 b6
  have e7 : isB 4 M4 [1] = false := by kernel_rfl
  have hi7 := ISX.out [1] w6 b6 (by decide)
  rw [e7] at hi7
  have HI7 := Lib.hid hi7
  clear hi7 e7
  go_wp2_with fail
  refine HI7.out.mono ?_
  rintro E w7 ⟨rfl, bb7⟩
  have b7 := below_next (b6.alloc b6.size _) bb7
  have D7 := below_next (D6.alloc D6.size _) bb7
  clear D6
  clear HI7 bb7 p0 p1 p2
  obtain ⟨p0, p1, p2⟩ := CS.out w7 b7
  go_wp2_with fail
  refine (RX.out 0 0 w7 b7 (by omega) (by omega)).mono ?_
  rintro E w8 ⟨g8, rfl, o8, -, bb8⟩
  have b8 := below_next b7 bb8
  have D8 := below_next D7 bb8
  clear D7
  have r8 := o8.boolV_reads o8.lt
  have e8 : decide (rngB (outB M4 0 (0 + 1)) 4 = [true, false, false, false]) = true := by kernel_rfl
  have hs8 := sameBools_any (some ⟨g8, 0, none⟩) (some ⟨w8.heap.size, 0, none⟩) 4 4 4 4 (rngB (outB M4 0 (0 + 1)) 4) [true, false, false, false] _ (w8.alloc (.cells (bools [true, false, false, false]).toArray 4)) ((r8.alloc (Nat.le_refl _) _).more (by simp)) (reads_fresh' w8 (bools [true, false, false, false]) 4) (by omega) (by omega)
  rw [e8] at hs8
  have HS8 := Lib.hid hs8
  clear hs8 e8 r8 o8 bb8 p0 p1 p2
  go_wp2_with fail
  refine HS8.out.mono ?_
  rintro E w9 ⟨rfl, q8, rfl⟩
  have b9 := below_drewN (b8.alloc b8.size (.cells (bools [true, false, false, false]).toArray 4)) q8
  have D9 := below_drewN (D8.alloc D8.size (.cells (bools [true, false, false, false]).toArray 4)) q8
  clear HS8 D8
  obtain ⟨p0, p1, p2⟩ := CS.out _ b9
  generalize (w8.alloc (.cells (bools [true, false, false, false]).toArray 4)).drewN q8 = w9 at *
  go_wp2_with fail
  refine (RX.out 2 2 w9 b9 (by omega) (by omega)).mono ?_
  rintro E w10 ⟨g10, rfl, o10, -, bb10⟩
  have b10 := below_next b9 bb10
  have D10 := below_next D9 bb10
  clear D9
  have r10 := o10.boolV_reads o10.lt
  have e10 : decide (rngB (outB M4 2 (2 + 1)) 4 = [false, false, true, true]) = true := by kernel_rfl
  have hs10 := sameBools_any (some ⟨g10, 0, none⟩) (some ⟨w10.heap.size, 0, none⟩) 4 4 4 4 (rngB (outB M4 2 (2 + 1)) 4) [false, false, true, true] _ (w10.alloc (.cells (bools [false, false, true, true]).toArray 4)) ((r10.alloc (Nat.le_refl _) _).more (by simp)) (reads_fresh' w10 (bools [false, false, true, true]) 4) (by omega) (by omega)
  rw [e10] at hs10
  have HS10 := Lib.hid hs10
  clear hs10 e10 r10 o10 bb10 p0 p1 p2
  go_wp2_with fail
  refine HS10.out.mono ?_
  rintro E w11 ⟨rfl, q10, rfl⟩
  have b11 := below_drewN (b10.alloc b10.size (.cells (bools [false, false, true, true]).toArray 4)) q10
  have D11 := below_drewN (D10.alloc D10.size (.cells (bools [false, false, true, true]).toArray 4)) q10
  clear HS10 D10
  obtain ⟨p0, p1, p2⟩ := CS.out _ b11
  generalize (w10.alloc (.cells (bools [false, false, true, true]).toArray 4)).drewN q10 = w11 at *
  go_wp2_with fail
  refine (RX.out 3 3 w11 b11 (by omega) (by omega)).mono ?_
  rintro E w12 ⟨g12, rfl, o12, -, bb12⟩
  have b12 := below_next b11 bb12
  have D12 := below_next D11 bb12
  clear D11
  have r12 := o12.boolV_reads o12.lt
  have e12 : decide (rngB (outB M4 3 (3 + 1)) 4 = [false, true, false, true]) = true := by kernel_rfl
  have hs12 := sameBools_any (some ⟨g12, 0, none⟩) (some ⟨w12.heap.size, 0, none⟩) 4 4 4 4 (rngB (outB M4 3 (3 + 1)) 4) [false, true, false, true] _ (w12.alloc (.cells (bools [false, true, false, true]).toArray 4)) ((r12.alloc (Nat.le_refl _) _).more (by simp)) (reads_fresh' w12 (bools [false, true, false, true]) 4) (by omega) (by omega)
  rw [e12] at hs12
  have HS12 := Lib.hid hs12
  clear hs12 e12 r12 o12 bb12 p0 p1 p2
  go_wp2_with fail
  refine HS12.out.mono ?_
  rintro E w13 ⟨rfl, q12, rfl⟩
  have b13 := below_drewN (b12.alloc b12.size (.cells (bools [false, true, false, true]).toArray 4)) q12
  have D13 := below_drewN (D12.alloc D12.size (.cells (bools [false, true, false, true]).toArray 4)) q12
  clear HS12 D12
  obtain ⟨p0, p1, p2⟩ := CS.out _ b13
  generalize (w12.alloc (.cells (bools [false, true, false, true]).toArray 4)).drewN q12 = w13 at *
  go_wp2_with fail
  refine (RX.out 1 2 w13 b13 (by omega) (by omega)).mono ?_
  rintro E w14 ⟨g14, rfl, o14, -, bb14⟩
  have b14 := below_next b13 bb14
  have D14 := below_next D13 bb14
  clear D13
  have r14 := o14.boolV_reads o14.lt
  have e14 : decide (rngB (outB M4 1 (2 + 1)) 4 = [false, true, true, true]) = true := by kernel_rfl
  have hs14 := sameBools_any (some ⟨g14, 0, none⟩) (some ⟨w14.heap.size, 0, none⟩) 4 4 4 4 (rngB (outB M4 1 (2 + 1)) 4) [false, true, true, true] _ (w14.alloc (.cells (bools [false, true, true, true]).toArray 4)) ((r14.alloc (Nat.le_refl _) _).more (by simp)) (reads_fresh' w14 (bools [false, true, true, true]) 4) (by omega) (by omega)
  rw [e14] at hs14
  have HS14 := Lib.hid hs14
  clear hs14 e14 r14 o14 bb14 p0 p1 p2
  go_wp2_with fail
  refine HS14.out.mono ?_
  rintro E w15 ⟨rfl, q14, rfl⟩
  have b15 := below_drewN (b14.alloc b14.size (.cells (bools [false, true, true, true]).toArray 4)) q14
  have D15 := below_drewN (D14.alloc D14.size (.cells (bools [false, true, true, true]).toArray 4)) q14
  clear HS14 D14
  obtain ⟨p0, p1, p2⟩ := CS.out _ b15
  generalize (w14.alloc (.cells (bools [false, true, true, true]).toArray 4)).drewN q14 = w15 at *
  go_wp2_with fail
  refine (least_any ⟨#[]⟩ (some ⟨w.heap.size, 0, none⟩) 4 4 (some ⟨w.heap.size + 1, 0, none⟩) 4 4 M4 w15 (MS.out _ b15) M4_ok).mono ?_
  rintro E w16 ⟨g16, rfl, o16, -, bb16⟩
  have b16 := below_next b15 bb16
  have D16 := below_next D15 bb16
  have r16 := o16.rowI_reads o16.lt
  have e16 : decide (((List.range 4).map (lst M4 5)) = [0, 1, 2, 2]) = true := by kernel_rfl
  have hs16 := sameInts_any (some ⟨g16, 0, none⟩) (some ⟨w16.heap.size, 0, none⟩) 4 4 4 4 ((List.range 4).map (lst M4 5)) [0, 1, 2, 2] _ (w16.alloc (.cells (ints [0, 1, 2, 2]).toArray 3)) ((r16.alloc (Nat.le_refl _) _).more (by simp)) (reads_fresh' w16 (ints [0, 1, 2, 2]) 3) (by omega) (by omega)
  rw [e16] at hs16
  have HS16 := Lib.hid hs16
  clear hs16 e16 r16 o16 bb16 p0 p1 p2
  go_wp2_with fail
  refine HS16.out.mono ?_
  rintro E w17 ⟨rfl, q16, rfl⟩
  have b17 := below_drewN (b16.alloc b16.size (.cells (ints [0, 1, 2, 2]).toArray 3)) q16
  have D17 := below_drewN (D16.alloc D16.size (.cells (ints [0, 1, 2, 2]).toArray 3)) q16
  clear HS16 D16
  generalize (w16.alloc (.cells (ints [0, 1, 2, 2]).toArray 3)).drewN q16 = w17 at *
  have r17 := (r4.below D17).more D17.size
  have hs17 := sameInts_any A4 (some ⟨w17.heap.size, 0, none⟩) 2 2 d4 2 [0, 1] [0, 1] _ (w17.alloc (.cells (ints [0, 1]).toArray 3)) ((r17.alloc (Nat.le_refl _) _).more (by simp)) (reads_fresh' w17 (ints [0, 1]) 3) (by omega) (by omega)
  rw [decide_eq_true rfl] at hs17
  have HS17 := Lib.hid hs17
  clear hs17 r17 D17
  go_wp2_with fail
  refine HS17.out.mono ?_
  rintro E w18 ⟨rfl, q17, rfl⟩
  have b18 := below_drewN (b17.alloc b17.size (.cells (ints [0, 1]).toArray 3)) q17
  go_wp2_with fail
  go_ret
  exact ⟨rfl, below_next B3.out b18⟩
end Go.Proofs.YtiajlglnefiemaaDoor
