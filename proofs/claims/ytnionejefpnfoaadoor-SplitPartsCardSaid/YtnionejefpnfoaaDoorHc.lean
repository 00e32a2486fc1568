/- The compression function: the specification and the walk of compress. Condition: the round constants lie in their variable. -/
import Derived.Test.YtnionejefpnfoaaDoorHb
import Derived.Deep.DeepCutAuto
namespace Go.Proofs.YtnionejefpnfoaaDoor
open Go.RowKit

/-- the round constants -/
def KS : List UInt32 := [1116352408, 1899447441, 3049323471, 3921009573, 961987163, 1508970993, 2453635748, 2870763221, 3624381080, 310598401, 607225278, 1426881987, 1925078388, 2162078206, 2614888103, 3248222580, 3835390401, 4022224774, 264347078, 604807628, 770255983, 1249150122, 1555081692, 1996064986, 2554220882, 2821834349, 2952996808, 3210313671, 3336571891, 3584528711, 113926993, 338241895, 666307205, 773529912, 1294757372, 1396182291, 1695183700, 1986661051, 2177026350, 2456956037, 2730485921, 2820302411, 3259730800, 3345764771, 3516065817, 3600352804, 4094571909, 275423344, 430227734, 506948616, 659060556, 883997877, 958139571, 1322822218, 1537002063, 1747873779, 1955562222, 2024104815, 2227730452, 2361852424, 2428436474, 2756734187, 3204031479, 3329325298]
/-- the hash value -/
structure St where
  a : UInt32
  b : UInt32
  c : UInt32
  d : UInt32
  e : UInt32
  f : UInt32
  g : UInt32
  h : UInt32
def St.cells (s : St) : Array Value := #[w32 s.a, w32 s.b, w32 s.c, w32 s.d, w32 s.e, w32 s.f, w32 s.g, w32 s.h]
def chW (e f g : UInt32) : UInt32 := xw (nw e f) (nw (cw e) g)
def majW (a b c : UInt32) : UInt32 := xw (xw (nw a b) (nw a c)) (nw b c)
def rndX (s : St) (k w : UInt32) : UInt32 := aw (aw (aw (aw s.h (mixU s.e 6 11 25)) (chW s.e s.f s.g)) k) w
def rndY (s : St) : UInt32 := aw (mixU s.a 2 13 22) (majW s.a s.b s.c)
def St.rnd (s : St) (k w : UInt32) : St := ⟨aw (rndX s k w) (rndY s), s.a, s.b, s.c, aw s.d (rndX s k w), s.e, s.f, s.g⟩
def St.rnds (s : St) (W : List UInt32) : Nat → St
  | 0 => s
  | t + 1 => (s.rnds W t).rnd (nth KS t) (nth W t)
def St.plus (s r : St) : St := ⟨aw s.a r.a, aw s.b r.b, aw s.c r.c, aw s.d r.d, aw s.e r.e, aw s.f r.f, aw s.g r.g, aw s.h r.h⟩
/-- THE COMPRESSION OF A BLOCK -/
def comp (s : St) (b : List UInt8) : St := s.plus (s.rnds (schedN b 64) 64)

/-- the round constants lie in block 0 -/
def Consts (w : World) : Prop := ∀ j x, KS[j]? = some x → w.cell? ⟨0, j, none⟩ = some (w32 x)

theorem wp_world {P : Program} {c : Code} {Q : Exit → Act → World → Prop} {a : Act} {w : World} (h : ∀ wb, wb = w → c.wp P Q a wb) : c.wp P Q a w := h w rfl

theorem array4_at (w : World) (ad : Addr) (c : Nat) : (Instr.arrayAt 97 (.slice (some ad) 4 c)).run Tryd.prog w = .ok (.pointer (some ad)) w := by
  simp [Instr.arrayAt, Sem.run_bind, run_underlying Tryd.underlying97]

theorem index_at (w : World) (cs : Array Value) (t : Nat) (v : Value) (ht : t < 64) (hv : cs[t]? = some v) : (Instr.index 95 (.agg cs) (.int .i64 (t : Int))).run Tryd.prog w = .ok v w := by
  simp [Instr.index, Sem.run_bind, run_underlying Tryd.underlying95, asIntOf, ht, Tryd.sizeOf79, Go.part, Tryd.isAgg79, hv]

theorem info4 : (Tryd.prog.info? 97).map (·.size) = some 4 := by kernel_rfl
theorem cells_one (s : St) : s.cells.all (·.oneCell') = true :=
  Array.all_eq_true_iff_forall_mem.2 fun v hv => by
    simp only [St.cells, List.mem_toArray, List.mem_cons, List.not_mem_nil, or_false] at hv
    rcases hv with rfl | rfl | rfl | rfl | rfl | rfl | rfl | rfl <;> rfl
theorem info8 : (Tryd.prog.info? 80).map (·.size) = some 8 := by kernel_rfl
/-- the first k words of each half are added -/
def mid (s q : St) (k : Nat) : St :=
  ⟨if 0 < k then aw s.a q.a else s.a, if 1 < k then aw s.b q.b else s.b, if 2 < k then aw s.c q.c else s.c, if 3 < k then aw s.d q.d else s.d,
    if 0 < k then aw s.e q.e else s.e, if 1 < k then aw s.f q.f else s.f, if 2 < k then aw s.g q.g else s.g, if 3 < k then aw s.h q.h else s.h⟩
theorem mid_all (s q : St) : mid s q 4 = s.plus q := rfl
/-- what lies there while the rounds run: the value so far is q -/
structure Cmp (w : World) (G5 g6 g7 : Nat) (C V2 : Array Value) (q : St) (wr : World) : Prop where
  b : Below w.heap.size w wr
  s : Blk wr w.heap.size 80 V2
  r : ∃ V4, Blk wr (w.heap.size + 1) 80 V4 ∧ V4.size = 8
  c : Blk wr G5 95 C
  v : Blk wr g6 97 #[.int .u32 (q.a.toNat : Int), .int .u32 (q.b.toNat : Int), .int .u32 (q.c.toNat : Int), .int .u32 (q.d.toNat : Int)]
  e : Blk wr g7 97 #[.int .u32 (q.e.toNat : Int), .int .u32 (q.f.toNat : Int), .int .u32 (q.g.toNat : Int), .int .u32 (q.h.toNat : Int)]
theorem Cmp.step {w wr : World} {G5 g6 g7 : Nat} {C V2 : Array Value} {q : St} (h : Cmp w G5 g6 g7 C V2 q wr) (hne : g6 ≠ g7) (l6 : w.heap.size ≤ g6) (l7 : w.heap.size ≤ g7) (n62 : w.heap.size ≠ g6) (n72 : w.heap.size ≠ g7)
    (n64 : w.heap.size + 1 ≠ g6) (n74 : w.heap.size + 1 ≠ g7) (n65 : G5 ≠ g6) (n75 : G5 ≠ g7) (q' : St) (n : Nat) :
    Cmp w G5 g6 g7 C V2 q' (((((((((wr.drewN n).setCell ⟨g7, 0, none⟩ (.int .u32 (q'.e.toNat : Int))).setCell ⟨g7, 1, none⟩ (.int .u32 (q'.f.toNat : Int))).setCell ⟨g7, 2, none⟩ (.int .u32 (q'.g.toNat : Int))).setCell ⟨g7, 3, none⟩ (.int .u32 (q'.h.toNat : Int))).setCell ⟨g6, 0, none⟩ (.int .u32 (q'.a.toNat : Int))).setCell ⟨g6, 1, none⟩ (.int .u32 (q'.b.toNat : Int))).setCell ⟨g6, 2, none⟩ (.int .u32 (q'.c.toNat : Int))).setCell ⟨g6, 3, none⟩ (.int .u32 (q'.d.toNat : Int))) := by
  obtain ⟨hb, hs, ⟨V4, hr, hz⟩, hc, hv, he⟩ := h
  refine ⟨?_, ?_, ⟨V4, ?_, hz⟩, ?_, ?_, ?_⟩
  · exact ((((((((below_drewN' hb n).setCell l7 _).setCell l7 _).setCell l7 _).setCell l7 _).setCell l6 _).setCell l6 _).setCell l6 _).setCell l6 _
  · exact ((((((((hs.drewN n).far n72 _).far n72 _).far n72 _).far n72 _).far n62 _).far n62 _).far n62 _).far n62 _
  · exact ((((((((hr.drewN n).far n74 _).far n74 _).far n74 _).far n74 _).far n64 _).far n64 _).far n64 _).far n64 _
  · exact ((((((((hc.drewN n).far n75 _).far n75 _).far n75 _).far n75 _).far n65 _).far n65 _).far n65 _).far n65 _
  · exact ((((((((hv.drewN n).far hne _).far hne _).far hne _).far hne _).set_ 0 _).set_ 1 _).set_ 2 _).set_ 3 _
  · exact ((((((((he.drewN n).set_ 0 _).set_ 1 _).set_ 2 _).set_ 3 _).far hne.symm _).far hne.symm _).far hne.symm _).far hne.symm _
theorem Cmp.add {w wr : World} {G5 g6 g7 : Nat} {C V2 : Array Value} {q : St} (h : Cmp w G5 g6 g7 C V2 q wr) (n62 : w.heap.size ≠ g6) (n72 : w.heap.size ≠ g7) (n25 : G5 ≠ w.heap.size) (i : Nat) (x : Value) (j : Nat) (y : Value) :
    Cmp w G5 g6 g7 C ((V2.setIfInBounds i x).setIfInBounds j y) q ((wr.setCell ⟨w.heap.size, i, none⟩ x).setCell ⟨w.heap.size, j, none⟩ y).drew.drew := by
  obtain ⟨hb, hs, ⟨V4, hr, hz⟩, hc, hv, he⟩ := h
  refine ⟨?_, ?_, ⟨V4, ?_, hz⟩, ?_, ?_, ?_⟩
  · exact (((hb.setCell (Nat.le_refl _) _).setCell (Nat.le_refl _) _).drew).drew
  · exact (((hs.set_ i x).set_ j y).drew).drew
  · exact (((hr.far (by simp) _).far (by simp) _).drew).drew
  · exact (((hc.far n25 _).far n25 _).drew).drew
  · exact (((hv.far n62.symm _).far n62.symm _).drew).drew
  · exact (((he.far n72.symm _).far n72.symm _).drew).drew

set_option maxRecDepth 100000 in
set_option maxHeartbeats 4000000 in
theorem compress_any (s : St) (A : Option Addr) (c : Nat) (b : List UInt8) (w : World) (hl : Reads w w.heap.size 1 A 64 (bytesV b)) (hc : 64 ≤ c) (hK : Consts w) (h0 : 0 < w.heap.size) :
    Calls Tryd.prog 56 #[.agg s.cells, .slice A 64 c] w fun e W' => e = .returned (.agg (comp s b).cells) ∧ Below w.heap.size w W' := by
  obtain ⟨R, hR⟩ : ∃ R, R = (comp s b).cells := ⟨_, rfl⟩
  rw [← hR]
  have HR := Lib.hid hR
  clear hR
  obtain ⟨ss, hss⟩ : ∃ ss, ss = s := ⟨_, rfl⟩
  rw [← hss] at HR
  obtain ⟨s0, s1, s2, s3, s4, s5, s6, s7⟩ := s
  have HS := Lib.hid hss
  clear hss
  simp only [St.cells, w32]
  go_enter Tryd.func56, Tryd.ntmps56
  go_wp2_with fail
  obtain ⟨V2, hV2⟩ : ∃ V2 : Array Value, V2 = #[.int .u32 (s0.toNat : Int), .int .u32 (s1.toNat : Int), .int .u32 (s2.toNat : Int), .int .u32 (s3.toNat : Int), .int .u32 (s4.toNat : Int), .int .u32 (s5.toNat : Int), .int .u32 (s6.toNat : Int), .int .u32 (s7.toNat : Int)] := ⟨_, rfl⟩
  obtain ⟨V4, hV4⟩ : ∃ V4 : Array Value, V4 = #[.int .u32 0, .int .u32 0, .int .u32 0, .int .u32 0, .int .u32 0, .int .u32 0, .int .u32 0, .int .u32 0] := ⟨_, rfl⟩
  rw [← hV2, ← hV4]
  have k2 : Blk ((w.alloc (.cells V2 80)).alloc (.cells V4 80)) w.heap.size 80 V2 := (Blk.new w 80 V2).alloc _
  have k4 : Blk ((w.alloc (.cells V2 80)).alloc (.cells V4 80)) (w.heap.size + 1) 80 V4 := by have := Blk.new (w.alloc (.cells V2 80)) 80 V4; simpa using this
  have kb : Below w.heap.size w ((w.alloc (.cells V2 80)).alloc (.cells V4 80)) := ((Below.refl _ w).alloc (Nat.le_refl _) _).alloc (by simp) _
  have kz : ((w.alloc (.cells V2 80)).alloc (.cells V4 80)).heap.size = w.heap.size + 2 := by simp
  generalize (w.alloc (.cells V2 80)).alloc (.cells V4 80) = wa at *
  refine (schedule_any A c b wa ((hl.below kb).more kb.size) hc).mono ?_
  rintro e w1 ⟨rfl, hb⟩
  have b1 : Below w.heap.size w w1 := kb.trans (hb.mono kb.size)
  have k2 := k2.below hb (by omega)
  have k4 := k4.below hb (by omega)
  have z1 : w.heap.size + 2 ≤ w1.heap.size := by have := hb.size; omega
  have hl64 : (w32s (schedN b 64)).toArray.size = 64 := by simp [w32s, schedN_length]
  have HL := Lib.hid hl64
  have HO := Lib.hid (w32s_one (schedN b 64))
  obtain ⟨C, hC⟩ : ∃ C, C = (w32s (schedN b 64)).toArray := ⟨_, rfl⟩
  rw [← hC] at HL HO ⊢
  have HC := Lib.hid hC
  have HI : Hid ((Tryd.prog.info? 95).map (·.size) = some C.size) := Lib.hid (by rw [HL.out]; exact info64)
  clear hC hl64 hb kb kz
  obtain ⟨Z, hZ⟩ : ∃ Z, Z = (w32s (pad [])).toArray := ⟨_, rfl⟩
  have hz64 : Z.size = 64 := by rw [hZ]; rfl
  have HZ := Lib.hid hz64
  have HZC : Hid (Z.size = C.size) := Lib.hid (by rw [HL.out, HZ.out])
  have hnew := heap_alloc_new w1 (.cells (w32s (pad [])).toArray 95 (0, 0))
  rw [← hZ] at hnew
  have HN := Lib.hid hnew
  clear hz64 hnew
  subst hV2
  subst hV4
  go_wp2_with (first
    | ((with_reducible refine wpList_store_row rfl 95 _ _ rfl w1.heap.size C rfl rfl 95 Z ?_ HI.out HZC.out HO.out ?_); (rw [hZ]; exact heap_alloc_new w1 _)))
  go_frame
  refine wp_world fun wb hwb => ?_
  have kC : Blk wb w1.heap.size 95 C := by rw [hwb]; exact (Blk.new w1 95 _).row C
  have k2 := (k2.alloc (.cells Z 95)).rowFar (show w.heap.size ≠ w1.heap.size by omega) C
  have k4 := (k4.alloc (.cells Z 95)).rowFar (show w.heap.size + 1 ≠ w1.heap.size by omega) C
  have kb := below_setRow (b1.alloc b1.size (.cells Z 95)) b1.size C
  have kz : wb.heap.size = w1.heap.size + 1 := by rw [hwb]; simp
  have hwb2 : wb = (w1.alloc (.cells Z 95)).setRow w1.heap.size C := by rw [hwb, hZ]; rfl
  rw [← hwb2] at k2 k4 kb
  have zb := kb.size
  clear hwb hwb2 hZ HN HZC HZ
  have p0 : wb.cell? ⟨w.heap.size, 0, none⟩ = some (.int .u32 (s0.toNat : Int)) := k2.at_ (i := 0) rfl
  have p1 : wb.cell? ⟨w.heap.size, 1, none⟩ = some (.int .u32 (s1.toNat : Int)) := k2.at_ (i := 1) rfl
  have p2 : wb.cell? ⟨w.heap.size, 2, none⟩ = some (.int .u32 (s2.toNat : Int)) := k2.at_ (i := 2) rfl
  have p3 : wb.cell? ⟨w.heap.size, 3, none⟩ = some (.int .u32 (s3.toNat : Int)) := k2.at_ (i := 3) rfl
  have p4 : wb.cell? ⟨w.heap.size, 4, none⟩ = some (.int .u32 (s4.toNat : Int)) := k2.at_ (i := 4) rfl
  have p5 : wb.cell? ⟨w.heap.size, 5, none⟩ = some (.int .u32 (s5.toNat : Int)) := k2.at_ (i := 5) rfl
  have p6 : wb.cell? ⟨w.heap.size, 6, none⟩ = some (.int .u32 (s6.toNat : Int)) := k2.at_ (i := 6) rfl
  have p7 : wb.cell? ⟨w.heap.size, 7, none⟩ = some (.int .u32 (s7.toNat : Int)) := k2.at_ (i := 7) rfl
  go_cut [6, 7] (fun v6 v7 wx => ∃ g6 g7 : Nat, v6 = .pointer (some ⟨g6, 0, none⟩) ∧ v7 = .pointer (some ⟨g7, 0, none⟩) ∧ wb.heap.size ≤ g6 ∧ wb.heap.size ≤ g7 ∧ g6 ≠ g7 ∧ Blk wx g6 97 #[.int .u32 (s0.toNat : Int), .int .u32 (s1.toNat : Int), .int .u32 (s2.toNat : Int), .int .u32 (s3.toNat : Int)] ∧ Blk wx g7 97 #[.int .u32 (s4.toNat : Int), .int .u32 (s5.toNat : Int), .int .u32 (s6.toNat : Int), .int .u32 (s7.toNat : Int)] ∧ Below wb.heap.size wb wx)
  case first =>
    have hA1 := fun W => array4_at W ⟨w.heap.size, 0, none⟩ 8
    have hA2 := fun W => array4_at W ⟨w.heap.size, 4, none⟩ 4
    have hlt2 : w.heap.size < wb.heap.size := by omega
    have r0 : ∀ o, (wb.alloc o).cell? ⟨w.heap.size, 0, none⟩ = some (.int .u32 (s0.toNat : Int)) := fun o => (World.cell?_alloc_lt wb o _ hlt2).trans p0
    have r1 : ∀ o, (wb.alloc o).cell? ⟨w.heap.size, 1, none⟩ = some (.int .u32 (s1.toNat : Int)) := fun o => (World.cell?_alloc_lt wb o _ hlt2).trans p1
    have r2 : ∀ o, (wb.alloc o).cell? ⟨w.heap.size, 2, none⟩ = some (.int .u32 (s2.toNat : Int)) := fun o => (World.cell?_alloc_lt wb o _ hlt2).trans p2
    have r3 : ∀ o, (wb.alloc o).cell? ⟨w.heap.size, 3, none⟩ = some (.int .u32 (s3.toNat : Int)) := fun o => (World.cell?_alloc_lt wb o _ hlt2).trans p3
    have r4 : ∀ o, (wb.alloc o).cell? ⟨w.heap.size, 4, none⟩ = some (.int .u32 (s4.toNat : Int)) := fun o => (World.cell?_alloc_lt wb o _ hlt2).trans p4
    have r5 : ∀ o, (wb.alloc o).cell? ⟨w.heap.size, 5, none⟩ = some (.int .u32 (s5.toNat : Int)) := fun o => (World.cell?_alloc_lt wb o _ hlt2).trans p5
    have r6 : ∀ o, (wb.alloc o).cell? ⟨w.heap.size, 6, none⟩ = some (.int .u32 (s6.toNat : Int)) := fun o => (World.cell?_alloc_lt wb o _ hlt2).trans p6
    have r7 : ∀ o, (wb.alloc o).cell? ⟨w.heap.size, 7, none⟩ = some (.int .u32 (s7.toNat : Int)) := fun o => (World.cell?_alloc_lt wb o _ hlt2).trans p7
    have t0 : ∀ o o', ((wb.alloc o).alloc o').cell? ⟨w.heap.size, 0, none⟩ = some (.int .u32 (s0.toNat : Int)) := fun o o' => (World.cell?_alloc_lt _ o' _ (by simp; omega)).trans (r0 o)
    have t1 : ∀ o o', ((wb.alloc o).alloc o').cell? ⟨w.heap.size, 1, none⟩ = some (.int .u32 (s1.toNat : Int)) := fun o o' => (World.cell?_alloc_lt _ o' _ (by simp; omega)).trans (r1 o)
    have t2 : ∀ o o', ((wb.alloc o).alloc o').cell? ⟨w.heap.size, 2, none⟩ = some (.int .u32 (s2.toNat : Int)) := fun o o' => (World.cell?_alloc_lt _ o' _ (by simp; omega)).trans (r2 o)
    have t3 : ∀ o o', ((wb.alloc o).alloc o').cell? ⟨w.heap.size, 3, none⟩ = some (.int .u32 (s3.toNat : Int)) := fun o o' => (World.cell?_alloc_lt _ o' _ (by simp; omega)).trans (r3 o)
    have t4 : ∀ o o', ((wb.alloc o).alloc o').cell? ⟨w.heap.size, 4, none⟩ = some (.int .u32 (s4.toNat : Int)) := fun o o' => (World.cell?_alloc_lt _ o' _ (by simp; omega)).trans (r4 o)
    have t5 : ∀ o o', ((wb.alloc o).alloc o').cell? ⟨w.heap.size, 5, none⟩ = some (.int .u32 (s5.toNat : Int)) := fun o o' => (World.cell?_alloc_lt _ o' _ (by simp; omega)).trans (r5 o)
    have t6 : ∀ o o', ((wb.alloc o).alloc o').cell? ⟨w.heap.size, 6, none⟩ = some (.int .u32 (s6.toNat : Int)) := fun o o' => (World.cell?_alloc_lt _ o' _ (by simp; omega)).trans (r6 o)
    have t7 : ∀ o o', ((wb.alloc o).alloc o').cell? ⟨w.heap.size, 7, none⟩ = some (.int .u32 (s7.toNat : Int)) := fun o o' => (World.cell?_alloc_lt _ o' _ (by simp; omega)).trans (r7 o)
    go_region
    all_goals clear hA1 hA2 r0 r1 r2 r3 r4 r5 r6 r7 t0 t1 t2 t3 t4 t5 t6 t7 p0 p1 p2 p3 p4 p5 p6 p7
    all_goals
      have n1 : ∀ X Y, Blk ((wb.alloc (.cells X 97)).alloc (.cells Y 97)).drew (w1.heap.size + 1) 97 X := fun X Y => by rw [← kz]; exact (Blk.new wb 97 X).alloc _
      have n2 : ∀ X Y, Blk ((wb.alloc (.cells X 97)).alloc (.cells Y 97)).drew (w1.heap.size + 1 + 1) 97 Y := fun X Y => by rw [← kz]; have := (Blk.new (wb.alloc (.cells X 97)) 97 Y).drew; simpa using this
      have n3 : ∀ X Y, Below wb.heap.size wb ((wb.alloc (.cells X 97)).alloc (.cells Y 97)).drew := fun X Y => (((Below.refl _ wb).alloc (Nat.le_refl _) _).alloc (by simp) _).drew
      have HN1 := Lib.hid n1
      have HN2 := Lib.hid n2
      have HN3 := Lib.hid n3
      clear n1 n2 n3
      go_wp2_with fail
      go_meet
    · exact ⟨w1.heap.size + 1, w1.heap.size + 1 + 1, rfl, rfl, by omega, by omega, by omega, HN1.out _ _, HN2.out _ _, HN3.out _ _⟩
    · exact ⟨w1.heap.size + 1 + 1, w1.heap.size + 1, rfl, rfl, by omega, by omega, by omega, HN2.out _ _, HN1.out _ _, HN3.out _ _⟩
  case rest =>
    obtain ⟨g6, g7, rfl, rfl, hg6, hg7, hne, B6, B7, hbx⟩ := hcut
    clear p0 p1 p2 p3 p4 p5 p6 p7
    have k2 := k2.below hbx (by omega)
    have k4 := k4.below hbx (by omega)
    have kC := kC.below hbx (by omega)
    have kb := below_step kb (Nat.le_refl _) hbx
    have hrange : wc.rangeAt 0 0 (w32s KS) := fun j v hv => by
      rw [w32s_get] at hv
      obtain ⟨x, h1, h2⟩ := Option.map_eq_some_iff.1 hv
      have := hK j x h1
      rw [Nat.zero_add, ← h2, ← this]
      exact kb.cell (p := ⟨0, j, none⟩) h0
    clear hbx b1
    obtain ⟨KC, hKC⟩ : ∃ KC, KC = w32s KS := ⟨_, rfl⟩
    rw [← hKC] at hrange
    have hkl : KC.length = 64 := by rw [hKC]; rfl
    have HKC := Lib.hid hKC
    have HKI : Hid ((Tryd.prog.info? 95).map (·.size) = some KC.length) := Lib.hid (by rw [hkl]; exact info64)
    have HKL := Lib.hid hkl
    clear hKC hkl
    go_wp2_with (with_reducible refine wpList_load_mid rfl 95 _ rfl 0 0 rfl KC _ hrange Tryd.underlying95 rfl HKI.out ?_)
    have I0 : Cmp w w1.heap.size g6 g7 C #[.int .u32 (s0.toNat : Int), .int .u32 (s1.toNat : Int), .int .u32 (s2.toNat : Int), .int .u32 (s3.toNat : Int), .int .u32 (s4.toNat : Int), .int .u32 (s5.toNat : Int), .int .u32 (s6.toNat : Int), .int .u32 (s7.toNat : Int)] ss wc :=
      ⟨kb, k2, ⟨_, k4, rfl⟩, kC, by rw [HS.out]; exact B6, by rw [HS.out]; exact B7⟩
    obtain ⟨V2, hV2⟩ : ∃ V2 : Array Value, V2 = #[.int .u32 (s0.toNat : Int), .int .u32 (s1.toNat : Int), .int .u32 (s2.toNat : Int), .int .u32 (s3.toNat : Int), .int .u32 (s4.toNat : Int), .int .u32 (s5.toNat : Int), .int .u32 (s6.toNat : Int), .int .u32 (s7.toNat : Int)] := ⟨_, rfl⟩
    rw [← hV2] at I0
    have HV2 := Lib.hid hV2
    clear hV2 kb k2 k4 kC B6 B7 hrange
    have n62 : w.heap.size ≠ g6 := by omega
    have n25 : w1.heap.size ≠ w.heap.size := by omega
    have n72 : w.heap.size ≠ g7 := by omega
    have n64 : w.heap.size + 1 ≠ g6 := by omega
    have n74 : w.heap.size + 1 ≠ g7 := by omega
    have n65 : w1.heap.size ≠ g6 := by omega
    have n75 : w1.heap.size ≠ g7 := by omega
    have n67 : w.heap.size ≤ g6 := by omega
    have n68 : w.heap.size ≤ g7 := by omega
    clear z1
    go_loopw [22] (fun i wr => ∃ (t : Nat) (q : St), t ≤ 64 ∧ i = .int .i64 t ∧ Hid (q = ss.rnds (schedN b 64) t) ∧ Cmp w w1.heap.size g6 g7 C V2 q wr) (fun i _ => 64 - (intOf i).toNat)
    case atStart => exact ⟨0, ss, by omega, rfl, Lib.hid rfl, I0⟩
    case round =>
      clear I0
      obtain ⟨t, q, ht, rfl, HQ, hI⟩ := hrel
      obtain ⟨a, bb, cc, d, e, f, g, h⟩ := q
      by_cases hlt : t < 64
      · have hti : (t : Int) < 64 := by omega
        have u0 := hI.v.at_ (i := 0) (v := .int .u32 (a.toNat : Int)) rfl
        have u1 := hI.v.at_ (i := 1) (v := .int .u32 (bb.toNat : Int)) rfl
        have u2 := hI.v.at_ (i := 2) (v := .int .u32 (cc.toNat : Int)) rfl
        have u3 := hI.v.at_ (i := 3) (v := .int .u32 (d.toNat : Int)) rfl
        have v0 := hI.e.at_ (i := 0) (v := .int .u32 (e.toNat : Int)) rfl
        have v1 := hI.e.at_ (i := 1) (v := .int .u32 (f.toNat : Int)) rfl
        have v2 := hI.e.at_ (i := 2) (v := .int .u32 (g.toNat : Int)) rfl
        have v3 := hI.e.at_ (i := 3) (v := .int .u32 (h.toNat : Int)) rfl
        have hk : KC.toArray[t]? = some (.int .u32 ((nth KS t).toNat : Int)) := by
          rw [HKC.out, List.getElem?_toArray, w32s_get]
          unfold nth
          rw [List.getElem?_eq_getElem (show t < KS.length from hlt)]; rfl
        have hidx := fun W => index_at W KC.toArray t _ hlt hk
        have hwt : wr.cell? ⟨w1.heap.size, t, none⟩ = some (.int .u32 ((nth (schedN b 64) t).toNat : Int)) := hI.c.at_ (by
          rw [HC.out, List.getElem?_toArray, w32s_get]
          unfold nth
          rw [List.getElem?_eq_getElem (by rw [schedN_length]; exact hlt)]; rfl)
        have HN : Hid (ss.rnds (schedN b 64) (t + 1) = (⟨a, bb, cc, d, e, f, g, h⟩ : St).rnd (nth KS t) (nth (schedN b 64) t)) := by
          show ss.rnds (schedN b 64) (t + 1) = _
          rw [HQ.out]; rfl
        generalize nth (schedN b 64) t = wt at *
        generalize nth KS t = kt at *
        clear hk
        go_wp2_with fail
        have m1 := w_addw h (mixU e 6 11 25)
        have m2 := w_and e f
        have m3 : bits .xor .u32 (if IntKind.u32.signed = true then -1 else IntKind.u32.max) (e.toNat : Int) = ((cw e).toNat : Int) := w_not e
        have m4 := w_and (cw e) g
        have m5 := w_xor (nw e f) (nw (cw e) g)
        have m6 := w_addw (aw h (mixU e 6 11 25)) (xw (nw e f) (nw (cw e) g))
        have m7 := w_addw (aw (aw h (mixU e 6 11 25)) (xw (nw e f) (nw (cw e) g))) kt
        have m8 := w_addw (aw (aw (aw h (mixU e 6 11 25)) (xw (nw e f) (nw (cw e) g))) kt) wt
        have m6' := w_add (aw h (mixU e 6 11 25)) (xw (nw e f) (nw (cw e) g))
        have m7' := w_add (aw (aw h (mixU e 6 11 25)) (xw (nw e f) (nw (cw e) g))) kt
        have m8' := w_add (aw (aw (aw h (mixU e 6 11 25)) (xw (nw e f) (nw (cw e) g))) kt) wt
        go_quiet ((go_at_call 60; exact Calls.quiet_of_same (mix6_q e _)))
        clear m1 m2 m3 m4 m5 m6 m7 m8 m6' m7' m8'
        have m1 := w_and a bb
        have m2 := w_and a cc
        have m3 := w_xor (nw a bb) (nw a cc)
        have m4 := w_and bb cc
        have m5 := w_xor (xw (nw a bb) (nw a cc)) (nw bb cc)
        have m6 := w_addw (mixU a 2 13 22) (xw (xw (nw a bb) (nw a cc)) (nw bb cc))
        have m6' := w_add (mixU a 2 13 22) (xw (xw (nw a bb) (nw a cc)) (nw bb cc))
        go_wp2_with fail
        go_quiet ((go_at_call 60; exact quiet_more (mix2_q a _)))
        clear m1 m2 m3 m4 m5 m6 m6'
        obtain ⟨X, hX⟩ : ∃ X, X = aw (aw (aw (aw h (mixU e 6 11 25)) (xw (nw e f) (nw (cw e) g))) kt) wt := ⟨_, rfl⟩
        obtain ⟨Y, hY⟩ : ∃ Y, Y = aw (mixU a 2 13 22) (xw (xw (nw a bb) (nw a cc)) (nw bb cc)) := ⟨_, rfl⟩
        rw [← hX, ← hY]
        have HX := Lib.hid hX
        have HY := Lib.hid hY
        clear hX hY
        have m1 := w_addw d X
        have m2 := w_add d X
        have m3 := w_addw X Y
        have m4 := w_add X Y
        have hne2 : ¬ g7 = g6 := fun h => hne h.symm
        have hz7 := hI.e.frozen
        have hz6 := hI.v.frozen
        go_wp2_with fail
        have hq2 : Hid ((⟨aw X Y, a, bb, cc, aw d X, e, f, g⟩ : St) = ss.rnds (schedN b 64) (t + 1)) := by
          show _ = _
          rw [HN.out, HX.out, HY.out]; rfl
        go_roundw
        case rel => exact ⟨t + 1, ⟨aw X Y, a, bb, cc, aw d X, e, f, g⟩, by omega, by go_num, hq2, hI.step hne n67 n68 n62 n72 n64 n74 n65 n75 _ _⟩
        case measure => simp [intOf]; omega
      · obtain rfl : t = 64 := by omega
        go_wp2_with fail
        have J0 : Cmp w w1.heap.size g6 g7 C (St.cells (mid ⟨s0, s1, s2, s3, s4, s5, s6, s7⟩ ⟨a, bb, cc, d, e, f, g, h⟩ 0)) ⟨a, bb, cc, d, e, f, g, h⟩ wr := by
          have e0 : St.cells (mid ⟨s0, s1, s2, s3, s4, s5, s6, s7⟩ ⟨a, bb, cc, d, e, f, g, h⟩ 0) = V2 := by rw [HV2.out]; rfl
          rw [e0]; exact hI
        clear hI
        go_loopw [94] (fun i wr => ∃ k : Nat, k ≤ 4 ∧ i = .int .i64 k ∧ Cmp w w1.heap.size g6 g7 C (St.cells (mid ⟨s0, s1, s2, s3, s4, s5, s6, s7⟩ ⟨a, bb, cc, d, e, f, g, h⟩ k)) ⟨a, bb, cc, d, e, f, g, h⟩ wr) (fun i _ => 4 - (intOf i).toNat)
        case atStart => exact ⟨0, by omega, rfl, J0⟩
        case round =>
          clear J0
          obtain ⟨k, hk, rfl, hI⟩ := hrel
          by_cases hk4 : k < 4
          · have hkk : k = 0 ∨ k = 1 ∨ k = 2 ∨ k = 3 := by omega
            rcases hkk with rfl | rfl | rfl | rfl
            · have x1 := hI.s.at_ (i := 0) (v := .int .u32 (s0.toNat : Int)) rfl
              have x2 := hI.s.at_ (i := 4) (v := .int .u32 (s4.toNat : Int)) rfl
              have x3 := hI.v.at_ (i := 0) (v := .int .u32 (a.toNat : Int)) rfl
              have x4 := hI.e.at_ (i := 0) (v := .int .u32 (e.toNat : Int)) rfl
              have x5 := hI.s.frozen
              have m1 := w_addw s0 a
              have m2 := w_add s0 a
              have m3 := w_addw s4 e
              have m4 := w_add s4 e
              go_wp2_with fail
              go_region
              all_goals go_wp2_with fail
              all_goals go_region
              all_goals go_wp2_with fail
              all_goals go_roundw
              case rel => exact ⟨1, by omega, by go_num, hI.add n62 n72 n25 0 _ 4 _⟩
              case measure => simp [intOf]
            · have x1 := hI.s.at_ (i := 1) (v := .int .u32 (s1.toNat : Int)) rfl
              have x2 := hI.s.at_ (i := 5) (v := .int .u32 (s5.toNat : Int)) rfl
              have x3 := hI.v.at_ (i := 1) (v := .int .u32 (bb.toNat : Int)) rfl
              have x4 := hI.e.at_ (i := 1) (v := .int .u32 (f.toNat : Int)) rfl
              have x5 := hI.s.frozen
              have m1 := w_addw s1 bb
              have m2 := w_add s1 bb
              have m3 := w_addw s5 f
              have m4 := w_add s5 f
              go_wp2_with fail
              go_region
              all_goals go_wp2_with fail
              all_goals go_region
              all_goals go_wp2_with fail
              all_goals go_roundw
              case rel => exact ⟨2, by omega, by go_num, hI.add n62 n72 n25 1 _ 5 _⟩
              case measure => simp [intOf]
            · have x1 := hI.s.at_ (i := 2) (v := .int .u32 (s2.toNat : Int)) rfl
              have x2 := hI.s.at_ (i := 6) (v := .int .u32 (s6.toNat : Int)) rfl
              have x3 := hI.v.at_ (i := 2) (v := .int .u32 (cc.toNat : Int)) rfl
              have x4 := hI.e.at_ (i := 2) (v := .int .u32 (g.toNat : Int)) rfl
              have x5 := hI.s.frozen
              have m1 := w_addw s2 cc
              have m2 := w_add s2 cc
              have m3 := w_addw s6 g
              have m4 := w_add s6 g
              go_wp2_with fail
              go_region
              all_goals go_wp2_with fail
              all_goals go_region
              all_goals go_wp2_with fail
              all_goals go_roundw
              case rel => exact ⟨3, by omega, by go_num, hI.add n62 n72 n25 2 _ 6 _⟩
              case measure => simp [intOf]
            · have x1 := hI.s.at_ (i := 3) (v := .int .u32 (s3.toNat : Int)) rfl
              have x2 := hI.s.at_ (i := 7) (v := .int .u32 (s7.toNat : Int)) rfl
              have x3 := hI.v.at_ (i := 3) (v := .int .u32 (d.toNat : Int)) rfl
              have x4 := hI.e.at_ (i := 3) (v := .int .u32 (h.toNat : Int)) rfl
              have x5 := hI.s.frozen
              have m1 := w_addw s3 d
              have m2 := w_add s3 d
              have m3 := w_addw s7 h
              have m4 := w_add s7 h
              go_wp2_with fail
              go_region
              all_goals go_wp2_with fail
              all_goals go_region
              all_goals go_wp2_with fail
              all_goals go_roundw
              case rel => exact ⟨4, by omega, by go_num, hI.add n62 n72 n25 3 _ 7 _⟩
              case measure => simp [intOf]
          · obtain rfl : k = 4 := by omega
            have HM : Hid (R = St.cells (mid ⟨s0, s1, s2, s3, s4, s5, s6, s7⟩ ⟨a, bb, cc, d, e, f, g, h⟩ 4)) := by
              show R = _
              rw [HR.out, mid_all]
              unfold comp
              rw [← HQ.out, ← HS.out]
            rw [← HM.out] at hI
            have hrs : R.size = 8 := by rw [HM.out]; rfl
            have hro : R.all (·.oneCell') = true := by rw [HM.out]; exact cells_one _
            obtain ⟨V4, kr, kz⟩ := hI.r
            have G1 : Hid ((Tryd.prog.info? 80).map (·.size) = some R.size) := Lib.hid (by rw [hrs]; exact info8)
            have G2 : Hid (V4.size = R.size) := Lib.hid (by rw [hrs, kz])
            have G3 := Lib.hid hro
            clear hrs hro kz
            go_wp2_with (first
              | (with_reducible refine wpList_load_row rfl 80 _ rfl w.heap.size rfl 80 R (0, 0) _ hI.s.heap_ Tryd.underlying80 rfl G1.out ?_)
              | (with_reducible refine wpList_store_row rfl 80 _ _ rfl (w.heap.size + 1) R rfl rfl 80 V4 kr.heap_ G1.out G2.out G3.out ?_))
            refine ret_row (g := w.heap.size + 1) (cs := R) (t := 80) Tryd.results56 ?_ (kr.row R) rfl Tryd.underlying80 G1.out ?_ ?_
            · rfl
            · rfl
            · exact ⟨rfl, below_setRow hI.b (by omega) R⟩
end Go.Proofs.YtnionejefpnfoaaDoor
