/- The walk of down over any halves and any test. Conditions: the ranges that the theorem states. -/
import Derived.Test.YtnionejefpnfoaaDoorVf
import Derived.Laws.EntriesVeiled
import Derived.BigRegion
set_option linter.unusedSimpArgs false
set_option linter.unusedVariables false
namespace Go.Proofs.YtnionejefpnfoaaDoor
open Go.RowKit Go.Shelf Go

/-- WHERE A TEST LEADS: the last node, and the sum before it -/
def desc (D : Nat → Nat → Int → Int) (p : Nd → Nd → Int → Bool) (a n : Nat) (t b : Int) : Nd × Int :=
  if n < 2 then ((a, n, t), b) else if p (a, n / 2, D a n t) (a + n / 2, n - n / 2, t - D a n t) b then desc D p a (n / 2) (D a n t) b else desc D p (a + n / 2) (n - n / 2) (t - D a n t) (b + D a n t)
termination_by n
theorem desc_end (D : Nat → Nat → Int → Int) (p : Nd → Nd → Int → Bool) (a n : Nat) (t b : Int) (h : n < 2) : desc D p a n t b = ((a, n, t), b) := by rw [desc, if_pos h]
theorem desc_left {D : Nat → Nat → Int → Int} {p : Nd → Nd → Int → Bool} {a n : Nat} {t b : Int} (h : 2 ≤ n) (hp : p (a, n / 2, D a n t) (a + n / 2, n - n / 2, t - D a n t) b = true) : desc D p a n t b = desc D p a (n / 2) (D a n t) b := by rw [desc, if_neg (by omega), if_pos hp]
theorem desc_right {D : Nat → Nat → Int → Int} {p : Nd → Nd → Int → Bool} {a n : Nat} {t b : Int} (h : 2 ≤ n) (hp : p (a, n / 2, D a n t) (a + n / 2, n - n / 2, t - D a n t) b = false) : desc D p a n t b = desc D p (a + n / 2) (n - n / 2) (t - D a n t) (b + D a n t) := by rw [desc, if_neg (by omega), if_neg (by rw [hp]; decide)]
/-- the number of parts that the node in block g has -/
def partsIn (g : Nat) (W : World) : Nat := match W.cell? ⟨g, 1, none⟩ with
  | some (.int _ x) => x.toNat
  | _ => 0
/-- the state of down's loop -/
structure DS (w : World) (sp : Array Value) (D : Nat → Nat → Int → Int) (I : Nat → Nat → Int → Prop) (p : Nd → Nd → Int → Bool) (R : Nd × Int) (a n : Nat) (t b : Int) (wr : World) : Prop where
  bel : Below w.heap.size w wr
  sb : Blk wr w.heap.size 28 sp
  rb : Blk wr (w.heap.size + 1) 53 (nodC 0 0 0)
  nb : Blk wr (w.heap.size + 2) 53 (nodC a n t)
  sz : w.heap.size + 3 ≤ wr.heap.size
  inv : I a n t
  out : desc D p a n t b = R
  bef : -((65536 - n : Int) * 68719476736) ≤ b ∧ b ≤ (65536 - n : Int) * 68719476736
theorem DS.step {w : World} {sp : Array Value} {D : Nat → Nat → Int → Int} {I : Nat → Nat → Int → Prop} {p : Nd → Nd → Int → Bool} {R : Nd × Int} {a n a' n' : Nat} {t b t' b' : Int} {wr w5 : World} (h : DS w sp D I p R a n t b wr)
    (K : Blk w5 w.heap.size 28 sp ∧ Blk w5 (w.heap.size + 1) 53 (nodC 0 0 0) ∧ Blk w5 (w.heap.size + 2) 53 (nodC a n t) ∧ Below w.heap.size w w5 ∧ w.heap.size + 3 ≤ w5.heap.size)
    (hi : I a' n' t') (ho : desc D p a' n' t' b' = R) (hn : n' < n) (hb : -((65536 - n' : Int) * 68719476736) ≤ b' ∧ b' ≤ (65536 - n' : Int) * 68719476736) (k : Nat) :
    DS w sp D I p R a' n' t' b' ((((w5.setCell ⟨w.heap.size + 2, 0, none⟩ (.int .i64 (a' : Int))).setCell ⟨w.heap.size + 2, 1, none⟩ (.int .i64 (n' : Int))).setCell ⟨w.heap.size + 2, 2, none⟩ (.int .i64 t')).drewN k) ∧
      partsIn (w.heap.size + 2) ((((w5.setCell ⟨w.heap.size + 2, 0, none⟩ (.int .i64 (a' : Int))).setCell ⟨w.heap.size + 2, 1, none⟩ (.int .i64 (n' : Int))).setCell ⟨w.heap.size + 2, 2, none⟩ (.int .i64 t')).drewN k) < n := by
  obtain ⟨k0, k1, k2, k3, k4⟩ := K
  have g2 : Blk ((((w5.setCell ⟨w.heap.size + 2, 0, none⟩ (.int .i64 (a' : Int))).setCell ⟨w.heap.size + 2, 1, none⟩ (.int .i64 (n' : Int))).setCell ⟨w.heap.size + 2, 2, none⟩ (.int .i64 t')).drewN k) (w.heap.size + 2) 53 (nodC a' n' t') :=
    (((k2.set_ 0 (.int .i64 (a' : Int))).set_ 1 (.int .i64 (n' : Int))).set_ 2 (.int .i64 t')).drewN k
  refine ⟨⟨?_, ?_, ?_, g2, ?_, hi, ho, hb⟩, ?_⟩
  · exact below_drewN' (((k3.setCell (Nat.le_add_right _ 2) _).setCell (Nat.le_add_right _ 2) _).setCell (Nat.le_add_right _ 2) _) k
  · exact (((k0.far (p := ⟨w.heap.size + 2, 0, none⟩) (by simp) _).far (p := ⟨w.heap.size + 2, 1, none⟩) (by simp) _).far (p := ⟨w.heap.size + 2, 2, none⟩) (by simp) _).drewN k
  · exact (((k1.far (p := ⟨w.heap.size + 2, 0, none⟩) (by simp) _).far (p := ⟨w.heap.size + 2, 1, none⟩) (by simp) _).far (p := ⟨w.heap.size + 2, 2, none⟩) (by simp) _).drewN k
  · have := g2.lt
    omega
  · unfold partsIn
    rw [show _ = some (Value.int .i64 (n' : Int)) from g2.at_ (i := 1) rfl]
    simpa using hn
set_option maxRecDepth 100000 in
set_option maxHeartbeats 8000000 in
theorem down_any {s : ByteArray} {A : Option Addr} {n c : Nat} {l : List Int} {w : World} (h : Net s A n l w) {T lo hi : Int} {m : Nat} {D : Nat → Nat → Int → Int} {I : Nat → Nat → Int → Prop} (H : Halved s A n c l T (m : Int) lo hi D I) (hI : I 0 m T)
    (hT : ∀ a m t, I a m t → -68719476736 ≤ t ∧ t ≤ 68719476736) (gf : Nat) (cap : Array Value) (eg : ∀ args w, (callFunc gf args).run Tryd.prog w = .ok (.enter gf args) w) (p : Nd → Nd → Int → Bool)
    (hp : ∀ (y z : Nd) (b : Int) W, Below w.heap.size w W → I y.1 y.2.1 y.2.2 → I z.1 z.2.1 z.2.2 → (-4503599627370496 ≤ b ∧ b ≤ 4503599627370496) → Calls Tryd.prog gf (#[nodV y.1 y.2.1 y.2.2, nodV z.1 z.2.1 z.2.2, .int .i64 b] ++ cap) W fun E W' => E = .returned (.bool (p y z b)) ∧ Below W.heap.size W W') :
    Calls Tryd.prog 25 #[spV s A n c T (m : Int) lo hi, .func (.func gf) #[] cap] w fun E W' => E = .returned (.tuple #[nodV (desc D p 0 m T 0).1.1 (desc D p 0 m T 0).1.2.1 (desc D p 0 m T 0).1.2.2, .int .i64 (desc D p 0 m T 0).2]) ∧ Below w.heap.size w W' := by
  obtain ⟨R, hR⟩ : ∃ R, R = desc D p 0 m T 0 := ⟨_, rfl⟩
  rw [← hR]
  have HH := Lib.hid H
  have HP := Lib.hid hp
  have HT := Lib.hid hT
  have hm := H.few 0 m T hI
  have b0 := (Below.refl w.heap.size w).alloc (Nat.le_refl _) (.cells (spC s A n c T (m : Int) lo hi) 28)
  have hz : (w.alloc (.cells (spC s A n c T (m : Int) lo hi) 28)).heap.size = w.heap.size + 1 := by simp
  have hz2 : ((w.alloc (.cells (spC s A n c T (m : Int) lo hi) 28)).alloc (.cells (nodC 0 0 0) 53)).heap.size = w.heap.size + 2 := by simp
  have l0 : DS w (spC s A n c T (m : Int) lo hi) D I p R 0 m T 0 (((w.alloc (.cells (spC s A n c T (m : Int) lo hi) 28)).alloc (.cells (nodC 0 0 0) 53)).alloc (.cells (nodC 0 (m : Int) T) 53)) :=
    ⟨(b0.alloc b0.size _).alloc (by rw [hz2]; omega) _, ((Blk.new w 28 _).alloc _).alloc _, (Blk.new' hz.symm).alloc _, Blk.new' hz2.symm, by simp, hI, hR.symm, by omega, by omega⟩
  clear H hp hT b0 hz hz2 hR hI
  have eg := Lib.hid eg
  go_enter Tryd.func25, Tryd.ntmps25
  go_wp2_with fail
  generalize ((w.alloc (.cells (spC s A n c T (m : Int) lo hi) 28)).alloc (.cells (nodC 0 0 0) 53)).alloc (.cells (nodC 0 (m : Int) T) 53) = w3 at *
  go_loopw [7] (fun v wr => ∃ a q t b, v = .int .i64 b ∧ DS w (spC s A n c T (m : Int) lo hi) D I p R a q t b wr) (fun _ wr => partsIn (w.heap.size + 2) wr)
  case atStart => exact ⟨_, _, _, _, rfl, l0⟩
  case round =>
    clear l0
    obtain ⟨a, q, t, b, rfl, hd⟩ := hrel
    have x0 : wr.cell? ⟨w.heap.size + 2, 0, none⟩ = some (.int .i64 (a : Int)) := hd.nb.at_ rfl
    have x1 : wr.cell? ⟨w.heap.size + 2, 1, none⟩ = some (.int .i64 (q : Int)) := hd.nb.at_ rfl
    have x2 : wr.cell? ⟨w.heap.size + 2, 2, none⟩ = some (.int .i64 t) := hd.nb.at_ rfl
    have hpi : partsIn (w.heap.size + 2) wr = q := by
      unfold partsIn
      rw [x1]
      rfl
    rw [hpi]
    have HD := Lib.hid hd
    by_cases hq : 2 ≤ q
    · have q1 : (1 : Int) < (q : Int) := by omega
      have hw := HH.out.walk a q t hd.inv hq wr (h.below hd.bel)
      have HIL := Lib.hid (HH.out.left a q t hd.inv hq)
      have HIR := Lib.hid (HH.out.right a q t hd.inv hq)
      have HDL : Hid (∀ (e : p (a, q / 2, D a q t) (a + q / 2, q - q / 2, t - D a q t) b = true), desc D p a (q / 2) (D a q t) b = R) := Lib.hid (fun e => by rw [← desc_left hq e]; exact hd.out)
      have HDR : Hid (∀ (e : p (a, q / 2, D a q t) (a + q / 2, q - q / 2, t - D a q t) b = false), desc D p (a + q / 2) (q - q / 2) (t - D a q t) (b + D a q t) = R) := Lib.hid (fun e => by rw [← desc_right hq e]; exact hd.out)
      have hq6 := HH.out.few a q t hd.inv
      have hll : q / 2 < q ∧ q - q / 2 < q ∧ 1 ≤ q / 2 ∧ 1 ≤ q - q / 2 := by omega
      have hbf := hd.bef
      have hs := hd.sb
      have d0 : wr.cell? ⟨w.heap.size, 0, none⟩ = some (.string s) := hs.at_ rfl
      have d1 : wr.cell? ⟨w.heap.size, 1, none⟩ = some (.slice A n c) := hs.at_ rfl
      have d2 : wr.cell? ⟨w.heap.size, 2, none⟩ = some (.int .i64 T) := hs.at_ rfl
      have d3 : wr.cell? ⟨w.heap.size, 3, none⟩ = some (.int .i64 (m : Int)) := hs.at_ rfl
      have d4 : wr.cell? ⟨w.heap.size, 4, none⟩ = some (.int .i64 lo) := hs.at_ rfl
      have d5 : wr.cell? ⟨w.heap.size, 5, none⟩ = some (.int .i64 hi) := hs.at_ rfl
      clear hs hd hpi
      generalize D a q t = dx at *
      generalize t - dx = dy at *
      generalize a + q / 2 = ar at *
      generalize q - q / 2 = mr at *
      generalize q / 2 = ml at *
      have HW := Lib.hid hw
      have hdx := HT.out _ _ _ HIL.out
      clear hw
      have hbb : -4503599627370496 ≤ b ∧ b ≤ 4503599627370496 := by omega
      have hwb : IntKind.i64.wrap (b + dx) = b + dx := wrap_small (by omega) (by omega)
      have HF := Lib.hid (And.intro hq6 (And.intro hll (And.intro hbf (And.intro hdx hbb))))
      clear hq6 hll hbf hdx hbb hq
      go_wp2_with fail
      refine HW.out.mono ?_
      rintro E w4 ⟨rfl, b4⟩
      clear d0 d1 d2 d3 d4 d5 x0 x1 x2
      go_wp2_with fail
      obtain ⟨hq6, hll, hbf, hdx, hbb⟩ := HF.out
      have B4 : Below w.heap.size w w4 := below_next HD.out.bel b4
      have B5 : Below w.heap.size w ((w4.alloc (.cells (nodC (a : Int) (ml : Int) dx) 53)).alloc (.cells (nodC (ar : Int) (mr : Int) dy) 53)) := (B4.alloc B4.size _).alloc (Nat.le_trans B4.size (by simp)) _
      have K0 := ((HD.out.sb.thru b4).alloc (.cells (nodC (a : Int) (ml : Int) dx) 53)).alloc (.cells (nodC (ar : Int) (mr : Int) dy) 53)
      have K1 := ((HD.out.rb.thru b4).alloc (.cells (nodC (a : Int) (ml : Int) dx) 53)).alloc (.cells (nodC (ar : Int) (mr : Int) dy) 53)
      have K2 := ((HD.out.nb.thru b4).alloc (.cells (nodC (a : Int) (ml : Int) dx) 53)).alloc (.cells (nodC (ar : Int) (mr : Int) dy) 53)
      have K3 : Blk ((w4.alloc (.cells (nodC (a : Int) (ml : Int) dx) 53)).alloc (.cells (nodC (ar : Int) (mr : Int) dy) 53)) w4.heap.size 53 (nodC (a : Int) (ml : Int) dx) := (Blk.new w4 53 _).alloc _
      have K4 : Blk ((w4.alloc (.cells (nodC (a : Int) (ml : Int) dx) 53)).alloc (.cells (nodC (ar : Int) (mr : Int) dy) 53)) (w4.heap.size + 1) 53 (nodC (ar : Int) (mr : Int) dy) := Blk.new' (by simp)
      have hc := HP.out (a, ml, dx) (ar, mr, dy) b _ B5 HIL.out HIR.out hbb
      have hsz4 : w.heap.size + 3 ≤ w4.heap.size := Nat.le_trans HD.out.sz b4.size
      clear hq6 hll hbf hdx hbb
      refine hc.mono ?_
      clear hc
      rintro E w5 ⟨rfl, b5⟩
      replace B5 := below_next B5 b5
      replace K0 := K0.thru b5
      replace K1 := K1.thru b5
      replace K2 := K2.thru b5
      replace K3 := K3.thru b5
      replace K4 := K4.thru b5
      have hsz5 : w.heap.size + 3 ≤ w5.heap.size := Nat.le_trans hsz4 (Nat.le_trans (by simp; omega) b5.size)
      have n0 : w5.cell? ⟨w.heap.size + 2, 0, none⟩ = some (.int .i64 (a : Int)) := K2.at_ rfl
      have n1 : w5.cell? ⟨w.heap.size + 2, 1, none⟩ = some (.int .i64 (q : Int)) := K2.at_ rfl
      have n2 : w5.cell? ⟨w.heap.size + 2, 2, none⟩ = some (.int .i64 t) := K2.at_ rfl
      have f0 := K2.frozen 0
      have f1 := K2.frozen 1
      have f2 := K2.frozen 2
      have HK := Lib.hid (And.intro K0 (And.intro K1 (And.intro K2 (And.intro B5 hsz5))))
      cases hpv : p (a, ml, dx) (ar, mr, dy) b
      · have r0 : w5.cell? ⟨w4.heap.size + 1, 0, none⟩ = some (.int .i64 (ar : Int)) := K4.at_ rfl
        have r1 : w5.cell? ⟨w4.heap.size + 1, 1, none⟩ = some (.int .i64 (mr : Int)) := K4.at_ rfl
        have r2 : w5.cell? ⟨w4.heap.size + 1, 2, none⟩ = some (.int .i64 dy) := K4.at_ rfl
        have s2 : w5.cell? ⟨w4.heap.size, 2, none⟩ = some (.int .i64 dx) := K3.at_ rfl
        have hout := Lib.hid (HDR.out hpv)
        have hne1 : ¬ w4.heap.size = w.heap.size + 1 + 1 := by omega
        have hne2 : ¬ w.heap.size + 1 + 1 = w4.heap.size := by omega
        clear hpv K0 K1 K2 K3 K4 B5 hsz5 hsz4 b5 B4 b4
        go_upto_region 6 with fail
        go_region
        all_goals
          go_wp2_with fail
          obtain ⟨hq6, hll, hbf, hdx, hbb⟩ := HF.out
          obtain ⟨e1, e2⟩ := DS.step HD.out HK.out HIR.out hout.out (by omega) (by omega) 1
          exact ⟨⟨_, _, _, _, rfl, e1⟩, e2⟩
      · have r0 : w5.cell? ⟨w4.heap.size, 0, none⟩ = some (.int .i64 (a : Int)) := K3.at_ rfl
        have r1 : w5.cell? ⟨w4.heap.size, 1, none⟩ = some (.int .i64 (ml : Int)) := K3.at_ rfl
        have r2 : w5.cell? ⟨w4.heap.size, 2, none⟩ = some (.int .i64 dx) := K3.at_ rfl
        have hout := Lib.hid (HDL.out hpv)
        clear hpv K0 K1 K2 K3 K4 B5 hsz5 hsz4 b5 B4 b4
        go_wp2_with fail
        obtain ⟨hq6, hll, hbf, hdx, hbb⟩ := HF.out
        obtain ⟨e1, e2⟩ := DS.step HD.out HK.out HIL.out hout.out (by omega) (by omega) 0
        exact ⟨⟨_, _, _, _, rfl, e1⟩, e2⟩
    · have q1 : ¬ (1 : Int) < (q : Int) := by omega
      have hout := HD.out.out
      rw [desc_end _ _ _ _ _ _ (by omega)] at hout
      have hr := HD.out.rb
      have y0 : wr.cell? ⟨w.heap.size + 1, 0, none⟩ = some (.int .i64 0) := hr.at_ rfl
      have y1 : wr.cell? ⟨w.heap.size + 1, 1, none⟩ = some (.int .i64 0) := hr.at_ rfl
      have y2 : wr.cell? ⟨w.heap.size + 1, 2, none⟩ = some (.int .i64 0) := hr.at_ rfl
      have f0 := hr.frozen 0
      have f1 := hr.frozen 1
      have f2 := hr.frozen 2
      have HO := Lib.hid hout
      clear hout hr hd hpi
      go_wp2_with fail
      have g1 : Blk (((wr.setCell ⟨w.heap.size + 1, 0, none⟩ (.int .i64 (a : Int))).setCell ⟨w.heap.size + 1, 1, none⟩ (.int .i64 (q : Int))).setCell ⟨w.heap.size + 1, 2, none⟩ (.int .i64 t)) (w.heap.size + 1) 53 (nodC (a : Int) (q : Int) t) :=
        ((HD.out.rb.set_ 0 (.int .i64 (a : Int))).set_ 1 (.int .i64 (q : Int))).set_ 2 (.int .i64 t)
      refine ret_row_tmp (g := w.heap.size + 1) (t := 53) (v := .int .i64 b) Tryd.results25 rfl g1 rfl Tryd.underlying53 info42 rfl rfl ?_
      refine ⟨by rw [← HO.out], ?_⟩
      exact ((HD.out.bel.setCell (Nat.le_succ _) _).setCell (Nat.le_succ _) _).setCell (Nat.le_succ _) _
end Go.Proofs.YtnionejefpnfoaaDoor
