/- Life cycles: Least. Conditions: the life cycle is valid. -/
import Derived.Test.YtiajlglnefiemaaDoorLk
set_option linter.unusedSimpArgs false
set_option linter.unusedVariables false
namespace Go.Proofs.YtiajlglnefiemaaDoor
open Go.RowKit

/-- the fewest moves, as far as k numbers of moves tell -/
def lst (M : List (Int × Int)) : Nat → Nat → Int
  | 0 => fun _ => -1
  | k + 1 => lsee k (reachB M k) (lst M k)
theorem lst_keeps {M : List (Int × Int)} {k s : Nat} (h : 0 ≤ lst M k s) : ∀ d, lst M (k + d) s = lst M k s
  | 0 => rfl
  | d + 1 => by
    have ih := lst_keeps h d
    show lsee (k + d) (reachB M (k + d)) (lst M (k + d)) s = _
    unfold lsee
    rw [ih, decide_eq_false (show ¬ lst M k s < 0 by omega), Bool.and_false]
    rfl
/-- what the rounds of Least keep -/
structure RL (B : Option Addr) (m n b go gO : Nat) (M : List (Int × Int)) (w5 : World) (k : Nat) (W : World) : Prop where
  mov : Reads W b 2 B m (movsV M)
  out : Blk W go 3 (rowI (lst M k) n)
  box : Blk W gO 22 #[.slice (some ⟨go, 0, none⟩) n n]
  below : ∀ q, q ≤ go → Below q w5 W
theorem lst_done {M : List (Int × Int)} {k n hi : Nat} (hk : k ≤ hi) (h : hasB ((List.range n).map (lst M (k + 1))) (-1) = false) (hge : ∀ s, -1 ≤ lst M (k + 1) s) : rowI (lst M (k + 1)) n = rowI (lst M (hi + 1)) n := by
  refine rowI_ext fun i hi2 => ?_
  have h0 : 0 ≤ lst M (k + 1) i := by
    rcases Int.lt_or_le (lst M (k + 1) i) 0 with h1 | h1
    · have h2 : lst M (k + 1) i = -1 := by have := hge i; omega
      have h3 : hasB ((List.range n).map (lst M (k + 1))) (-1) = true := (hasB_iff _ _).2 (List.mem_map.2 ⟨i, List.mem_range.2 hi2, h2⟩)
      rw [h] at h3
      cases h3
    · exact h1
  have := lst_keeps h0 (hi - k)
  rw [show k + 1 + (hi - k) = hi + 1 by omega] at this
  exact this.symm
theorem lst_ge (M : List (Int × Int)) : ∀ k s, -1 ≤ lst M k s
  | 0, s => by show (-1 : Int) ≤ -1; omega
  | k + 1, s => by
    show -1 ≤ lsee k (reachB M k) (lst M k) s
    unfold lsee
    have := lst_ge M k s
    split <;> omega
theorem least_rounds (nm : ByteArray) (A : Option Addr) (n c : Nat) (B : Option Addr) (m d : Nat) (M : List (Int × Int)) (hi b go gO : Nat) (w : World) (hE : lifeE n M = 0) (hh : hi ≤ 1000) (hb : b ≤ go) (h : RL B m n b go gO M w 0 w) :
    Calls Tryd.prog 67 #[lifeV nm A n c B m d, .int .i64 (hi : Int), .func (.func 72) #[] #[.pointer (some ⟨gO, 0, none⟩)]] w fun E W' => (∃ v, E = .returned v) ∧ RL B m n b go gO M w (hi + 1) W' := by
  obtain ⟨hn1, hn12, hm32, hM⟩ := lifeE_ok hE
  have hml := h.mov.mov_len
  have hgo := h.out.lt
  have hbox := h.box.lt
  have hr := rounds_any nm A n c B m d M hi 72 #[.pointer (some ⟨gO, 0, none⟩)] (RL B m n b go gO M w) (RL B m n b go gO M w (hi + 1)) w
    (enters_of Tryd.func72 (by kernel_rfl) rfl) (fun x y hxy => by have := hM x y hxy; omega) (by omega) (by omega)
    (fun k W hJ => hJ.mov.more (by omega))
    (fun k W W' hJ hB => ⟨hJ.mov.below (hB.mono (by omega)), hJ.out.below hB hgo, hJ.box.below hB hbox, fun q hq => (hJ.below q hq).trans (hB.mono (by omega))⟩)
    (fun k W hk hJ => ?_) h
  · refine hr.mono ?_
    rintro E W' ⟨hv, h1 | h1⟩
    · exact ⟨hv, h1⟩
    · exact ⟨hv, h1⟩
  · have hs := leastSee_any n k (reachB M k) (lst M k) go gO W hn12 hJ.out hJ.box
    simp only [List.append_toArray, List.cons_append, List.nil_append]
    refine hs.mono ?_
    rintro E W' ⟨rfl, ho, hg⟩
    have hWs : go < W.heap.size := hJ.out.lt
    have n1 : gO ≠ go := hJ.box.ne_ hJ.out (by decide)
    have ho2 : Blk W' go 3 (rowI (lst M (k + 1)) n) := ho
    have hrl : RL B m n b go gO M w (k + 1) W' := ⟨hJ.mov.below (grown_below hg hb hWs), ho2, hJ.box.grown hg (fun e => n1 (by injection e)), fun q hq => (hJ.below q hq).trans (grown_below hg hq hWs)⟩
    refine ⟨_, rfl, fun _ => hrl, fun e => ⟨hrl.mov, ?_, hrl.box, hrl.below⟩, ⟨hg.size, fun g t cs hB hblk => hblk.grown hg (fun e => ?_)⟩⟩
    · rw [← lst_done hk e (lst_ge M (k + 1))]
      exact ho2
    · injection e with e
      omega
set_option maxRecDepth 100000 in
set_option maxHeartbeats 8000000 in
theorem least_any (nm : ByteArray) (A : Option Addr) (n c : Nat) (B : Option Addr) (m d : Nat) (M : List (Int × Int)) (w : World) (h : Reads w w.heap.size 2 B m (movsV M)) (hE : lifeE n M = 0) :
    Calls Tryd.prog 38 #[lifeV nm A n c B m d] w fun E W' => ∃ go, E = .returned (.slice (some ⟨go, 0, none⟩) n n) ∧ Blk W' go 3 (rowI (lst M (n + 1)) n) ∧ w.heap.size ≤ go ∧ Below w.heap.size w W' := by
  have hml := h.mov_len
  obtain ⟨hn1, hn12, hm32, hM⟩ := lifeE_ok hE
  have hv := fun W (hb : Below w.heap.size w W) => lifeValid_any nm A n c B m d M W ((h.below hb).more hb.size) (by omega) (by omega)
  rw [hE] at hv
  have HV := Lib.hid hv
  have HM2 := Lib.hid (fun W (hb : Below w.heap.size w W) => h.below hb)
  have HE2 := Lib.hid hE
  have b0 := (Below.refl w.heap.size w).alloc (Nat.le_refl _) (.cells #[.string nm, .slice A n c, .slice B m d] 50)
  have k0 := Blk.new w 50 #[.string nm, .slice A n c, .slice B m d]
  clear hv
  go_enter Tryd.func38, Tryd.ntmps38
  go_wp2_with fail
  generalize w.alloc (.cells #[.string nm, .slice A n c, .slice B m d] 50) = w0 at *
  refine (HV.out w0 b0).mono ?_
  rintro E w1 ⟨rfl, b1⟩
  have c1 := below_next b0 b1
  have j0 := k0.thru b1
  have q1 : w1.cell? ⟨w.heap.size, 1, none⟩ = some (.slice A n c) := j0.at_ rfl
  have q2 : (w1.alloc (.cells #[.int .i64 (-1)] 3)).cell? ⟨w.heap.size, 1, none⟩ = some (.slice A n c) := (j0.alloc _).at_ rfl
  have r1 : (w1.alloc (.cells #[.int .i64 (-1)] 3)).cell? ⟨w1.heap.size, 0, none⟩ = some (.int .i64 (-1)) := (Blk.new w1 3 #[.int .i64 (-1)]).at_ rfl
  have j2 := j0.alloc (.cells #[.int .i64 (-1)] 3)
  have c2 := c1.alloc c1.size (.cells #[.int .i64 (-1)] 3)
  have hrp := repeat_any w1.heap.size 1 n (-1) (w1.alloc (.cells #[.int .i64 (-1)] 3)) hn1 hn12 r1 (by simp)
  have HRP := Lib.hid hrp
  clear hrp k0 b0 b1
  go_wp2_with fail
  refine HRP.out.mono ?_
  rintro E w3 ⟨go, rfl, ho, hgo, b3⟩
  have c3 := below_next c2 b3
  have j3 := j2.thru b3
  have hgo2 : w.heap.size ≤ go := Nat.le_trans c2.size hgo
  clear j0 j2 c1 c2 b3 q1 q2 r1
  have a0 : (w3.alloc (.cells #[.slice (some ⟨go, 0, none⟩) n n] 22)).cell? ⟨w.heap.size, 0, none⟩ = some (.string nm) := (j3.alloc _).at_ rfl
  have a1 : (w3.alloc (.cells #[.slice (some ⟨go, 0, none⟩) n n] 22)).cell? ⟨w.heap.size, 1, none⟩ = some (.slice A n c) := (j3.alloc _).at_ rfl
  have a2 : (w3.alloc (.cells #[.slice (some ⟨go, 0, none⟩) n n] 22)).cell? ⟨w.heap.size, 2, none⟩ = some (.slice B m d) := (j3.alloc _).at_ rfl
  have o5 := ho.alloc (.cells #[.slice (some ⟨go, 0, none⟩) n n] 22)
  have x5 := Blk.new w3 22 #[.slice (some ⟨go, 0, none⟩) n n]
  have c5 := c3.alloc c3.size (.cells #[.slice (some ⟨go, 0, none⟩) n n] 22)
  have x6 : (w3.alloc (.cells #[.slice (some ⟨go, 0, none⟩) n n] 22)).cell? ⟨w3.heap.size, 0, none⟩ = some (.slice (some ⟨go, 0, none⟩) n n) := x5.at_ rfl
  have hmf : ∀ (fn : Fn) (first cap : Array Value) (w : World), (Instr.makeFunc fn first cap).run Tryd.prog w = .ok (.func fn first cap) w := fun _ _ _ _ => rfl
  clear j3 ho
  go_wp2_with fail
  generalize w3.alloc (.cells #[.slice (some ⟨go, 0, none⟩) n n] 22) = w5 at *
  generalize w3.heap.size = gO at *
  have o6 : Blk w5 go 3 (rowI (lst M 0) n) := by
    have e : (ints (List.replicate n (-1))).toArray = rowI (lst M 0) n := by
      unfold rowI
      congr 2
      apply List.ext_getElem
      · simp
      · intro i h1 h2
        simp [lst]
    rw [← e]
    exact o5
  have hrr := least_rounds nm A n c B m d M n w.heap.size go gO w5 HE2.out (by omega) hgo2 ⟨HM2.out w5 c5, o6, x5, fun q hq => Below.refl _ _⟩
  have HRR := Lib.hid hrr
  clear hrr o5 o6 x5 x6 a0 a1 a2
  refine HRR.out.mono ?_
  rintro E w6 ⟨⟨v, rfl⟩, hrl⟩
  have hb6 := c5.trans (hrl.below _ hgo2)
  have hbx : w6.cell? ⟨gO, 0, none⟩ = some (.slice (some ⟨go, 0, none⟩) n n) := hrl.box.at_ rfl
  have HO := Lib.hid hrl.out
  clear hrl
  go_wp2_with fail
  go_ret
  exact ⟨go, rfl, HO.out, hgo2, hb6⟩
end Go.Proofs.YtiajlglnefiemaaDoor
