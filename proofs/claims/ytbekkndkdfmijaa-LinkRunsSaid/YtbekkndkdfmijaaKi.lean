/- An end of a link: New, Waiting, Forged, Send, deliver, Out. Conditions: the numbers are small. -/
import Derived.Test.YtbekkndkdfmijaaKh
import Derived.Test.YtbekkndkdfmijaaHq
import Derived.StillTailTactics
import Derived.Deep.AppendLies
import Derived.Deep.RegionLaw
set_option linter.unusedSimpArgs false
set_option linter.unusedVariables false
namespace Go.Proofs.Ytbekkndkdfmijaa
open Go.RowKit

section
variable {w w' : World}
theorem own_not_u8 {base size n : Nat} {e : TypeId} {v : Value} {xs : List Value} (h : w.ownsRow base e size v n xs) (he : e ≠ 5) : ∀ k, v.ownBlock = some k → ∀ cs z, w.heap[k]? ≠ some (.cells cs 5 z) := by
  intro k hk cs z hc
  rcases h.2 with ⟨rfl, -⟩ | ⟨g, cap, cur, rfl, -, hh, -⟩
  · cases hk
  · have : g = k := by simpa [Value.ownBlock] using hk
    subst this
    rw [hh] at hc
    injection hc with hc
    injection hc with _ hc
    exact he hc
theorem U8.grown {row : Option Nat} (hg : w.grownBy w' row) (hr : ∀ k, row = some k → ∀ cs z, w.heap[k]? ≠ some (.cells cs 5 z)) : U8 w w' :=
  ⟨hg.size, fun k cs z e => (hg.block k (Array.getElem?_eq_some_iff.1 e).1 (fun h => hr k h.symm cs z e)).trans e⟩
theorem U8.set {g : Nat} {t : TypeId} {cs : Array Value} (hk : Blk w g t cs) (ht : t ≠ 5) (i : Nat) (u : Value) : U8 w (w.setCell ⟨g, i, none⟩ u) :=
  ⟨by simp [World.setCell], fun k c z e => by
    have hne : k ≠ g := by
      rintro rfl
      unfold Blk at hk
      rw [hk] at e
      injection e with e
      injection e with _ e
      exact ht e
    rw [Below.heap_setCell _ _ _ _ hne]
    exact e⟩
theorem U8.bel (k : Below w.heap.size w w') : U8 w w' := (Fr.of_below k []).u8 (by simp)
theorem U8.alloc (w : World) (o : Obj) : U8 w (w.alloc o) := U8.bel ((Below.refl _ w).alloc (Nat.le_refl _) o)
end
/-- an end's blocks are apart -/
theorem end_apart {w : World} {g h N : Nat} {q : Option Nat} {E : EndV} (H : EndAt w g q h N E) : h ≠ g ∧ ∀ i, q = some i → i ≠ g ∧ i ≠ h := by
  obtain ⟨A, n, c, vs, D, h1, h2, h3, h4, h5, ⟨es, clock, h6, -⟩, h7⟩ := H
  unfold Blk at h1
  refine ⟨fun e => (by rw [e, h1] at h6; injection h6 with h6; cases h6), fun i hi => ?_⟩
  rw [hi] at h4
  rcases h3.2 with ⟨hv, -⟩ | ⟨g', cap, cur, hv, -, hh, -⟩
  · rw [hv] at h4; cases h4
  · rw [hv] at h4
    have : g' = i := by simpa [Value.ownBlock] using h4
    subst this
    refine ⟨fun e => ?_, fun e => ?_⟩
    · rw [e, h1] at hh
      injection hh with hh
      injection hh with _ hh
      exact absurd hh (by decide)
    · rw [e, h6] at hh
      injection hh with hh
      cases hh
theorem zero33 (w : World) : (zeroValue 33).run Try.prog w = .ok (.slice none 0 0) w := by kernel_rfl
/-- an end that was made now -/
abbrev newE (win key : Nat) : EndV := ⟨win, key, [], 0, 0, fun _ => none, false, 0⟩
set_option maxRecDepth 100000 in
set_option maxHeartbeats 4000000 in
theorem new_any (win : Int) (key : Nat) (w : World) (h1 : 1 ≤ win) (h2 : win ≤ 16) :
    Calls Try.prog 28 #[.int .i64 win, .int .u64 (key : Int)] w fun e W' => ∃ g h, e = .returned (.tuple #[.pointer (some ⟨g, 0, none⟩), .int .i64 0]) ∧ EndAt W' g none h 0 (newE win.toNat key) ∧ w.heap.size ≤ g ∧ w.heap.size ≤ h ∧ Below w.heap.size w W' := by
  have hmm := @run_makeMap Try.prog
  have n1 : ¬ win < 1 := by omega
  have n2 : ¬ 16 < win := by omega
  have d1 : decide (win < 1) = false := decide_eq_false n1
  go_enter Try.func28, Try.ntmps28
  go_wp2_with fail
  go_ret2
  obtain ⟨W, rfl⟩ := Int.eq_ofNat_of_zero_le (show 0 ≤ win by omega)
  rw [Int.toNat_natCast]
  have s1 : (w.alloc (.map #[] 0)).heap.size = w.heap.size + 1 := by simp
  have hM := ((World.ownsMap_made (H := Value) w Try.prog 3 hR).alloc (.cells #[.int .i64 (W : Int), .int .u64 (key : Int), .slice none 0 0, .int .i64 0, .int .i64 0, .map (some w.heap.size), .bool false, .int .i64 0] 65))
  have hB : Blk ((w.alloc (.map #[] 0)).alloc (.cells #[.int .i64 (W : Int), .int .u64 (key : Int), .slice none 0 0, .int .i64 0, .int .i64 0, .map (some w.heap.size), .bool false, .int .i64 0] 65)) (w.heap.size + 1) 65 #[.int .i64 (W : Int), .int .u64 (key : Int), .slice none 0 0, .int .i64 0, .int .i64 0, .map (some w.heap.size), .bool false, .int .i64 0] := Blk.new' s1.symm
  exact ⟨w.heap.size + 1, rfl, w.heap.size, ⟨none, 0, 0, [], _, hB, rfl, World.ownsRow_nil _ _ _ _, rfl, Rws.nil_ _, hM, HeldAt.none_ _⟩, by omega, Nat.le_refl _, ((Below.refl _ w).alloc (Nat.le_refl _) _).alloc (by rw [s1]; omega) _⟩
set_option maxRecDepth 100000 in
set_option maxHeartbeats 4000000 in
theorem new_bad (win : Int) (key : Nat) (w : World) (h : win < 1 ∨ 16 < win) :
    Calls Try.prog 28 #[.int .i64 win, .int .u64 (key : Int)] w fun e W' => e = .returned (.tuple #[.pointer none, .int .i64 1]) ∧ Below w.heap.size w W' := by
  by_cases h1 : win < 1
  · have d1 : decide (win < 1) = true := decide_eq_true h1
    go_enter Try.func28, Try.ntmps28
    go_wp2_with fail
    go_ret2
    exact ⟨rfl, Below.refl _ w⟩
  · have d1 : decide (win < 1) = false := decide_eq_false h1
    have h2 : 16 < win := by omega
    go_enter Try.func28, Try.ntmps28
    go_wp2_with fail
    go_ret2
    exact ⟨rfl, Below.refl _ w⟩
set_option maxRecDepth 100000 in
set_option maxHeartbeats 4000000 in
theorem waiting_any (g h N : Nat) (q : Option Nat) (E : EndV) (w : World) (H : EndAt w g q h N E) :
    Calls Try.prog 21 #[.pointer (some ⟨g, 0, none⟩)] w fun e W' => e = .returned (.int .i64 (E.wait.length : Int)) ∧ W' = w := by
  obtain ⟨A, n, c, vs, D, k, rfl, -⟩ := H
  have c2 : w.cell? ⟨g, 2, none⟩ = some (.slice A E.wait.length c) := k.at_ rfl
  go_enter Try.func21, Try.ntmps21
  go_wp2_with fail
  go_ret
  exact ⟨rfl, rfl⟩
set_option maxRecDepth 100000 in
set_option maxHeartbeats 4000000 in
theorem forged_any (g h N : Nat) (q : Option Nat) (E : EndV) (w : World) (H : EndAt w g q h N E) :
    Calls Try.prog 22 #[.pointer (some ⟨g, 0, none⟩)] w fun e W' => e = .returned (.int .i64 (E.forg : Int)) ∧ W' = w := by
  obtain ⟨A, n, c, vs, D, k, rfl, -⟩ := H
  have c7 : w.cell? ⟨g, 7, none⟩ = some (.int .i64 (E.forg : Int)) := k.at_ rfl
  go_enter Try.func22, Try.ntmps22
  go_wp2_with fail
  go_ret
  exact ⟨rfl, rfl⟩
theorem info33 : (Try.prog.info? 33).map (fun i => (i.zero, i.size, i.bytes)) = some (some (.slice none 0 0), 1, 24) := by kernel_rfl
set_option maxRecDepth 100000 in
set_option maxHeartbeats 4000000 in
theorem send_any (g h N : Nat) (q : Option Nat) (E : EndV) (A : Option Addr) (n c : Nat) (l : List UInt8) (w : World) (H : EndAt w g q h N E) (hl : Reads w w.heap.size 1 A n (bytesV l)) (hn : n ≤ 65536) (hw : E.wait.length < 1000) :
    Calls Try.prog 11 #[.pointer (some ⟨g, 0, none⟩), .slice A n c] w fun e W' => ∃ q', e = .returned (.int .i64 0) ∧ EndAt W' g q' h N { E with wait := E.wait ++ [l] } ∧ (q' = q ∨ ∃ i, q' = some i ∧ w.heap.size ≤ i) ∧ Fr (g :: h :: q.toList) w W' := by
  have hap := end_apart H
  obtain ⟨B, m, d, vs, D, k, rfl, ho, hq, hr, hM, hH⟩ := H
  have c2 : w.cell? ⟨g, 2, none⟩ = some (.slice B E.wait.length d) := k.at_ rfl
  obtain ⟨i0, hi, hz0, hz1, hz2⟩ := info_parts info33
  have n1 : ¬ (65536 : Int) < (n : Int) := by omega
  have n2 : ¬ (1000 : Int) ≤ (E.wait.length : Int) := by omega
  have d1 : decide ((65536 : Int) < (n : Int)) = false := decide_eq_false n1
  go_enter Try.func11, Try.ntmps11
  go_wp2_with fail
  have k0 := k.drew
  have S0 : w.drew.cell? ⟨g, 2, none⟩ = some (.slice B E.wait.length d) := c2
  refine wp_region_but (fun W => W.cell? ⟨g, 2, none⟩ = some (.slice B E.wait.length d)) [8] (by kernel_rfl) S0 fun hS0 => ?_
  refine wpBut_pure 0 (v := (.pointer (some ⟨g, 0, none⟩))) rfl (by kernel_rfl) (fun _ _ _ h => h) ⟨by rfl, fun W => ?_⟩ (fun _ => hS0) ?_
  · go_simp
  simp only [Act.put, List.setIfInBounds_toArray, List.set_cons_zero, List.set_cons_succ]
  refine wpBut_pure 1 (v := (.pointer (some ⟨g, 0, none⟩))) rfl (by kernel_rfl) (fun _ _ _ h => h) ⟨by rfl, fun W => ?_⟩ (fun _ => hS0) ?_
  · go_simp
  simp only [Act.put, List.setIfInBounds_toArray, List.set_cons_zero, List.set_cons_succ]
  refine wpBut_pure 2 (v := (.pointer (some ⟨g, 0, none⟩))) rfl (by kernel_rfl) (fun _ _ _ h => h) ⟨by rfl, fun W => ?_⟩ (fun _ => hS0) ?_
  · go_simp
  simp only [Act.put, List.setIfInBounds_toArray, List.set_cons_zero, List.set_cons_succ]
  refine wpBut_pure 3 (v := (.pointer (some ⟨g, 2, none⟩))) rfl (by kernel_rfl) (fun _ _ _ h => h) ⟨by rfl, fun W => ?_⟩ (fun _ => hS0) ?_
  · go_simp
  simp only [Act.put, List.setIfInBounds_toArray, List.set_cons_zero, List.set_cons_succ]
  refine wpBut_take 4 (v := (.slice B E.wait.length d)) rfl (by kernel_rfl) (fun _ _ _ h => h) ⟨by rfl, fun W hW => ?_⟩ hS0 ?_
  · obtain s1 := hW
    go_simp
  simp only [Act.put, List.setIfInBounds_toArray, List.set_cons_zero, List.set_cons_succ]
  refine wpBut_pure 5 (v := (.slice A n c)) rfl (by kernel_rfl) (fun _ _ _ h => h) ⟨by rfl, fun W => ?_⟩ (fun _ => hS0) ?_
  · go_simp
  simp only [Act.put, List.setIfInBounds_toArray, List.set_cons_zero, List.set_cons_succ]
  refine wpBut_one 6 rfl (by kernel_rfl) fun K hK => ?_
  go_simp
  go_at_call 32
  refine (clone_any A n c l w.drew (show Reads w.drew w.drew.heap.size 1 A n (bytesV l) from hl) (by omega)).mono ?_
  rintro E1 w1 ⟨v, rfl, hv, hb⟩
  have hb1 : Below w.heap.size w w1 := ((Below.refl w.heap.size w).drew).trans hb
  have f1 : Fr (g :: q.toList) w w1 := Fr.of_below hb1 _
  have k1 := k.below hb1 k.lt
  have ho1 := own_fr ho (Fr.of_below hb1 []) (by simp)
  have hv1 := Sl.of_own hv
  obtain ⟨A1, c1, rfl, -, -, -⟩ := own_slice hv
  have c21 : w1.cell? ⟨g, 2, none⟩ = some (.slice B E.wait.length d) := k1.at_ rfl
  clear hv hb c2 hS0 S0 k0
  go_simp
  refine hK.out _ _ c21 fun hS1 => ?_
  clear hK K
  refine wpBut_one 7 rfl (by kernel_rfl) fun K hK => ?_
  go_simp
  refine hK.out _ _ ((k1.alloc _).at_ rfl) fun hS2 => ?_
  clear hK K hS1 hS2
  refine wpBut_seq 8 (g := 3) (by decide) (by decide) (by rfl) (by kernel_rfl) ?_
  simp only [List.drop_succ_cons, List.drop_zero]
  have ka := k1.alloc (.cells #[.slice A1 l.length c1] 33)
  have hoa := ho1.alloc (.cells #[.slice A1 l.length c1] 33)
  have hne := own_ne_blk hoa ka (by decide)
  have fa := f1.alloc (.cells #[.slice A1 l.length c1] 33)
  have hsz : w.heap.size ≤ w1.heap.size := hb1.size
  have h1v : ∀ u ∈ [Value.slice A1 l.length c1], u.oneCell' = true := by
    intro u hu
    simp at hu
    subst hu
    rfl
  have HQ := Lib.hid hq
  go_wp2_with (at_builtin; refine wpList_append_own_at _ rfl _ _ 28 rfl 0 33 i0 (.slice none 0 0) 1 24 Try.underlying28 hi hz0 hz1 hz2 rfl (by decide) _ _ _ rfl hoa ⟨w1.heap.size, 0, none⟩ 1 1 [.slice A1 l.length c1] rfl rfl (cell_one_new _ _ _) h1v (by unfold maxLen; omega) (by omega) (Nat.zero_le _) ?_; intro v' w3 ho3 hg3 hnil hat; obtain ⟨A', c', rfl, -, -, -⟩ := own_slice ho3; have k3 := ka.grown hg3 hne; have t2 : w3.cell? ⟨g, 2, none⟩ = some (.slice B E.wait.length d) := k3.at_ rfl; have t3 := k3.frozen 2)
  have hg4 : (w1.alloc (.cells #[.slice A1 l.length c1] 33)).grownBy w3 (Value.slice B E.wait.length d).ownBlock := hg3
  have hat4 : (Value.slice A' (E.wait.length + 1) c').ownBlock = (Value.slice B E.wait.length d).ownBlock ∨ (Value.slice A' (E.wait.length + 1) c').ownBlock = some (w1.alloc (.cells #[.slice A1 l.length c1] 33)).heap.size := hat
  rw [hq] at hg4 hat4
  clear hg3 hat
  go_ret
  have fz := (fa.grown hg4 (fun i e => .inl (by simp [e]))).setCell (p := ⟨g, 2, none⟩) (.inl (by simp)) (.slice A' (E.wait.length + 1) c')
  have kf : Blk (w3.setCell ⟨g, 2, none⟩ (.slice A' (E.wait.length + 1) c')) g 65 (endV { E with wait := E.wait ++ [l] } A' (E.wait.length + 1) c' h) := k3.set_ 2 (.slice A' (E.wait.length + 1) c')
  have u2 : U8 w1 (w3.setCell ⟨g, 2, none⟩ (.slice A' (E.wait.length + 1) c')) := ((U8.alloc w1 _).trans (U8.grown hg4 (fun k e => own_not_u8 hoa (by decide) k (hq.trans e)))).trans (U8.set k3 (by decide) 2 _)
  have u1 := (U8.bel hb1).trans u2
  have hne3 := own_ne_blk ho3 k3 (by decide)
  have hof := own_fr ho3 ((Fr.refl [g] w3).setCell (p := ⟨g, 2, none⟩) (.inl (by simp)) (.slice A' (E.wait.length + 1) c')) (fun i e hm => hne3 (by simp at hm; rw [e, hm]))
  refine ⟨_, rfl, ⟨A', E.wait.length + 1, c', _, D, kf, by simp, hof, rfl, (hr.u8 u1).snoc (hv1.u8 u2), map_fr hM fz (fun hm => ?_), hH.u8 u1⟩, ?_, fz.mono (fun i hi => by simp at hi ⊢; rcases hi with h | h; exact .inl h; exact .inr (.inr h))⟩
  · simp at hm
    rcases hm with h | h
    · exact hap.1 h
    · exact (hap.2 _ h).2 rfl
  · rcases hat4 with h | h
    · exact .inl h
    · exact .inr ⟨_, h, by simp; omega⟩
end Go.Proofs.Ytbekkndkdfmijaa
