/- Send (11) and Out (13) again, with the rows of the waiting messages named: new bytes lie in new blocks. No condition. -/
import Derived.Test.YtbekkndkdfmijaaKz
set_option linter.unusedSimpArgs false
set_option linter.unusedVariables false
namespace Go.Proofs.Ytbekkndkdfmijaa
open Go.RowKit

/-- an end, its rows named -/
def EndVs (w : World) (g : Nat) (q : Option Nat) (h N : Nat) (E : EndV) (vs : List Value) : Prop :=
  ∃ A n c D, Blk w g 65 (endV E A n c h) ∧ n = E.wait.length ∧ w.ownsRow 0 33 1 (.slice A n c) n vs ∧ (Value.slice A n c).ownBlock = q ∧ Rws w vs E.wait ∧
    w.ownsMap Try.prog 3 hR h N D ∧ HeldAt w D E.held
theorem EndVs.at_ {w : World} {g h N : Nat} {q : Option Nat} {E : EndV} {vs : List Value} (H : EndVs w g q h N E vs) : EndAt w g q h N E := by
  obtain ⟨A, n, c, D, r⟩ := H
  exact ⟨A, n, c, vs, D, r⟩
theorem EndAt.vs {w : World} {g h N : Nat} {q : Option Nat} {E : EndV} (H : EndAt w g q h N E) : ∃ vs, EndVs w g q h N E vs := by
  obtain ⟨A, n, c, vs, D, r⟩ := H
  exact ⟨vs, A, n, c, D, r⟩
theorem EndVs.bel {w w' : World} {g h N : Nat} {q : Option Nat} {E : EndV} {vs : List Value} (H : EndVs w g q h N E vs) (k : Below w.heap.size w w') : EndVs w' g q h N E vs := by
  have f := Fr.of_below k []
  have u := f.u8 (by simp)
  obtain ⟨A, n, c, D, h1, h2, h3, h4, h5, h6, h7⟩ := H
  exact ⟨A, n, c, D, h1.fr f (by simp), h2, own_fr h3 f (fun i e => by simp), h4, h5.u8 u, map_fr h6 f (by simp), h7.u8 u⟩
theorem EndVs.set6 {w : World} {g h N : Nat} {q : Option Nat} {E : EndV} {vs : List Value} (H : EndVs w g q h N E vs) (b : Bool) : EndVs (w.setCell ⟨g, 6, none⟩ (.bool b)) g q h N { E with owe := b } vs := by
  have hap := end_apart H.at_
  obtain ⟨A, n, c, D, h1, h2, h3, h4, h5, h6, h7⟩ := H
  have u := U8.set h1 (by decide) 6 (.bool b)
  exact ⟨A, n, c, D, h1.set_ 6 (.bool b), h2, own_fr h3 ((Fr.refl [g] w).setCell (p := ⟨g, 6, none⟩) (.inl (by simp)) _) (fun i e hm => by rw [h4] at e; simp at hm; exact (hap.2 i e).1 hm), h4, h5.u8 u, h6.setCell (a := ⟨g, 6, none⟩) hap.1 _, h7.u8 u⟩
/-- a slice that lies in no block ahead of B -/
def NewV (B : Nat) (u : Value) : Prop := ∀ ad n c, u = .slice (some ad) n c → B ≤ ad.block
/-- a slice that does not lie in block b -/
def NotB (b : Nat) (u : Value) : Prop := ∀ ad n c, u = .slice (some ad) n c → ad.block ≠ b
theorem NewV.mono {B B' : Nat} {u : Value} (h : NewV B u) (hb : B' ≤ B) : NewV B' u := fun ad n c e => Nat.le_trans hb (h ad n c e)
theorem NewV.snoc {B : Nat} {vs : List Value} {u : Value} (h : ∀ v ∈ vs, NewV B v) (hu : NewV B u) : ∀ v ∈ vs ++ [u], NewV B v := fun v hv => by
  rcases List.mem_append.1 hv with hv | hv
  · exact h v hv
  · simp at hv; subst hv; exact hu
theorem NewV.notB {B b : Nat} {u : Value} (h : NewV B u) (hb : b < B) : NotB b u := fun ad n c e => by have := h ad n c e; omega
/-- rows of bytes, each of our own, in blocks of their own -/
def OwnsAll (W : World) (B : Nat) (ws : List Value) (ls : List (List UInt8)) : Prop :=
  ws.length = ls.length ∧ (∀ (j : Nat) u l, ws[j]? = some u → ls[j]? = some l → W.ownsRow B 5 1 u l.length (bytesV l)) ∧ ws.Pairwise (fun u v => ∀ b, u.ownBlock = some b → v.ownBlock ≠ some b)
theorem own_u8 {W W' : World} {B n : Nat} {u : Value} {xs : List Value} (h : W.ownsRow B 5 1 u n xs) (k : U8 W W') : W'.ownsRow B 5 1 u n xs := by
  refine ⟨h.1, ?_⟩
  rcases h.2 with h0 | ⟨g, cap, cur, rfl, hb, hh, r⟩
  · exact .inl h0
  · exact .inr ⟨g, cap, cur, rfl, hb, k.2 g _ _ hh, r⟩
theorem OwnsAll.nil_ (W : World) (B : Nat) : OwnsAll W B [] [] := ⟨rfl, fun j u l h => by simp at h, List.Pairwise.nil⟩
theorem OwnsAll.u8 {W W' : World} {B : Nat} {ws : List Value} {ls : List (List UInt8)} (h : OwnsAll W B ws ls) (k : U8 W W') : OwnsAll W' B ws ls := ⟨h.1, fun j u l h1 h2 => own_u8 (h.2.1 j u l h1 h2) k, h.2.2⟩
theorem OwnsAll.snoc {W W' : World} {B B' : Nat} {ws : List Value} {ls : List (List UInt8)} {u : Value} {l : List UInt8} (h : OwnsAll W B ws ls) (k : U8 W W') (hu : W'.ownsRow B' 5 1 u l.length (bytesV l)) (h1 : W.heap.size ≤ B') (h2 : B ≤ B') : OwnsAll W' B (ws ++ [u]) (ls ++ [l]) := by
  have hl := h.1
  refine ⟨by simp [hl], fun j v m hj hm => ?_, ?_⟩
  · by_cases e : j < ws.length
    · rw [List.getElem?_append_left e] at hj
      rw [List.getElem?_append_left (by omega)] at hm
      exact own_u8 (h.2.1 j v m hj hm) k
    · have hj2 := (List.getElem?_eq_some_iff.1 hj).1
      obtain rfl : j = ws.length := by simp at hj2; omega
      rw [List.getElem?_append_right (Nat.le_refl _), Nat.sub_self] at hj
      rw [hl, List.getElem?_append_right (Nat.le_refl _), Nat.sub_self] at hm
      simp at hj hm
      subst hj hm
      exact own_le hu h2
  · rw [List.pairwise_append]
    refine ⟨h.2.2, by simp, fun v hv x hx b hb e => ?_⟩
    simp at hx
    subst hx
    obtain ⟨j, hj⟩ := List.getElem?_of_mem hv
    have hj2 := (List.getElem?_eq_some_iff.1 hj).1
    have h3 := ((h.2.1 j v _ hj (List.getElem?_eq_getElem (by omega))).lt b hb).2
    have h4 := (hu.lt b e).1
    omega
/-- a byte written into a block where no message lies -/
theorem EndVs.poke {w : World} {g h N b : Nat} {q : Option Nat} {E : EndV} {vs : List Value} {cs : Array Value} (H : EndVs w g q h N E vs) (hn : ∀ s, E.held s = none) (hv : ∀ u ∈ vs, NotB b u) (hb : Blk w b 5 cs) (i : Nat) (x : Value) : EndVs (w.setCell ⟨b, i, none⟩ x) g q h N E vs := by
  have hnu := H.at_.not_u8
  have hbg : ∀ j, j ∈ g :: h :: q.toList → j ≠ b := fun j hj e => by subst e; exact hnu _ hj _ _ hb
  obtain ⟨A, n, c, D, h1, h2, h3, h4, h5, h6, h7⟩ := H
  have f := (Fr.refl [b] w).setCell (p := ⟨b, i, none⟩) (.inl (by simp)) x
  refine ⟨A, n, c, D, h1.fr f (by simpa using hbg g (by simp)), h2, own_fr h3 f (fun j e hm => by simp at hm; exact hbg j (by rw [h4] at e; simp [e]) hm), h4, ⟨h5.1, fun j v l hj hl => ?_⟩, map_fr h6 f (by simpa using hbg h (by simp)), fun k => ⟨fun l hl => (by rw [hn] at hl; cases hl), (h7 k).2⟩⟩
  obtain ⟨A1, n1, c1, rfl, hc1, hy⟩ := h5.2 j v l hj hl
  refine ⟨A1, n1, c1, rfl, hc1, hy.1, fun h0 => ?_⟩
  obtain ⟨ad, cs1, z, rfl, hk, hc⟩ := hy.2 h0
  have hne : ad.block ≠ b := hv _ (List.mem_of_getElem? hj) ad n1 c1 rfl
  have hbl := f.block ad.block (Array.getElem?_eq_some_iff.1 hk).1 (by simpa using hne)
  refine ⟨ad, cs1, z, rfl, hbl.trans hk, fun j u hu => ?_⟩
  have := hc j u hu
  unfold World.cell? at this ⊢
  rw [show (ad.add j).block = ad.block by simp only [Addr.add]; split <;> rfl] at this ⊢
  rw [hbl]
  exact this
set_option maxRecDepth 100000 in
set_option maxHeartbeats 4000000 in
theorem send_vs (g h N : Nat) (q : Option Nat) (E : EndV) (A : Option Addr) (n c : Nat) (l : List UInt8) (vs : List Value) (w : World) (H : EndVs w g q h N E vs) (hl : Reads w w.heap.size 1 A n (bytesV l)) (hn : n ≤ 65536) (hw : E.wait.length < 1000) :
    Calls Try.prog 11 #[.pointer (some ⟨g, 0, none⟩), .slice A n c] w fun e W' => ∃ q' A1 c1, e = .returned (.int .i64 0) ∧ EndVs W' g q' h N { E with wait := E.wait ++ [l] } (vs ++ [.slice A1 l.length c1]) ∧ NewV w.heap.size (.slice A1 l.length c1) ∧ (q' = q ∨ ∃ i, q' = some i ∧ w.heap.size ≤ i) ∧ Fr (g :: h :: q.toList) w W' := by
  have hap := end_apart H.at_
  obtain ⟨B, m, d, D, k, rfl, ho, hq, hr, hM, hH⟩ := H
  have c2 : w.cell? ⟨g, 2, none⟩ = some (.slice B E.wait.length d) := k.at_ rfl
  obtain ⟨i0, hi, hz0, hz1, hz2⟩ := info_parts info33
  have n1 : ¬ (65536 : Int) < (n : Int) := by omega
  have n2 : ¬ (1000 : Int) ≤ (E.wait.length : Int) := by omega
  have d1 : decide ((65536 : Int) < (n : Int)) = false := decide_eq_false n1
  go_enter Try.func11, Try.ntmps11
  go_wp2_with fail
  have k0 := k.drew
  have S0 : w.drew.cell? ⟨g, 2, none⟩ = some (.slice B E.wait.length d) := c2
  refine wp_region_but (fun W => W.cell? ⟨g, 2, none⟩ = some (.slice B E.wait.length d)) [8] (by kernel_rfl) S0 fun hS0 => ?_
  refine wpBut_pure 0 (v := (.pointer (some ⟨g, 0, none⟩))) rfl (by kernel_rfl) (fun _ _ _ h => h) ⟨by rfl, fun W => ?_⟩ (fun _ => hS0) ?_
  · go_simp
  simp only [Act.put, List.setIfInBounds_toArray, List.set_cons_zero, List.set_cons_succ]
  refine wpBut_pure 1 (v := (.pointer (some ⟨g, 0, none⟩))) rfl (by kernel_rfl) (fun _ _ _ h => h) ⟨by rfl, fun W => ?_⟩ (fun _ => hS0) ?_
  · go_simp
  simp only [Act.put, List.setIfInBounds_toArray, List.set_cons_zero, List.set_cons_succ]
  refine wpBut_pure 2 (v := (.pointer (some ⟨g, 0, none⟩))) rfl (by kernel_rfl) (fun _ _ _ h => h) ⟨by rfl, fun W => ?_⟩ (fun _ => hS0) ?_
  · go_simp
  simp only [Act.put, List.setIfInBounds_toArray, List.set_cons_zero, List.set_cons_succ]
  refine wpBut_pure 3 (v := (.pointer (some ⟨g, 2, none⟩))) rfl (by kernel_rfl) (fun _ _ _ h => h) ⟨by rfl, fun W => ?_⟩ (fun _ => hS0) ?_
  · go_simp
  simp only [Act.put, List.setIfInBounds_toArray, List.set_cons_zero, List.set_cons_succ]
  refine wpBut_take 4 (v := (.slice B E.wait.length d)) rfl (by kernel_rfl) (fun _ _ _ h => h) ⟨by rfl, fun W hW => ?_⟩ hS0 ?_
  · obtain s1 := hW
    go_simp
  simp only [Act.put, List.setIfInBounds_toArray, List.set_cons_zero, List.set_cons_succ]
  refine wpBut_pure 5 (v := (.slice A n c)) rfl (by kernel_rfl) (fun _ _ _ h => h) ⟨by rfl, fun W => ?_⟩ (fun _ => hS0) ?_
  · go_simp
  simp only [Act.put, List.setIfInBounds_toArray, List.set_cons_zero, List.set_cons_succ]
  refine wpBut_one 6 rfl (by kernel_rfl) fun K hK => ?_
  go_simp
  go_at_call 32
  refine (clone_any A n c l w.drew (show Reads w.drew w.drew.heap.size 1 A n (bytesV l) from hl) (by omega)).mono ?_
  rintro E1 w1 ⟨v, rfl, hv, hb⟩
  have hb1 : Below w.heap.size w w1 := ((Below.refl w.heap.size w).drew).trans hb
  have f1 : Fr (g :: q.toList) w w1 := Fr.of_below hb1 _
  have k1 := k.below hb1 k.lt
  have ho1 := own_fr ho (Fr.of_below hb1 []) (by simp)
  have hv1 := Sl.of_own hv
  obtain ⟨A1, c1, rfl, -, hA1, -⟩ := own_slice hv
  have HA1 := Lib.hid hA1
  clear hA1
  have c21 : w1.cell? ⟨g, 2, none⟩ = some (.slice B E.wait.length d) := k1.at_ rfl
  clear hv hb c2 hS0 S0 k0
  go_simp
  refine hK.out _ _ c21 fun hS1 => ?_
  clear hK K
  refine wpBut_one 7 rfl (by kernel_rfl) fun K hK => ?_
  go_simp
  refine hK.out _ _ ((k1.alloc _).at_ rfl) fun hS2 => ?_
  clear hK K hS1 hS2
  refine wpBut_seq 8 (g := 3) (by decide) (by decide) (by rfl) (by kernel_rfl) ?_
  simp only [List.drop_succ_cons, List.drop_zero]
  have ka := k1.alloc (.cells #[.slice A1 l.length c1] 33)
  have hoa := ho1.alloc (.cells #[.slice A1 l.length c1] 33)
  have hne := own_ne_blk hoa ka (by decide)
  have fa := f1.alloc (.cells #[.slice A1 l.length c1] 33)
  have hsz : w.heap.size ≤ w1.heap.size := hb1.size
  have h1v : ∀ u ∈ [Value.slice A1 l.length c1], u.oneCell' = true := by
    intro u hu
    simp at hu
    subst hu
    rfl
  have HQ := Lib.hid hq
  go_wp2_with (at_builtin; refine wpList_append_own_at _ rfl _ _ 28 rfl 0 33 i0 (.slice none 0 0) 1 24 Try.underlying28 hi hz0 hz1 hz2 rfl (by decide) _ _ _ rfl hoa ⟨w1.heap.size, 0, none⟩ 1 1 [.slice A1 l.length c1] rfl rfl (cell_one_new _ _ _) h1v (by unfold maxLen; omega) (by omega) (Nat.zero_le _) ?_; intro v' w3 ho3 hg3 hnil hat; obtain ⟨A', c', rfl, -, -, -⟩ := own_slice ho3; have k3 := ka.grown hg3 hne; have t2 : w3.cell? ⟨g, 2, none⟩ = some (.slice B E.wait.length d) := k3.at_ rfl; have t3 := k3.frozen 2)
  have hg4 : (w1.alloc (.cells #[.slice A1 l.length c1] 33)).grownBy w3 (Value.slice B E.wait.length d).ownBlock := hg3
  have hat4 : (Value.slice A' (E.wait.length + 1) c').ownBlock = (Value.slice B E.wait.length d).ownBlock ∨ (Value.slice A' (E.wait.length + 1) c').ownBlock = some (w1.alloc (.cells #[.slice A1 l.length c1] 33)).heap.size := hat
  rw [hq] at hg4 hat4
  clear hg3 hat
  go_ret
  have fz := (fa.grown hg4 (fun i e => .inl (by simp [e]))).setCell (p := ⟨g, 2, none⟩) (.inl (by simp)) (.slice A' (E.wait.length + 1) c')
  have kf : Blk (w3.setCell ⟨g, 2, none⟩ (.slice A' (E.wait.length + 1) c')) g 65 (endV { E with wait := E.wait ++ [l] } A' (E.wait.length + 1) c' h) := k3.set_ 2 (.slice A' (E.wait.length + 1) c')
  have u2 : U8 w1 (w3.setCell ⟨g, 2, none⟩ (.slice A' (E.wait.length + 1) c')) := ((U8.alloc w1 _).trans (U8.grown hg4 (fun k e => own_not_u8 hoa (by decide) k (hq.trans e)))).trans (U8.set k3 (by decide) 2 _)
  have u1 := (U8.bel hb1).trans u2
  have hne3 := own_ne_blk ho3 k3 (by decide)
  have hof := own_fr ho3 ((Fr.refl [g] w3).setCell (p := ⟨g, 2, none⟩) (.inl (by simp)) (.slice A' (E.wait.length + 1) c')) (fun i e hm => hne3 (by simp at hm; rw [e, hm]))
  refine ⟨_, A1, c1, rfl, ⟨A', E.wait.length + 1, c', D, kf, by simp, hof, rfl, (hr.u8 u1).snoc (hv1.u8 u2), map_fr hM fz (fun hm => ?_), hH.u8 u1⟩, fun ad _ _ e => (by injection e with e; exact HA1.out ad e), ?_, fz.mono (fun i hi => by simp at hi ⊢; rcases hi with h | h; exact .inl h; exact .inr (.inr h))⟩
  · simp at hm
    rcases hm with h | h
    · exact hap.1 h
    · exact (hap.2 _ h).2 rfl
  · rcases hat4 with h | h
    · exact .inl h
    · exact .inr ⟨_, h, by simp; omega⟩
theorem wSeal_r (key : Nat) (A : Option Addr) (n c : Nat) (l : List UInt8) (w : World) (hk : key < 18446744073709551616) (hl : Reads w w.heap.size 1 A n (bytesV l)) (hn : n ≤ 1000000) :
    Calls Try.prog 24 #[.int .u64 (key : Int), .slice A n c] w fun e W' => ∃ A1 n1 c1, e = .returned (.slice A1 n1 c1) ∧ Hid (Sl W' (.slice A1 n1 c1) (sealL key l) ∧ W'.ownsRow w.heap.size 5 1 (.slice A1 n1 c1) (sealL key l).length (bytesV (sealL key l))) ∧ Below w.heap.size w W' := by
  refine (wSeal_any key A n c l w hk hl hn).mono ?_
  rintro e W' ⟨v, rfl, ho, hb⟩
  have hs := Sl.of_own ho
  have ho2 := ho
  obtain ⟨A1, c1, rfl, -, hA1, -⟩ := own_slice ho
  exact ⟨A1, _, c1, rfl, Lib.hid ⟨hs, ho2⟩, hb⟩
set_option maxRecDepth 100000 in
set_option maxHeartbeats 16000000 in
theorem out_vs (g h N : Nat) (q : Option Nat) (E : EndV) (rs : List Value) (w : World) (H : EndVs w g q h N E rs) (hack : E.ack ≤ 1000000) (hgot : E.got ≤ 1000000) (hkey : E.key < 18446744073709551616) (hw0 : 1 ≤ E.win) (hw : E.win ≤ 16) (hmsg : ∀ l ∈ E.wait, l.length ≤ 1000) (hwl : E.wait.length ≤ 1000) :
    Calls Try.prog 13 #[.pointer (some ⟨g, 0, none⟩)] w fun e W' => ∃ v vs, e = .returned v ∧ W'.ownsRow w.heap.size 33 1 v vs.length vs ∧ Rws W' vs (outF E) ∧ EndVs W' g q h N { E with owe := false } rs ∧ Fr [g] w W' ∧ OwnsAll W' w.heap.size vs (outF E) := by
  obtain ⟨i0, hi, hz0, hz1, hz2⟩ := info_parts info33
  have hap := end_apart H.at_
  have hlt := H.at_.lt
  have H0 := H
  obtain ⟨B, m, d, D, k, hm, ho, hq, hr, hM, hH⟩ := H
  have hmc : m ≤ d := by
    obtain ⟨_, _, e, hc, -, -⟩ := own_slice ho
    injection e with _ _ e
    omega
  have c0 : w.cell? ⟨g, 0, none⟩ = some (.int .i64 (E.win : Int)) := k.at_ rfl
  have c2 : w.cell? ⟨g, 2, none⟩ = some (.slice B m d) := k.at_ rfl
  obtain ⟨M, hM0⟩ : ∃ M, M = outN E := ⟨_, rfl⟩
  have k00 := k
  have hgl := hlt g (by simp)
  have hclose : ∀ (wr : World) (v : Value) (n : Nat) (ws : List Value), Ok w wr → wr.ownsRow w.heap.size 33 1 v n ws → Rws wr ws (outF E) → OwnsAll wr w.heap.size ws (outF E) → (wr.setCell ⟨g, 6, none⟩ (.bool false)).ownsRow w.heap.size 33 1 v ws.length ws ∧ Rws (wr.setCell ⟨g, 6, none⟩ (.bool false)) ws (outF E) ∧ EndVs (wr.setCell ⟨g, 6, none⟩ (.bool false)) g q h N { E with owe := false } rs ∧ Fr [g] w (wr.setCell ⟨g, 6, none⟩ (.bool false)) ∧ OwnsAll (wr.setCell ⟨g, 6, none⟩ (.bool false)) w.heap.size ws (outF E) := fun wr v n ws hok ow rw_ hnw => by
    have hl : ws.length = n := by have := ow.1; omega
    rw [hl]
    exact ⟨own_fr ow ((Fr.refl [g] wr).setCell (p := ⟨g, 6, none⟩) (.inl (by simp)) _) (fun i e hm => by have := (ow.lt i e).1; simp at hm; omega), rw_.u8 (U8.set (k00.ok hok) (by decide) 6 _), (H0.bel hok).set6 false, (Fr.of_below hok [g]).setCell (p := ⟨g, 6, none⟩) (.inl (by simp)) _, hnw.u8 (U8.set (k00.ok hok) (by decide) 6 _)⟩
  have HCL := Lib.hid hclose
  clear hclose
  have hM1 : M ≤ m := by rw [hM0, hm]; exact Nat.min_le_left _ _
  have hM2 : M ≤ 16 := by rw [hM0]; unfold outN; omega
  have hmm : (if (E.win : Int) < (m : Int) then (E.win : Int) else (m : Int)) = (M : Int) := by rw [hM0, hm]; unfold outN; split <;> omega
  have hmin := fun ts t W => run_min_int2 (P := Try.prog) (w := W) ts t .i64 .i64 (m : Int) (E.win : Int)
  rw [hmm] at hmin
  have hs1 : (M : Int) ≤ (d : Int) := by omega
  have hs2 : (0 : Int) ≤ (M : Int) := by omega
  have hs3 : M ≤ d := by omega
  have HM0 := Lib.hid hM0
  have HMW := Lib.hid hm
  clear hM0 hmm hm
  go_enter Try.func13, Try.ntmps13
  go_wp2_with fail
  go_quiet (fail)
  go_wp2_with fail
  go_loopw [3, 22] (fun v i wr => ∃ (j : Nat) (ws : List Value), j ≤ M ∧ i = .int .i64 (j : Int) ∧ wr.ownsRow w.heap.size 33 1 v j ws ∧ Rws wr ws (outTo E j) ∧ Ok w wr ∧ OwnsAll wr w.heap.size ws (outTo E j)) (fun _ i _ => M - (intOf i).toNat)
  case atStart => exact ⟨0, [], by omega, rfl, World.ownsRow_nil _ _ _ _, Rws.nil_ _, (Ok.refl w).drewN nq, OwnsAll.nil_ _ _⟩
  case round =>
    obtain ⟨j, ws, hj, rfl, ow, rw_, hok, hnw⟩ := hrel
    have HNW := Lib.hid hnw
    clear hnw
    obtain ⟨A3, c3, rfl, -, -, -⟩ := own_slice ow
    by_cases hlt2 : j < M
    · have hji : (j : Int) < (M : Int) := by omega
      have hBb : ∃ b, B = some ⟨b, 0, none⟩ := by
        obtain ⟨gb, cb, hv, -⟩ := ho.form (by omega)
        injection hv with hv _ _
        exact ⟨gb, hv⟩
      obtain ⟨b, rfl⟩ := hBb
      have hu := U8.bel hok
      have hmw := HMW.out
      obtain ⟨X, y, z, cx, hyz, hby⟩ := msg_at (own_ok ho hok) (hr.u8 hu) hmw (j := j) (by omega)
      have hl0 : (E.wait[j]?.getD []).length ≤ 1000 := by
        rw [List.getElem?_eq_getElem (by omega)]
        exact hmsg _ (List.getElem_mem _)
      have hy : y ≤ 100000 := by have := hby.1; omega
      have hX := Lib.hid (show Reads wr.drew wr.drew.heap.size 1 X y (bytesV (E.wait[j]?.getD [])) from hby.reads)
      have hsucc := Lib.hid (outTo_succ E j)
      generalize E.wait[j]?.getD [] = l0 at *
      have hI1 : I64 ((E.ack : Int) + (j : Int) + 1) := by unfold I64; omega
      have hI2 : I64 (E.got : Int) := by unfold I64; omega
      have hw1 : IntKind.i64.wrap ((E.ack : Int) + (j : Int)) = (E.ack : Int) + (j : Int) := by rw [IntKind.wrap_i64]; omega
      have hw2 : IntKind.i64.wrap ((E.ack : Int) + (j : Int) + 1) = (E.ack : Int) + (j : Int) + 1 := by rw [IntKind.wrap_i64]; omega
      have k := k.ok hok
      clear hby hmw
      go_wp2_with fail
      have S0 : wr.drew.cell? ⟨g, 1, none⟩ = some (.int .u64 (E.key : Int)) ∧ wr.drew.cell? ⟨g, 3, none⟩ = some (.int .i64 (E.ack : Int)) ∧ wr.drew.cell? ⟨g, 4, none⟩ = some (.int .i64 (E.got : Int)) := ⟨k.at_ rfl, k.at_ rfl, k.at_ rfl⟩
      refine wp_region_but (fun W => W.cell? ⟨g, 1, none⟩ = some (.int .u64 (E.key : Int)) ∧ W.cell? ⟨g, 3, none⟩ = some (.int .i64 (E.ack : Int)) ∧ W.cell? ⟨g, 4, none⟩ = some (.int .i64 (E.got : Int))) [21] (by kernel_rfl) S0 fun hS0 => ?_
      refine wpBut_pure 0 (v := (.slice A3 j c3)) rfl (by kernel_rfl) (fun _ _ _ h => h) ⟨by rfl, fun W => ?_⟩ (fun _ => hS0) ?_
      · go_simp
      simp only [Act.put, List.setIfInBounds_toArray, List.set_cons_zero, List.set_cons_succ]
      refine wpBut_pure 1 (v := (.pointer (some ⟨g, 0, none⟩))) rfl (by kernel_rfl) (fun _ _ _ h => h) ⟨by rfl, fun W => ?_⟩ (fun _ => hS0) ?_
      · go_simp
      simp only [Act.put, List.setIfInBounds_toArray, List.set_cons_zero, List.set_cons_succ]
      refine wpBut_pure 2 (v := (.pointer (some ⟨g, 0, none⟩))) rfl (by kernel_rfl) (fun _ _ _ h => h) ⟨by rfl, fun W => ?_⟩ (fun _ => hS0) ?_
      · go_simp
      simp only [Act.put, List.setIfInBounds_toArray, List.set_cons_zero, List.set_cons_succ]
      refine wpBut_pure 3 (v := (.pointer (some ⟨g, 1, none⟩))) rfl (by kernel_rfl) (fun _ _ _ h => h) ⟨by rfl, fun W => ?_⟩ (fun _ => hS0) ?_
      · go_simp
      simp only [Act.put, List.setIfInBounds_toArray, List.set_cons_zero, List.set_cons_succ]
      refine wpBut_takeF 4 6 (v := (.int .u64 (E.key : Int))) rfl (by kernel_rfl) (fun _ _ _ h => h) ⟨by rfl, fun W hW => ?_⟩ hS0 ?_
      · obtain ⟨s1, s3, s4⟩ := hW
        go_simp
      simp only [Act.put, List.setIfInBounds_toArray, List.set_cons_zero, List.set_cons_succ]
      refine wpBut_pure 5 (v := (.pointer (some ⟨g, 0, none⟩))) rfl (by kernel_rfl) (fun _ _ _ h => h) ⟨by rfl, fun W => ?_⟩ (fun _ => hS0) ?_
      · go_simp
      simp only [Act.put, List.setIfInBounds_toArray, List.set_cons_zero, List.set_cons_succ]
      refine wpBut_pure 6 (v := (.pointer (some ⟨g, 0, none⟩))) rfl (by kernel_rfl) (fun _ _ _ h => h) ⟨by rfl, fun W => ?_⟩ (fun _ => hS0) ?_
      · go_simp
      simp only [Act.put, List.setIfInBounds_toArray, List.set_cons_zero, List.set_cons_succ]
      refine wpBut_pure 7 (v := (.pointer (some ⟨g, 3, none⟩))) rfl (by kernel_rfl) (fun _ _ _ h => h) ⟨by rfl, fun W => ?_⟩ (fun _ => hS0) ?_
      · go_simp
      simp only [Act.put, List.setIfInBounds_toArray, List.set_cons_zero, List.set_cons_succ]
      refine wpBut_takeF 8 6 (v := (.int .i64 (E.ack : Int))) rfl (by kernel_rfl) (fun _ _ _ h => h) ⟨by rfl, fun W hW => ?_⟩ hS0 ?_
      · obtain ⟨s1, s3, s4⟩ := hW
        go_simp
      simp only [Act.put, List.setIfInBounds_toArray, List.set_cons_zero, List.set_cons_succ]
      refine wpBut_pure 9 (v := (.int .i64 (j : Int))) rfl (by kernel_rfl) (fun _ _ _ h => h) ⟨by rfl, fun W => ?_⟩ (fun _ => hS0) ?_
      · go_simp
      simp only [Act.put, List.setIfInBounds_toArray, List.set_cons_zero, List.set_cons_succ]
      refine wpBut_pure 10 (v := (.int .i64 ((E.ack : Int) + (j : Int)))) rfl (by kernel_rfl) (fun _ _ _ h => h) ⟨by rfl, fun W => ?_⟩ (fun _ => hS0) ?_
      · go_simp
      simp only [Act.put, List.setIfInBounds_toArray, List.set_cons_zero, List.set_cons_succ]
      refine wpBut_pure 11 (v := (.int .i64 ((E.ack : Int) + (j : Int) + 1))) rfl (by kernel_rfl) (fun _ _ _ h => h) ⟨by rfl, fun W => ?_⟩ (fun _ => hS0) ?_
      · go_simp
      simp only [Act.put, List.setIfInBounds_toArray, List.set_cons_zero, List.set_cons_succ]
      refine wpBut_pure 12 (v := (.pointer (some ⟨g, 0, none⟩))) rfl (by kernel_rfl) (fun _ _ _ h => h) ⟨by rfl, fun W => ?_⟩ (fun _ => hS0) ?_
      · go_simp
      simp only [Act.put, List.setIfInBounds_toArray, List.set_cons_zero, List.set_cons_succ]
      refine wpBut_pure 13 (v := (.pointer (some ⟨g, 0, none⟩))) rfl (by kernel_rfl) (fun _ _ _ h => h) ⟨by rfl, fun W => ?_⟩ (fun _ => hS0) ?_
      · go_simp
      simp only [Act.put, List.setIfInBounds_toArray, List.set_cons_zero, List.set_cons_succ]
      refine wpBut_pure 14 (v := (.pointer (some ⟨g, 4, none⟩))) rfl (by kernel_rfl) (fun _ _ _ h => h) ⟨by rfl, fun W => ?_⟩ (fun _ => hS0) ?_
      · go_simp
      simp only [Act.put, List.setIfInBounds_toArray, List.set_cons_zero, List.set_cons_succ]
      refine wpBut_takeF 15 6 (v := (.int .i64 (E.got : Int))) rfl (by kernel_rfl) (fun _ _ _ h => h) ⟨by rfl, fun W hW => ?_⟩ hS0 ?_
      · obtain ⟨s1, s3, s4⟩ := hW
        go_simp
      simp only [Act.put, List.setIfInBounds_toArray, List.set_cons_zero, List.set_cons_succ]
      refine wpBut_pure 16 (v := (.slice X y z)) rfl (by kernel_rfl) (fun _ _ _ h => h) ⟨by rfl, fun W => ?_⟩ (fun _ => hS0) ?_
      · go_simp
      simp only [Act.put, List.setIfInBounds_toArray, List.set_cons_zero, List.set_cons_succ]
      refine wpBut_pure 17 (v := (.agg #[.int .i64 ((E.ack : Int) + (j : Int) + 1), .int .i64 (E.got : Int), .slice X y z])) rfl (by kernel_rfl) (fun _ _ _ h => h) ⟨by rfl, fun W => ?_⟩ (fun _ => hS0) ?_
      · go_simp
      simp only [Act.put, List.setIfInBounds_toArray, List.set_cons_zero, List.set_cons_succ]
      refine wpBut_one 18 rfl (by kernel_rfl) fun K hK => ?_
      go_simp
      go_at_call 33
      refine (wPkt_p ((E.ack : Int) + (j : Int) + 1) (E.got : Int) X y z _ wr.drew hI1 hI2 hX.out hy).mono ?_
      rintro E1 w1 ⟨A1, n1, c1, rfl, hr1, hn1, hb1⟩
      have ok1 : Ok wr w1 := Ok.step (Ok.refl wr).drew hb1
      have k1 := k.ok ok1
      go_simp
      refine hK.out _ _ ⟨k1.at_ rfl, k1.at_ rfl, k1.at_ rfl⟩ fun hS1 => ?_
      clear hK K
      refine wpBut_one 19 rfl (by kernel_rfl) fun K hK => ?_
      go_simp
      go_at_call 24
      refine (wSeal_r E.key A1 n1 c1 _ w1 hkey hr1.out hn1.out).mono ?_
      rintro E2 w2 ⟨A2, n2, c2, rfl, hs2, hb2⟩
      have ok2 : Ok wr w2 := Ok.step ok1 hb2
      have HN2 := Lib.hid (HNW.out.snoc (U8.bel ok2) hs2.out.2 (Below.size ok1) (Nat.le_trans (Below.size hok) (Below.size ok1)))
      have k2 := k.ok ok2
      clear hr1 hb1 hb2 k1 ok1
      go_simp
      refine hK.out _ _ ⟨k2.at_ rfl, k2.at_ rfl, k2.at_ rfl⟩ fun hS2 => ?_
      clear hK K hS1
      refine wpBut_one 20 rfl (by kernel_rfl) fun K hK => ?_
      go_simp
      refine hK.out _ _ ⟨(k2.alloc _).at_ rfl, (k2.alloc _).at_ rfl, (k2.alloc _).at_ rfl⟩ fun hS3 => ?_
      clear hK K hS2 hS3
      refine wpBut_seq 21 (g := 1) (by decide) (by decide) (by rfl) (by kernel_rfl) ?_
      simp only [List.drop_succ_cons, List.drop_zero]
      have h1v : ∀ u ∈ [Value.slice A2 n2 c2], u.oneCell' = true := by
        intro u hu
        simp at hu
        subst hu
        rfl
      have hbs : w.heap.size ≤ w2.heap.size := Nat.le_trans (Below.size hok) (Below.size ok2)
      have ow2 := own_ok ow ok2
      have hok2 : Ok w w2 := Below.trans hok (Below.mono ok2 (Below.size hok))
      go_wp2_with (at_builtin; refine wpList_append_own_at _ rfl _ _ 28 rfl w.heap.size 33 i0 (.slice none 0 0) 1 24 Try.underlying28 hi hz0 hz1 hz2 rfl (by decide) _ _ _ rfl (ow2.alloc _) ⟨w2.heap.size, 0, none⟩ 1 1 [.slice A2 n2 c2] rfl rfl (cell_one_new _ _ _) h1v (by unfold maxLen; omega) (by omega) (by simp; omega) ?_; intro v6 w6 o6 hg6 hnil6 hat6)
      obtain ⟨A6, c6, rfl, -, -, -⟩ := own_slice o6
      have hg7 : (w2.alloc (.cells #[.slice A2 n2 c2] 33)).grownBy w6 (Value.slice A3 j c3).ownBlock := hg6
      have u6 : U8 w2 w6 := (U8.alloc w2 _).trans (U8.grown hg7 (own_not_u8 (ow2.alloc _) (by decide)))
      have hok6 : Ok w w6 := (hok2.alloc _).grown hg7 (by simp; omega) (fun i e => (ow.lt i e).1)
      refine ⟨⟨j + 1, ws ++ [.slice A2 n2 c2], by omega, by go_num, o6, ?_, hok6, ?_⟩, by simp [intOf]; omega⟩
      rw [hsucc.out]
      · exact (rw_.u8 ((U8.bel ok2).trans u6)).snoc (hs2.out.1.u8 u6)
      · rw [hsucc.out]; exact HN2.out.u8 u6
    · obtain rfl : j = M := by omega
      have hji : ¬ (j : Int) < (j : Int) := by omega
      have k := k.ok hok
      have c6 : wr.cell? ⟨g, 6, none⟩ = some (.bool E.owe) := k.at_ rfl
      have f6 := k.frozen 6
      by_cases hj0 : j = 0
      · subst hj0
        cases howe : E.owe with
        | false =>
          rw [howe] at c6
          have hF : outF E = outTo E 0 := by unfold outF; rw [if_neg (by rw [howe]; simp), ← HM0.out]
          have HF := Lib.hid hF
          clear hF
          go_wp2_with fail
          go_ret
          exact ⟨_, rfl, _, HCL.out wr _ _ ws hok ow (by rw [HF.out]; exact rw_) (by rw [HF.out]; exact HNW.out)⟩
        | true =>
          rw [howe] at c6
          have hF : outF E = [sealL E.key (pktB 0 (E.got : Int) [])] := by unfold outF; rw [if_pos ⟨HM0.out.symm, howe⟩]
          have HF := Lib.hid hF
          have hI0 : I64 0 := ⟨by omega, by omega⟩
          have hI2 : I64 (E.got : Int) := by unfold I64; omega
          clear hF
          go_wp2_with fail
          have S0 : wr.drew.cell? ⟨g, 1, none⟩ = some (.int .u64 (E.key : Int)) ∧ wr.drew.cell? ⟨g, 3, none⟩ = some (.int .i64 (E.ack : Int)) ∧ wr.drew.cell? ⟨g, 4, none⟩ = some (.int .i64 (E.got : Int)) := ⟨k.at_ rfl, k.at_ rfl, k.at_ rfl⟩
          refine wp_region_but (fun W => W.cell? ⟨g, 1, none⟩ = some (.int .u64 (E.key : Int)) ∧ W.cell? ⟨g, 3, none⟩ = some (.int .i64 (E.ack : Int)) ∧ W.cell? ⟨g, 4, none⟩ = some (.int .i64 (E.got : Int))) [13] (by kernel_rfl) S0 fun hS0 => ?_
          refine wpBut_pure 0 (v := (.slice A3 0 c3)) rfl (by kernel_rfl) (fun _ _ _ h => h) ⟨by rfl, fun W => ?_⟩ (fun _ => hS0) ?_
          · go_simp
          simp only [Act.put, List.setIfInBounds_toArray, List.set_cons_zero, List.set_cons_succ]
          refine wpBut_pure 1 (v := (.pointer (some ⟨g, 0, none⟩))) rfl (by kernel_rfl) (fun _ _ _ h => h) ⟨by rfl, fun W => ?_⟩ (fun _ => hS0) ?_
          · go_simp
          simp only [Act.put, List.setIfInBounds_toArray, List.set_cons_zero, List.set_cons_succ]
          refine wpBut_pure 2 (v := (.pointer (some ⟨g, 0, none⟩))) rfl (by kernel_rfl) (fun _ _ _ h => h) ⟨by rfl, fun W => ?_⟩ (fun _ => hS0) ?_
          · go_simp
          simp only [Act.put, List.setIfInBounds_toArray, List.set_cons_zero, List.set_cons_succ]
          refine wpBut_pure 3 (v := (.pointer (some ⟨g, 1, none⟩))) rfl (by kernel_rfl) (fun _ _ _ h => h) ⟨by rfl, fun W => ?_⟩ (fun _ => hS0) ?_
          · go_simp
          simp only [Act.put, List.setIfInBounds_toArray, List.set_cons_zero, List.set_cons_succ]
          refine wpBut_takeF 4 6 (v := (.int .u64 (E.key : Int))) rfl (by kernel_rfl) (fun _ _ _ h => h) ⟨by rfl, fun W hW => ?_⟩ hS0 ?_
          · obtain ⟨s1, s3, s4⟩ := hW
            go_simp
          simp only [Act.put, List.setIfInBounds_toArray, List.set_cons_zero, List.set_cons_succ]
          refine wpBut_pure 5 (v := (.pointer (some ⟨g, 0, none⟩))) rfl (by kernel_rfl) (fun _ _ _ h => h) ⟨by rfl, fun W => ?_⟩ (fun _ => hS0) ?_
          · go_simp
          simp only [Act.put, List.setIfInBounds_toArray, List.set_cons_zero, List.set_cons_succ]
          refine wpBut_pure 6 (v := (.pointer (some ⟨g, 0, none⟩))) rfl (by kernel_rfl) (fun _ _ _ h => h) ⟨by rfl, fun W => ?_⟩ (fun _ => hS0) ?_
          · go_simp
          simp only [Act.put, List.setIfInBounds_toArray, List.set_cons_zero, List.set_cons_succ]
          refine wpBut_pure 7 (v := (.pointer (some ⟨g, 4, none⟩))) rfl (by kernel_rfl) (fun _ _ _ h => h) ⟨by rfl, fun W => ?_⟩ (fun _ => hS0) ?_
          · go_simp
          simp only [Act.put, List.setIfInBounds_toArray, List.set_cons_zero, List.set_cons_succ]
          refine wpBut_takeF 8 6 (v := (.int .i64 (E.got : Int))) rfl (by kernel_rfl) (fun _ _ _ h => h) ⟨by rfl, fun W hW => ?_⟩ hS0 ?_
          · obtain ⟨s1, s3, s4⟩ := hW
            go_simp
          simp only [Act.put, List.setIfInBounds_toArray, List.set_cons_zero, List.set_cons_succ]
          refine wpBut_pure 9 (v := (.agg #[.int .i64 0, .int .i64 (E.got : Int), .slice none 0 0])) rfl (by kernel_rfl) (fun _ _ _ h => h) ⟨by rfl, fun W => ?_⟩ (fun _ => hS0) ?_
          · go_simp
          simp only [Act.put, List.setIfInBounds_toArray, List.set_cons_zero, List.set_cons_succ]
          refine wpBut_one 10 rfl (by kernel_rfl) fun K hK => ?_
          go_simp
          go_at_call 33
          refine (wPkt_p 0 (E.got : Int) none 0 0 [] wr.drew hI0 hI2 (Reads.nil_ _ _ _ _) (by omega)).mono ?_
          rintro E1 w1 ⟨A1, n1, c1, rfl, hr1, hn1, hb1⟩
          have ok1 : Ok wr w1 := Ok.step (Ok.refl wr).drew hb1
          have k1 := k.ok ok1
          go_simp
          refine hK.out _ _ ⟨k1.at_ rfl, k1.at_ rfl, k1.at_ rfl⟩ fun hS1 => ?_
          clear hK K
          refine wpBut_one 11 rfl (by kernel_rfl) fun K hK => ?_
          go_simp
          go_at_call 24
          refine (wSeal_r E.key A1 n1 c1 _ w1 hkey hr1.out hn1.out).mono ?_
          rintro E2 w2 ⟨A2, n2, c2, rfl, hs2, hb2⟩
          have ok2 : Ok wr w2 := Ok.step ok1 hb2
          have HN2 := Lib.hid (HNW.out.snoc (U8.bel ok2) hs2.out.2 (Below.size ok1) (Nat.le_trans (Below.size hok) (Below.size ok1)))
          have k2 := k.ok ok2
          clear hr1 hb1 hb2 k1 ok1
          go_simp
          refine hK.out _ _ ⟨k2.at_ rfl, k2.at_ rfl, k2.at_ rfl⟩ fun hS2 => ?_
          clear hK K hS1
          refine wpBut_one 12 rfl (by kernel_rfl) fun K hK => ?_
          go_simp
          refine hK.out _ _ ⟨(k2.alloc _).at_ rfl, (k2.alloc _).at_ rfl, (k2.alloc _).at_ rfl⟩ fun hS3 => ?_
          clear hK K hS2 hS3
          refine wpBut_seq 13 (g := 1) (by decide) (by decide) (by rfl) (by kernel_rfl) ?_
          simp only [List.drop_succ_cons, List.drop_zero]
          have h1v : ∀ u ∈ [Value.slice A2 n2 c2], u.oneCell' = true := by
            intro u hu
            simp at hu
            subst hu
            rfl
          have hbs : w.heap.size ≤ w2.heap.size := Nat.le_trans (Below.size hok) (Below.size ok2)
          have ow2 := own_ok ow ok2
          have hok2 : Ok w w2 := Below.trans hok (Below.mono ok2 (Below.size hok))
          go_wp2_with (at_builtin; refine wpList_append_own_at _ rfl _ _ 28 rfl w.heap.size 33 i0 (.slice none 0 0) 1 24 Try.underlying28 hi hz0 hz1 hz2 rfl (by decide) _ _ _ rfl (ow2.alloc _) ⟨w2.heap.size, 0, none⟩ 1 1 [.slice A2 n2 c2] rfl rfl (cell_one_new _ _ _) h1v (by unfold maxLen; omega) (by omega) (by simp; omega) ?_; intro v6 w6 o6 hg6 hnil6 hat6; have hg7 : (w2.alloc (.cells #[.slice A2 n2 c2] 33)).grownBy w6 (Value.slice A3 0 c3).ownBlock := hg6; have hok6 : Ok w w6 := (hok2.alloc _).grown hg7 (by simp; omega) (fun i e => (ow.lt i e).1); have k6 := k00.ok hok6; have f66 := k6.frozen 6; have c66 : w6.cell? ⟨g, 6, none⟩ = some (.bool true) := k6.at_ (by rw [← howe]; rfl))
          obtain ⟨A6, c6', rfl, -, -, -⟩ := own_slice o6
          have u6 : U8 w2 w6 := (U8.alloc w2 _).trans (U8.grown hg7 (own_not_u8 (ow2.alloc _) (by decide)))
          have hws : ws = [] := List.eq_nil_of_length_eq_zero (by have := ow.1; omega)
          have hr6 : Rws w6 (ws ++ [.slice A2 n2 c2]) (outF E) := by
            rw [hws, HF.out]
            exact (Rws.nil_ w6).snoc (hs2.out.1.u8 u6)
          go_ret
          first | exact ⟨_, rfl, _, HCL.out w6 _ _ _ hok6 o6 hr6 (by rw [HF.out]; exact HN2.out.u8 u6)⟩ | exact ⟨_, _, rfl, HCL.out w6 _ _ _ hok6 o6 hr6 (by rw [HF.out]; exact HN2.out.u8 u6)⟩
      · have hF : outF E = outTo E j := by unfold outF; rw [if_neg (by rw [← HM0.out]; simp [hj0]), ← HM0.out]
        have HF := Lib.hid hF
        have hj1 : ((j : Int) == 0) = false := by simp; omega
        clear hF
        go_wp2_with fail
        go_ret
        exact ⟨_, rfl, _, HCL.out wr _ _ ws hok ow (by rw [HF.out]; exact rw_) (by rw [HF.out]; exact HNW.out)⟩
end Go.Proofs.Ytbekkndkdfmijaa
