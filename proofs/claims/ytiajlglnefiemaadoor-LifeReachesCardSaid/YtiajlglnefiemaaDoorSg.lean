/- Life cycles, the reference: Bent (34) gives some life cycle. Conditions: the lists are short. -/
import Derived.Test.YtiajlglnefiemaaDoorSf
import Derived.Test.YtiajlglnefiemaaDoorHq
import Derived.Deep.CutBlock
import Derived.BigQuiet
set_option linter.unusedSimpArgs false
set_option linter.unusedVariables false
namespace Go.Proofs.YtiajlglnefiemaaDoor
open Go.RowKit

section
variable {P : Program} {ops : Array Oper} {Q : Exit → Act → World → Prop} {md : Region.Mode} {S : World → Prop} {bs : List Nat}
/-- b waits for i, over at most f + 1 steps -/
def waitsF (md : Region.Mode) (ops : Array Oper) : Nat → Nat → Nat → Bool
  | 0, b, i => Region.waitsFor md ops b i
  | f + 1, b, i => Region.waitsFor md ops b i || (List.range ops.size).any fun m => Region.waitsFor md ops b m && waitsF md ops f m i
theorem listed_one {L : Array Bool} {b i : Nat} (inv : HeadInv md ops ops.size L) (h : Region.waitsFor md ops b i = true) (hb : L.getD b false = true) : L.getD i false = true := by
  obtain ⟨o', ho', e, he, hbe, hon⟩ := Region.waitsFor_spec h
  rw [← hon]
  exact inv.closed b o' ho' hb e he hbe
theorem listed_waitsF {L : Array Bool} {i : Nat} (inv : HeadInv md ops ops.size L) : ∀ f b, waitsF md ops f b i = true → L.getD b false = true → L.getD i false = true
  | 0, b, h, hb => listed_one inv h hb
  | f + 1, b, h, hb => by
    unfold waitsF at h
    rcases Bool.or_eq_true_iff.1 h with h | h
    · exact listed_one inv h hb
    · obtain ⟨m, -, hm⟩ := List.any_eq_true.1 h
      obtain ⟨h1, h2⟩ := Bool.and_eq_true_iff.1 hm
      exact listed_waitsF inv f m h2 (listed_one inv h1 hb)
/-- take the load number i first -/
theorem wpBut_takeF (i fuel : Nat) {o : Oper} {v : Value} {f : Nat} {L : Array Bool} {a : Act} {w : World} (hi : ops[i]? = some o) (hB : (takeOk md ops bs L i && bs.all (waitsF md ops fuel · i)) = true)
    (hQ : ∀ c a w, Q (.panic c) (a.put o.dst v) w → Q (.panic c) a w) (hy : Region.wanted o (yielded ops a.tmps) = true ∧ ∀ w, S w → (execOp a.eval o).run P w = .ok (.value v) w) (hS : S w)
    (h : wpBut P md ops Q S bs f (L.setIfInBounds i true) (a.put o.dst v) w) : wpBut P md ops Q S bs (f + 1) L a w := by
  simp only [takeOk, Bool.and_eq_true, Bool.not_eq_true'] at hB
  obtain ⟨⟨⟨⟨⟨h1, h2⟩, h3⟩, h4⟩, h5⟩, h6⟩ := hB
  refine wpBut_first (S' := S) hi (Region.noSelect_spec h1) hQ h5 (fun L w inv hu hS => hS ?_) f L a w (headInv_of h2) (Region.free_spec hi h3) (by simpa using h4) (.inl hy) (fun _ => hS) h
  unfold owes
  rw [List.all_eq_true] at h6 ⊢
  intro b hb
  cases c : L.getD b false with
  | false => rfl
  | true =>
    have := listed_waitsF inv fuel b (h6 b hb) c
    rw [getD_both hu] at this
    cases this
end
/-- the life cycle that Bent makes, on the way -/
structure BSt (w : World) (nm : ByteArray) (W : World) (vS vM : Value) (nS : Nat) (xS : List Value) (M : List (Int × Int)) : Prop where
  res : Blk W (w.heap.size + 1) 50 lifeZ
  out : Blk W (w.heap.size + 2) 50 #[.string nm, vS, vM]
  st : W.ownsRow (w.heap.size + 3) 9 1 vS nS xS
  mv : W.ownsRow (w.heap.size + 3) 54 2 vM M.length (movsV M)
  bel : Below w.heap.size w W
  size : w.heap.size + 3 ≤ W.heap.size
section
variable {w W W' Wa W1 : World} {nm : ByteArray} {vS vM v' : Value} {nS n' : Nat} {xS xs' : List Value} {M M' : List (Int × Int)}
theorem BSt.low (H : BSt w nm W vS vM nS xS M) (k : Below W.heap.size W W') : BSt w nm W' vS vM nS xS M :=
  ⟨H.res.thru k, H.out.thru k, own_below H.st k, own_below H.mv k, below_next H.bel k, Nat.le_trans H.size k.size⟩
/-- a new row of states -/
theorem BSt.newS (H : BSt w nm W vS vM nS xS M) (ka : Below W.heap.size W Wa) (g : Wa.grownBy W1 vS.ownBlock) (o : W1.ownsRow (w.heap.size + 3) 9 1 v' n' xs') : BSt w nm (W1.setCell ⟨w.heap.size + 2, 1, none⟩ v') v' vM n' xs' M := by
  have Ha := H.low ka
  have hlt := fun i e => (Ha.st.lt i e).1
  have z := g.size
  have h1 := Ha.size
  refine ⟨(Ha.res.grown g (fun e => by have := hlt _ e.symm; omega)).far (p := ⟨w.heap.size + 2, 1, none⟩) (show w.heap.size + 1 ≠ w.heap.size + 2 by omega) v', (Ha.out.grown g (fun e => by have := hlt _ e.symm; omega)).set_ 1 v', ownsRow_setCell_below o (a := ⟨w.heap.size + 2, 1, none⟩) (show w.heap.size + 2 < w.heap.size + 3 by omega) v',
    ownsRow_setCell_below (Ha.mv.kept g (own_apart2 Ha.mv Ha.st (by decide))) (a := ⟨w.heap.size + 2, 1, none⟩) (show w.heap.size + 2 < w.heap.size + 3 by omega) v', (Ha.bel.grown g (by omega) (fun i e => by have := hlt i e; omega)).setCell (p := ⟨w.heap.size + 2, 1, none⟩) (show w.heap.size ≤ w.heap.size + 2 by omega) v', by simp; omega⟩
/-- a new row of moves -/
theorem BSt.newM (H : BSt w nm W vS vM nS xS M) (ka : Below W.heap.size W Wa) (g : Wa.grownBy W1 vM.ownBlock) (o : W1.ownsRow (w.heap.size + 3) 54 2 v' M'.length (movsV M')) : BSt w nm (W1.setCell ⟨w.heap.size + 2, 2, none⟩ v') vS v' nS xS M' := by
  have Ha := H.low ka
  have hlt := fun i e => (Ha.mv.lt i e).1
  have z := g.size
  have h1 := Ha.size
  refine ⟨(Ha.res.grown g (fun e => by have := hlt _ e.symm; omega)).far (p := ⟨w.heap.size + 2, 2, none⟩) (show w.heap.size + 1 ≠ w.heap.size + 2 by omega) v', (Ha.out.grown g (fun e => by have := hlt _ e.symm; omega)).set_ 2 v', ownsRow_setCell_below (Ha.st.kept g (own_apart2 Ha.st Ha.mv (by decide))) (a := ⟨w.heap.size + 2, 2, none⟩) (show w.heap.size + 2 < w.heap.size + 3 by omega) v',
    ownsRow_setCell_below o (a := ⟨w.heap.size + 2, 2, none⟩) (show w.heap.size + 2 < w.heap.size + 3 by omega) v', (Ha.bel.grown g (by omega) (fun i e => by have := hlt i e; omega)).setCell (p := ⟨w.heap.size + 2, 2, none⟩) (show w.heap.size ≤ w.heap.size + 2 by omega) v', by simp; omega⟩
end
/-- how many states lie in the life cycle at block g -/
def lenAt (W : World) (g : Nat) : Nat := match W.cell? ⟨g, 1, none⟩ with
  | some (.slice _ n _) => n
  | _ => 0
theorem cell_alloc_of {w : World} {p : Addr} {v : Value} {o : Obj} (h : w.cell? p = some v) : (w.drew.alloc o).cell? p = some v := (World.cell?_alloc_lt w.drew o p (World.block_lt_of_cell? _ _ h)).trans h
theorem own_takeP {w : World} {base c n k : Nat} {e : TypeId} {ad : Addr} {xs : List Value} (h : w.ownsRow base e 2 (.slice (some ad) n c) n xs) (hk : k ≤ n) : w.ownsRow base e 2 (.slice (some ad) k c) k (xs.take (k * 2)) := by
  obtain ⟨hl, ho⟩ := h
  refine ⟨by rw [List.length_take]; omega, .inr ?_⟩
  rcases ho with ⟨hv, -⟩ | ⟨g', cap, cur, hv, h1, hh, h2, h3, h4, h5⟩
  · cases hv
  · injection hv with e1 e2 e3
    subst e3
    refine ⟨g', c, cur, by rw [e1], h1, hh, by omega, h3, h4, ?_⟩
    rw [← h5, List.take_take, Nat.min_eq_left (by omega)]
theorem movsV_erase (M : List (Int × Int)) (k : Nat) : movsV (M.eraseIdx k) = (movsV M).take (k * 2) ++ (movsV M).drop ((k + 1) * 2) := by
  induction M generalizing k with
  | nil => simp [movsV]
  | cons p M ih =>
    cases k with
    | zero => rfl
    | succ k =>
      show Value.int .i64 p.1 :: .int .i64 p.2 :: movsV (M.eraseIdx k) = (Value.int .i64 p.1 :: .int .i64 p.2 :: movsV M).take ((k + 1) * 2) ++ (Value.int .i64 p.1 :: .int .i64 p.2 :: movsV M).drop ((k + 1 + 1) * 2)
      rw [ih k, show (k + 1 + 1) * 2 = (k + 1) * 2 + 1 + 1 by omega, List.drop_succ_cons, List.drop_succ_cons, show (k + 1) * 2 = k * 2 + 1 + 1 by omega]
      simp only [List.take_succ_cons, List.cons_append]
theorem addr_at0 (b i : Nat) : (⟨b, 0, none⟩ : Addr).add i = ⟨b, i, none⟩ := by cases i <;> simp [Addr.add]
theorem grown_none (W : World) (row : Option Nat) : W.grownBy W row := ⟨rfl, rfl, rfl, Nat.le_refl _, fun _ _ _ => rfl⟩
theorem movsV_set1 (M : List (Int × Int)) {k : Nat} {a b : Int} (h : M[k]? = some (a, b)) (z : Int) : (movsV M).set (2 * k) (.int .i64 z) = movsV (M.set k (z, b)) := by
  induction M generalizing k with
  | nil => simp at h
  | cons p M ih =>
    cases k with
    | zero => simp at h; subst h; rfl
    | succ k =>
      simp at h
      show (Value.int .i64 p.1 :: .int .i64 p.2 :: movsV M).set (2 * (k + 1)) _ = Value.int .i64 p.1 :: .int .i64 p.2 :: movsV (M.set k (z, b))
      rw [show 2 * (k + 1) = 2 * k + 1 + 1 by omega, List.set_cons_succ, List.set_cons_succ, ih h]
theorem movsV_set2 (M : List (Int × Int)) {k : Nat} {a b : Int} (h : M[k]? = some (a, b)) (z : Int) : (movsV M).set (2 * k + 1) (.int .i64 z) = movsV (M.set k (a, z)) := by
  induction M generalizing k with
  | nil => simp at h
  | cons p M ih =>
    cases k with
    | zero => simp at h; subst h; rfl
    | succ k =>
      simp at h
      show (Value.int .i64 p.1 :: .int .i64 p.2 :: movsV M).set (2 * (k + 1) + 1) _ = Value.int .i64 p.1 :: .int .i64 p.2 :: movsV (M.set k (a, z))
      rw [show 2 * (k + 1) + 1 = 2 * k + 1 + 1 + 1 by omega, List.set_cons_succ, List.set_cons_succ, ih h]
theorem own_set {w : World} {base size n g c : Nat} {e : TypeId} {xs : List Value} (h : w.ownsRow base e size (.slice (some ⟨g, 0, none⟩) n c) n xs) {i : Nat} (hi : i < n * size) (u : Value) : (w.setCell ⟨g, i, none⟩ u).ownsRow base e size (.slice (some ⟨g, 0, none⟩) n c) n (xs.set i u) := by
  obtain ⟨hl, ho⟩ := h
  refine ⟨by rw [List.length_set]; exact hl, .inr ?_⟩
  rcases ho with ⟨hv, -⟩ | ⟨g', cap, cur, hv, h1, hh, h2, h3, h4, h5⟩
  · cases hv
  · injection hv with e1 e2 e3
    injection e1 with e1
    injection e1 with e1
    subst e1 e3
    refine ⟨g, c, cur.setIfInBounds i u, rfl, h1, Blk.set_ (g := g) (t := e) (cs := cur) hh i u, h2, h3, by rw [Array.size_setIfInBounds]; exact h4, ?_⟩
    rw [Array.toList_setIfInBounds, ← h5, List.take_set]
/-- a number of a move stored -/
theorem BSt.poke {w W : World} {nm : ByteArray} {vS : Value} {nS bM c i : Nat} {xS : List Value} {M M' : List (Int × Int)} {u : Value} (H : BSt w nm W vS (.slice (some ⟨bM, 0, none⟩) M.length c) nS xS M) (hi : i < M.length * 2) (hl : M'.length = M.length) (hm : (movsV M).set i u = movsV M') : BSt w nm (W.setCell ⟨bM, i, none⟩ u) vS (.slice (some ⟨bM, 0, none⟩) M'.length c) nS xS M' := by
  have hb := (H.mv.lt bM rfl).1
  have hap := own_apart2 H.st H.mv (by decide)
  have hs := H.size
  have ho := H.out.far (p := ⟨bM, i, none⟩) (show w.heap.size + 2 ≠ bM by omega) u
  have hmv := own_set H.mv hi u
  rw [hm, ← hl] at hmv
  rw [← hl] at ho
  refine ⟨H.res.far (p := ⟨bM, i, none⟩) (show w.heap.size + 1 ≠ bM by omega) u, ho, ownsRow_setCell_other H.st (a := ⟨bM, i, none⟩) (fun e => ?_) u, hmv, H.bel.setCell (p := ⟨bM, i, none⟩) (show w.heap.size ≤ bM by omega) u, by simpa using hs⟩
  rcases hap with h | h
  · rw [h] at e; cases e
  · exact h e
set_option maxRecDepth 100000 in
set_option maxHeartbeats 16000000 in
theorem bent_life (nm : ByteArray) (A : Option Addr) (n c : Nat) (B : Option Addr) (m d : Nat) (M : List (Int × Int)) (xs : List Value) (at_ how by_ : Int) (w : World) (h : Reads w w.heap.size 2 B m (movsV M)) (hx : Reads w w.heap.size 1 A n xs) (h1 : ∀ u ∈ xs, u.oneCell' = true) (hn : n ≤ 12) (hm : m ≤ 32) (hat : I64 at_) (hhow : I64 how) (hby : I64 by_) :
    Calls Tryd.prog 34 #[lifeV nm A n c B m d, .int .i64 at_, .int .i64 how, .int .i64 by_] w fun E W' => ∃ nm' A' n' c' B' m' d' M', E = .returned (lifeV nm' A' n' c' B' m' d') ∧ Reads W' W'.heap.size 2 B' m' (movsV M') ∧ n' ≤ 1000 ∧ m' ≤ 1000 ∧ Below w.heap.size w W' := by
  have HML := Lib.hid h.mov_len
  obtain ⟨i9, h9, y0, y1, y2⟩ := info_parts info9
  obtain ⟨i54, h54, x0, x1, x2⟩ := info_parts info54
  have k0 : Blk (((w.alloc (.cells #[.string nm, .slice A n c, .slice B m d] 50)).alloc (.cells #[.string ⟨#[]⟩, .slice none 0 0, .slice none 0 0] 50)).alloc (.cells #[.string nm, .slice none 0 0, .slice none 0 0] 50)) w.heap.size 50 #[.string nm, .slice A n c, .slice B m d] := ((Blk.new w 50 _).alloc _).alloc _
  have hS : BSt w nm (((w.alloc (.cells #[.string nm, .slice A n c, .slice B m d] 50)).alloc (.cells #[.string ⟨#[]⟩, .slice none 0 0, .slice none 0 0] 50)).alloc (.cells #[.string nm, .slice none 0 0, .slice none 0 0] 50)) (.slice none 0 0) (.slice none 0 0) 0 [] [] :=
    ⟨(Blk.new' (by simp)).alloc _, Blk.new' (by simp), World.ownsRow_nil _ _ _ _, World.ownsRow_nil _ _ _ _, (((Below.refl w.heap.size w).alloc (Nat.le_refl _) _).alloc (by simp) _).alloc (by simp; omega) _, by simp⟩
  go_enter Tryd.func34, Tryd.ntmps34
  go_upto_region 2 with fail
  rw [show w.heap.size + 1 + 1 = w.heap.size + 2 from rfl]
  generalize ((w.alloc (.cells #[.string nm, .slice A n c, .slice B m d] 50)).alloc (.cells #[.string ⟨#[]⟩, .slice none 0 0, .slice none 0 0] 50)).alloc (.cells #[.string nm, .slice none 0 0, .slice none 0 0] 50) = w2 at *
  have p1 : w2.cell? ⟨w.heap.size, 1, none⟩ = some (.slice A n c) := k0.at_ rfl
  have p2 : w2.cell? ⟨w.heap.size + 2, 1, none⟩ = some (.slice none 0 0) := hS.out.at_ rfl
  have hz2 : w.heap.size + 3 ≤ w2.heap.size := hS.size
  have hx2 := hx.below hS.bel
  have hxl : xs.length = n := by have := hx.1; omega
  go_upto_region 3 with (at_builtin; refine wpList_append_reads _ rfl _ _ 47 rfl (w.heap.size + 3) 9 i9 (.string ⟨#[]⟩) 1 16 Tryd.underlying47 h9 y0 y1 y2 rfl (by decide) (.slice none 0 0) 0 [] rfl (World.ownsRow_nil _ _ _ _) _ A n c xs rfl hx2 h1 (by unfold maxLen; omega) (by omega) hz2 ?_; intro v3 w3 o3 g3; rw [Nat.zero_add, List.nil_append] at o3; obtain ⟨A3, c3, rfl, -, -, -⟩ := own_slice o3; have hk3 := hS.out.grown g3 (fun e => by cases e); have t3 : w3.cell? ⟨w.heap.size + 2, 1, none⟩ = some (.slice none 0 0) := hk3.at_ rfl; have f3 := hk3.frozen 1)
  have hS4 := hS.newS (Below.refl _ _) g3 o3
  have b24 : Below w2.heap.size w2 w3 := (Below.refl _ _).grown g3 (Nat.le_refl _) (fun i e => by cases e)
  have k4 := (k0.thru b24).far (p := ⟨w.heap.size + 2, 1, none⟩) (show w.heap.size ≠ w.heap.size + 2 by omega) (.slice A3 n c3)
  clear hk3 t3 f3 g3 o3 b24 k0 hS p1 p2 hz2 hx2
  generalize w3.setCell ⟨w.heap.size + 2, 1, none⟩ (.slice A3 n c3) = w4 at *
  have p1 : w4.cell? ⟨w.heap.size, 2, none⟩ = some (.slice B m d) := k4.at_ rfl
  have p2 : w4.cell? ⟨w.heap.size + 2, 2, none⟩ = some (.slice none 0 0) := hS4.out.at_ rfl
  have hz2 : w.heap.size + 3 ≤ w4.heap.size := hS4.size
  have hx2 := h.below hS4.bel
  go_upto_region 4 with (at_builtin; refine wpList_append_reads _ rfl _ _ 48 rfl (w.heap.size + 3) 54 i54 (.agg #[.int .i64 0, .int .i64 0]) 2 16 Tryd.underlying48 h54 x0 x1 x2 rfl (by decide) (.slice none 0 0) 0 [] rfl (World.ownsRow_nil _ _ _ _) _ B m d (movsV M) rfl hx2 (movsV_one M) (by unfold maxLen; omega) (by omega) hz2 ?_; intro v5 w5 o5 g5; rw [Nat.zero_add, List.nil_append, ← HML.out] at o5; obtain ⟨A5, c5, rfl, -, -, -⟩ := own_slice o5; have hk5 := hS4.out.grown g5 (fun e => by cases e); have t5 : w5.cell? ⟨w.heap.size + 2, 2, none⟩ = some (.slice none 0 0) := hk5.at_ rfl; have f5 := hk5.frozen 2)
  have hS6 := hS4.newM (Below.refl _ _) g5 o5
  clear hk5 t5 f5 g5 o5 k4 hS4 p1 p2 hz2 hx2
  generalize w5.setCell ⟨w.heap.size + 2, 2, none⟩ (.slice A5 M.length c5) = w6 at *
  have HL := Lib.hid (show M.length ≤ 32 by have := HML.out; omega)
  have HS := Lib.hid hS6
  clear h hx h1 hm hxl hS6
  have q1 : w6.cell? ⟨w.heap.size + 2, 2, none⟩ = some (.slice A5 M.length c5) := HS.out.out.at_ rfl
  obtain ⟨L, hL⟩ : ∃ L, L = M.length := ⟨_, rfl⟩
  obtain ⟨T, hT⟩ : ∃ T, T = max L 1 := ⟨_, rfl⟩
  have hmx := fun ts t W => run_max_int2 (P := Tryd.prog) (w := W) ts t .i64 .i64 (L : Int) 1
  rw [show (if (1 : Int) > (L : Int) then (1 : Int) else (L : Int)) = (T : Int) by rw [hT]; split <;> omega] at hmx
  have hT1 : 1 ≤ T := by omega
  have hL32 : L ≤ 32 := by have := HL.out; omega
  rw [← hL] at q1
  have HTL := Lib.hid (And.intro hT hL)
  have HS : Hid (BSt w nm w6 (.slice A3 n c3) (.slice A5 L c5) n xs M ∧ M.length = L) := Lib.hid ⟨by rw [hL]; exact HS.out, hL.symm⟩
  have hT33 : T ≤ 33 := by omega
  rw [← hL]
  clear hT hL
  go_wp2_with fail
  refine (around_any at_ (T : Int) w6 hat.1 hat.2 (by omega) (by omega)).mono ?_
  rintro - w7 ⟨rfl, rfl⟩
  obtain ⟨k0, k1⟩ := around_lt at_ (T : Int) (by omega)
  obtain ⟨k, hk⟩ := Int.eq_ofNat_of_zero_le k0
  rw [hk] at k1 ⊢
  have hkT : k < T := by omega
  clear hk k0 k1
  go_wp2_with fail
  refine (around_any how 7 w7 hhow.1 hhow.2 (by omega) (by omega)).mono ?_
  rintro - w8 ⟨rfl, rfl⟩
  obtain ⟨m0, m1⟩ := around_lt how 7 (by omega)
  generalize around how 7 = md at *
  have q0 : w8.cell? ⟨w.heap.size + 2, 1, none⟩ = some (.slice A3 n c3) := HS.out.1.out.at_ rfl
  have f1 := HS.out.1.out.frozen 1
  have f2 := HS.out.1.out.frozen 2
  have HNM : Hid (n ≤ 100 ∧ M.length ≤ 100) := Lib.hid ⟨by omega, by rw [HS.out.2]; omega⟩
  have HB0 : Hid (BSt w nm w8 (.slice A3 n c3) (.slice A5 M.length c5) n xs M) := Lib.hid (by rw [HS.out.2]; exact HS.out.1)
  have hmd : md = 0 ∨ md = 1 ∨ md = 2 ∨ md = 3 ∨ md = 4 ∨ md = 5 ∨ md = 6 := by omega
  clear m0 m1
  have fin : ∀ (a : Act) (W : World), True := fun _ _ => trivial
  by_cases hL0 : L = 0
  · have hs : decide (0 < L) = false := decide_eq_false (by omega)
    have hs2 : ¬ (0 : Int) < (L : Int) := by omega
    have HL0 := Lib.hid hL0
    clear hL0
    rcases hmd with rfl | rfl | rfl | rfl | rfl | rfl | rfl
    · go_upto_region 29 with fail
      have hB := HB0.out
      obtain ⟨C, hC⟩ : ∃ C : Array Value, C = #[.string nm, .slice A3 n c3, .slice A5 M.length c5] := ⟨_, rfl⟩
      have ho := hB.out
      rw [← hC] at ho
      have hR0 := hB.res
      have G1 : Hid ((Tryd.prog.info? 50).map (·.size) = some C.size) := Lib.hid (by rw [hC]; exact info50)
      have G2 : Hid (lifeZ.size = C.size) := Lib.hid (by rw [hC]; rfl)
      have G3 : Hid (C.all (·.oneCell') = true) := Lib.hid (by rw [hC]; simp [Value.oneCell'])
      have hrv := Reads.of_own (own_setRowL hB.mv (show w.heap.size + 1 < w.heap.size + 3 by omega) C)
      have hb9 := below_setRow hB.bel (show w.heap.size ≤ w.heap.size + 1 by omega) C
      have HX := Lib.hid (And.intro hrv hb9)
      have HCE := Lib.hid hC
      clear hrv hb9 hC hB
      go_wp2_with (first
        | (with_reducible refine wpList_load_row rfl 50 _ rfl (w.heap.size + 2) rfl 50 C (0, 0) _ ho.heap_ Tryd.underlying50 rfl G1.out ?_)
        | (with_reducible refine wpList_store_row rfl 50 _ _ rfl (w.heap.size + 1) C rfl rfl 50 lifeZ hR0.heap_ G1.out G2.out G3.out ?_))
      refine ret_row (g := w.heap.size + 1) (cs := C) (t := 50) Tryd.results34 ?_ (hR0.row C) rfl Tryd.underlying50 G1.out ?_ ?_
      · rfl
      · rfl
      · exact ⟨_, _, _, _, _, _, _, M, by rw [HCE.out], HX.out.1, by have := HNM.out; omega, by have := HNM.out; omega, HX.out.2⟩
    · go_upto_region 29 with fail
      have hB := HB0.out
      obtain ⟨C, hC⟩ : ∃ C : Array Value, C = #[.string nm, .slice A3 n c3, .slice A5 M.length c5] := ⟨_, rfl⟩
      have ho := hB.out
      rw [← hC] at ho
      have hR0 := hB.res
      have G1 : Hid ((Tryd.prog.info? 50).map (·.size) = some C.size) := Lib.hid (by rw [hC]; exact info50)
      have G2 : Hid (lifeZ.size = C.size) := Lib.hid (by rw [hC]; rfl)
      have G3 : Hid (C.all (·.oneCell') = true) := Lib.hid (by rw [hC]; simp [Value.oneCell'])
      have hrv := Reads.of_own (own_setRowL hB.mv (show w.heap.size + 1 < w.heap.size + 3 by omega) C)
      have hb9 := below_setRow hB.bel (show w.heap.size ≤ w.heap.size + 1 by omega) C
      have HX := Lib.hid (And.intro hrv hb9)
      have HCE := Lib.hid hC
      clear hrv hb9 hC hB
      go_wp2_with (first
        | (with_reducible refine wpList_load_row rfl 50 _ rfl (w.heap.size + 2) rfl 50 C (0, 0) _ ho.heap_ Tryd.underlying50 rfl G1.out ?_)
        | (with_reducible refine wpList_store_row rfl 50 _ _ rfl (w.heap.size + 1) C rfl rfl 50 lifeZ hR0.heap_ G1.out G2.out G3.out ?_))
      refine ret_row (g := w.heap.size + 1) (cs := C) (t := 50) Tryd.results34 ?_ (hR0.row C) rfl Tryd.underlying50 G1.out ?_ ?_
      · rfl
      · rfl
      · exact ⟨_, _, _, _, _, _, _, M, by rw [HCE.out], HX.out.1, by have := HNM.out; omega, by have := HNM.out; omega, HX.out.2⟩
    · go_upto_region 29 with fail
      have hB := HB0.out
      obtain ⟨C, hC⟩ : ∃ C : Array Value, C = #[.string nm, .slice A3 n c3, .slice A5 M.length c5] := ⟨_, rfl⟩
      have ho := hB.out
      rw [← hC] at ho
      have hR0 := hB.res
      have G1 : Hid ((Tryd.prog.info? 50).map (·.size) = some C.size) := Lib.hid (by rw [hC]; exact info50)
      have G2 : Hid (lifeZ.size = C.size) := Lib.hid (by rw [hC]; rfl)
      have G3 : Hid (C.all (·.oneCell') = true) := Lib.hid (by rw [hC]; simp [Value.oneCell'])
      have hrv := Reads.of_own (own_setRowL hB.mv (show w.heap.size + 1 < w.heap.size + 3 by omega) C)
      have hb9 := below_setRow hB.bel (show w.heap.size ≤ w.heap.size + 1 by omega) C
      have HX := Lib.hid (And.intro hrv hb9)
      have HCE := Lib.hid hC
      clear hrv hb9 hC hB
      go_wp2_with (first
        | (with_reducible refine wpList_load_row rfl 50 _ rfl (w.heap.size + 2) rfl 50 C (0, 0) _ ho.heap_ Tryd.underlying50 rfl G1.out ?_)
        | (with_reducible refine wpList_store_row rfl 50 _ _ rfl (w.heap.size + 1) C rfl rfl 50 lifeZ hR0.heap_ G1.out G2.out G3.out ?_))
      refine ret_row (g := w.heap.size + 1) (cs := C) (t := 50) Tryd.results34 ?_ (hR0.row C) rfl Tryd.underlying50 G1.out ?_ ?_
      · rfl
      · rfl
      · exact ⟨_, _, _, _, _, _, _, M, by rw [HCE.out], HX.out.1, by have := HNM.out; omega, by have := HNM.out; omega, HX.out.2⟩
    · go_upto_region 29 with fail
      have hB := HB0.out
      obtain ⟨C, hC⟩ : ∃ C : Array Value, C = #[.string nm, .slice A3 n c3, .slice A5 M.length c5] := ⟨_, rfl⟩
      have ho := hB.out
      rw [← hC] at ho
      have hR0 := hB.res
      have G1 : Hid ((Tryd.prog.info? 50).map (·.size) = some C.size) := Lib.hid (by rw [hC]; exact info50)
      have G2 : Hid (lifeZ.size = C.size) := Lib.hid (by rw [hC]; rfl)
      have G3 : Hid (C.all (·.oneCell') = true) := Lib.hid (by rw [hC]; simp [Value.oneCell'])
      have hrv := Reads.of_own (own_setRowL hB.mv (show w.heap.size + 1 < w.heap.size + 3 by omega) C)
      have hb9 := below_setRow hB.bel (show w.heap.size ≤ w.heap.size + 1 by omega) C
      have HX := Lib.hid (And.intro hrv hb9)
      have HCE := Lib.hid hC
      clear hrv hb9 hC hB
      go_wp2_with (first
        | (with_reducible refine wpList_load_row rfl 50 _ rfl (w.heap.size + 2) rfl 50 C (0, 0) _ ho.heap_ Tryd.underlying50 rfl G1.out ?_)
        | (with_reducible refine wpList_store_row rfl 50 _ _ rfl (w.heap.size + 1) C rfl rfl 50 lifeZ hR0.heap_ G1.out G2.out G3.out ?_))
      refine ret_row (g := w.heap.size + 1) (cs := C) (t := 50) Tryd.results34 ?_ (hR0.row C) rfl Tryd.underlying50 G1.out ?_ ?_
      · rfl
      · rfl
      · exact ⟨_, _, _, _, _, _, _, M, by rw [HCE.out], HX.out.1, by have := HNM.out; omega, by have := HNM.out; omega, HX.out.2⟩
    · go_wp2_with fail
      have har := fun (q : Nat) (W : World) => Calls.quiet_of_same (around_any by_ 3 (W.drewN q) hby.1 hby.2 (by omega) (by omega))
      have hzl3 := around_lt by_ 3 (by omega)
      obtain ⟨Z, hZ⟩ : ∃ Z : Nat, around by_ 3 = (Z : Int) := ⟨(around by_ 3).toNat, by omega⟩
      rw [hZ] at har hzl3
      have HAR := Lib.hid har
      have hZw : IntKind.i64.wrap (11 + (Z : Int)) = 11 + (Z : Int) := by rw [IntKind.wrap_i64]; omega
      have HN14 := Lib.hid hn
      clear har hZ q0 q1
      go_loopw [] (fun wr => ∃ (A' : Option Addr) (c' nS : Nat) (xS : List Value), Hid (BSt w nm wr (.slice A' nS c') (.slice A5 M.length c5) nS xS M) ∧ nS ≤ 14) (fun W => 40 - lenAt W (w.heap.size + 2))
      case atStart => exact ⟨A3, c3, n, xs, HB0, by omega⟩
      case round =>
        obtain ⟨A', c', nS, xS, HB, hnS⟩ := hrel
        have r1 : wr.cell? ⟨w.heap.size + 2, 1, none⟩ = some (.slice A' nS c') := HB.out.out.at_ rfl
        have HLA : Hid (lenAt wr (w.heap.size + 2) = nS) := Lib.hid (by unfold lenAt; rw [r1])
        by_cases hlt : (nS : Int) < 11 + (Z : Int)
        · go_wp2_with fail
          go_quiet (first | (go_at_call 15; exact HAR.out _ _))
          have HB2 := Lib.hid (HB.out.low (below_drewN' (Below.refl _ _) nq))
          clear r1 HB
          generalize wr.drewN nq = w9 at *
          have r1 : w9.cell? ⟨w.heap.size + 2, 1, none⟩ = some (.slice A' nS c') := HB2.out.out.at_ rfl
          have ost := HB2.out.st
          have kout := HB2.out.out
          have hz9 := HB2.out.size
          have hcn := cell_one_new w9 (.string ⟨#[]⟩) 9
          go_wp2_with (at_builtin; refine wpList_append_own _ rfl _ _ 47 rfl (w.heap.size + 3) 9 i9 (.string ⟨#[]⟩) 1 16 Tryd.underlying47 h9 y0 y1 y2 rfl (by decide) _ _ _ rfl (ost.alloc _) ⟨w9.heap.size, 0, none⟩ 1 1 [.string ⟨#[]⟩] rfl rfl hcn (by simp [Value.oneCell']) (by unfold maxLen; omega) (by omega) (by simp; omega) ?_; intro va wa oa ga _; obtain ⟨Aa, ca', rfl, -, -, -⟩ := own_slice oa; have ka := (kout.alloc (.cells #[.string ⟨#[]⟩] 9)).grown ga (fun e => by have := (ost.lt _ e.symm).1; omega); have ta : wa.cell? ⟨w.heap.size + 2, 1, none⟩ = some (.slice A' nS c') := ka.at_ rfl; have fka := ka.frozen 1)
          have hnew := HB2.out.newS ((Below.refl _ w9).alloc (Nat.le_refl _) (.cells #[.string ⟨#[]⟩] 9)) ga oa
          refine ⟨⟨Aa, ca', nS + 1, _, Lib.hid hnew, by omega⟩, ?_⟩
          have e2 : lenAt (wa.setCell ⟨w.heap.size + 2, 1, none⟩ (.slice Aa (nS + 1) ca')) (w.heap.size + 2) = nS + 1 := by
            unfold lenAt
            rw [hnew.out.at_ (i := 1) rfl]
            rfl
          rw [e2, HLA.out]
          omega
        · go_wp2_with fail
          go_quiet (first | (go_at_call 15; exact HAR.out _ _))
          have HB2 := Lib.hid (HB.out.low (below_drewN' (Below.refl _ _) nq))
          have HN2 : Hid (nS ≤ 100 ∧ M.length ≤ 100) := Lib.hid ⟨by omega, HNM.out.2⟩
          clear r1 HB
          generalize wr.drewN nq = w9 at *
          go_upto_region 29 with fail
          have hB := HB2.out
          obtain ⟨C, hC⟩ : ∃ C : Array Value, C = #[.string nm, .slice A' nS c', .slice A5 M.length c5] := ⟨_, rfl⟩
          have ho := hB.out
          rw [← hC] at ho
          have hR0 := hB.res
          have G1 : Hid ((Tryd.prog.info? 50).map (·.size) = some C.size) := Lib.hid (by rw [hC]; exact info50)
          have G2 : Hid (lifeZ.size = C.size) := Lib.hid (by rw [hC]; rfl)
          have G3 : Hid (C.all (·.oneCell') = true) := Lib.hid (by rw [hC]; simp [Value.oneCell'])
          have hrv := Reads.of_own (own_setRowL hB.mv (show w.heap.size + 1 < w.heap.size + 3 by omega) C)
          have hb9 := below_setRow hB.bel (show w.heap.size ≤ w.heap.size + 1 by omega) C
          have HX := Lib.hid (And.intro hrv hb9)
          have HCE := Lib.hid hC
          clear hrv hb9 hC hB
          go_wp2_with (first
            | (with_reducible refine wpList_load_row rfl 50 _ rfl (w.heap.size + 2) rfl 50 C (0, 0) _ ho.heap_ Tryd.underlying50 rfl G1.out ?_)
            | (with_reducible refine wpList_store_row rfl 50 _ _ rfl (w.heap.size + 1) C rfl rfl 50 lifeZ hR0.heap_ G1.out G2.out G3.out ?_))
          refine ret_row (g := w.heap.size + 1) (cs := C) (t := 50) Tryd.results34 ?_ (hR0.row C) rfl Tryd.underlying50 G1.out ?_ ?_
          · rfl
          · rfl
          · exact ⟨_, _, _, _, _, _, _, M, by rw [HCE.out], HX.out.1, by have := HN2.out; omega, by have := HN2.out; omega, HX.out.2⟩
    · go_upto_region 29 with fail
      have HB5 : Hid (BSt w nm (w8.setCell ⟨w.heap.size + 2, 1, none⟩ (.slice none 0 0)) (.slice none 0 0) (.slice A5 M.length c5) 0 [] M) := Lib.hid (HB0.out.newS (Below.refl _ _) (grown_none _ _) (World.ownsRow_nil _ _ _ _))
      have HN5 : Hid (0 ≤ 100 ∧ M.length ≤ 100) := Lib.hid ⟨by omega, HNM.out.2⟩
      have hB := HB5.out
      obtain ⟨C, hC⟩ : ∃ C : Array Value, C = #[.string nm, .slice none 0 0, .slice A5 M.length c5] := ⟨_, rfl⟩
      have ho := hB.out
      rw [← hC] at ho
      have hR0 := hB.res
      have G1 : Hid ((Tryd.prog.info? 50).map (·.size) = some C.size) := Lib.hid (by rw [hC]; exact info50)
      have G2 : Hid (lifeZ.size = C.size) := Lib.hid (by rw [hC]; rfl)
      have G3 : Hid (C.all (·.oneCell') = true) := Lib.hid (by rw [hC]; simp [Value.oneCell'])
      have hrv := Reads.of_own (own_setRowL hB.mv (show w.heap.size + 1 < w.heap.size + 3 by omega) C)
      have hb9 := below_setRow hB.bel (show w.heap.size ≤ w.heap.size + 1 by omega) C
      have HX := Lib.hid (And.intro hrv hb9)
      have HCE := Lib.hid hC
      clear hrv hb9 hC hB
      go_wp2_with (first
        | (with_reducible refine wpList_load_row rfl 50 _ rfl (w.heap.size + 2) rfl 50 C (0, 0) _ ho.heap_ Tryd.underlying50 rfl G1.out ?_)
        | (with_reducible refine wpList_store_row rfl 50 _ _ rfl (w.heap.size + 1) C rfl rfl 50 lifeZ hR0.heap_ G1.out G2.out G3.out ?_))
      refine ret_row (g := w.heap.size + 1) (cs := C) (t := 50) Tryd.results34 ?_ (hR0.row C) rfl Tryd.underlying50 G1.out ?_ ?_
      · rfl
      · rfl
      · exact ⟨_, _, _, _, _, _, _, M, by rw [HCE.out], HX.out.1, by have := HN5.out; omega, by have := HN5.out; omega, HX.out.2⟩
    · have hNe : ∃ N : Nat, N = max n 1 := ⟨_, rfl⟩
      obtain ⟨N, hN⟩ := hNe
      have hmx6 := fun ts t W => run_max_int2 (P := Tryd.prog) (w := W) ts t .i64 .i64 (n : Int) 1
      rw [show (if (1 : Int) > (n : Int) then (1 : Int) else (n : Int)) = (N : Int) by rw [hN]; split <;> omega] at hmx6
      have hN1 : 1 ≤ N := by omega
      have hNi : ¬ (N : Int) = 0 := by omega
      have hNn : N ≠ 0 := by omega
      clear hN
      go_wp2_with fail
      have har := fun (q : Nat) (W : World) => Calls.quiet_of_same (around_any by_ 3 (W.drewN q) hby.1 hby.2 (by omega) (by omega))
      have hzl3 := around_lt by_ 3 (by omega)
      obtain ⟨Z, hZ⟩ : ∃ Z : Nat, around by_ 3 = (Z : Int) := ⟨(around by_ 3).toNat, by omega⟩
      rw [hZ] at har hzl3
      have HAR := Lib.hid har
      have hZw : IntKind.i64.wrap (31 + (Z : Int)) = 31 + (Z : Int) := by rw [IntKind.wrap_i64]; omega
      have hMn := HNM.out.2
      have hM32 : M.length ≤ 32 := HL.out
      clear har hZ q0 q1
      go_loopw [13] (fun iv wr => ∃ (ii : Nat) (A2 : Option Addr) (c2 : Nat) (M2 : List (Int × Int)), iv = .int .i64 (ii : Int) ∧ ii ≤ 40 ∧ Hid (BSt w nm wr (.slice A3 n c3) (.slice A2 M2.length c2) n xs M2) ∧ Hid (M2.length ≤ 40) ∧ Hid (ii ≤ M2.length)) (fun iv _ => 40 - (intOf iv).toNat)
      case atStart => exact ⟨0, _, _, M, rfl, by omega, HB0, Lib.hid (by omega), Lib.hid (by omega)⟩
      case round =>
        obtain ⟨ii, A2, c2, M2, rfl, hii, HB, HM2, HIM⟩ := hrel
        have r2 : wr.cell? ⟨w.heap.size + 2, 2, none⟩ = some (.slice A2 M2.length c2) := HB.out.out.at_ rfl
        by_cases hlt : (M2.length : Int) < 31 + (Z : Int)
        · go_wp2_with fail
          go_quiet (first | (go_at_call 15; exact HAR.out _ _))
          have HB2 := Lib.hid (HB.out.low (below_drewN' (Below.refl _ _) nq))
          clear r2 HB
          generalize wr.drewN nq = w9 at *
          have r2 : w9.cell? ⟨w.heap.size + 2, 2, none⟩ = some (.slice A2 M2.length c2) := HB2.out.out.at_ rfl
          have r2d : w9.drew.cell? ⟨w.heap.size + 2, 2, none⟩ = some (.slice A2 M2.length c2) := r2
          have HB3 := HB2.out.low (Below.drew (Below.refl _ _))
          have od := HB3.mv
          have kd := HB3.out
          have hz9 := HB2.out.size
          obtain ⟨ix, hix⟩ : ∃ ix : Nat, ix = ii % N := ⟨_, rfl⟩
          obtain ⟨iq, hiq⟩ : ∃ iq : Nat, iq = ii / N := ⟨_, rfl⟩
          obtain ⟨iy, hiy⟩ : ∃ iy : Nat, iy = iq % N := ⟨_, rfl⟩
          have e1 : (ii : Int) % (N : Int) = (ix : Int) := by rw [hix]; rfl
          have e2 : (ii : Int) / (N : Int) = (iq : Int) := by rw [hiq]; rfl
          have e3 : (iq : Int) % (N : Int) = (iy : Int) := by rw [hiy]; rfl
          have e4 : (ii : Int).tmod (N : Int) = (ix : Int) := by rw [hix]; rfl
          have e5 : (iq : Int).tmod (N : Int) = (iy : Int) := by rw [hiy]; rfl
          have e6 : IntKind.i64.wrap (iq : Int) = (iq : Int) := by have := Nat.div_le_self ii N; rw [IntKind.wrap_i64]; omega
          have hM2 := HM2.out
          clear hix hiq hiy
          go_upto_region 11 with fail
          refine wp_region_but (fun W => W.cell? ⟨w.heap.size + 2, 2, none⟩ = some (.slice A2 M2.length c2)) [14] (by kernel_rfl) r2d fun hS0 => ?_
          refine wpBut_pure 0 (v := (.pointer (some ⟨w.heap.size + 2, 2, none⟩))) rfl (by kernel_rfl) (fun _ _ _ h => h) ⟨by rfl, fun W => ?_⟩ (fun _ => hS0) ?_
          · go_simp
          simp only [List.getElem_toArray, List.getElem_cons_succ, List.getElem_cons_zero, Act.put, List.setIfInBounds_toArray, List.set_cons_zero, List.set_cons_succ]
          refine wpBut_take 1 (v := (.slice A2 M2.length c2)) rfl (by kernel_rfl) (fun _ _ _ h => h) ⟨by rfl, fun W hW => ?_⟩ hS0 ?_
          · go_simp
          simp only [List.getElem_toArray, List.getElem_cons_succ, List.getElem_cons_zero, Act.put, List.setIfInBounds_toArray, List.set_cons_zero, List.set_cons_succ]
          refine wpBut_pure 2 (v := (.int .i64 (ii : Int))) rfl (by kernel_rfl) (fun _ _ _ h => h) ⟨by rfl, fun W => ?_⟩ (fun _ => hS0) ?_
          · go_simp
          simp only [List.getElem_toArray, List.getElem_cons_succ, List.getElem_cons_zero, Act.put, List.setIfInBounds_toArray, List.set_cons_zero, List.set_cons_succ]
          refine wpBut_pure 3 (v := (.int .i64 (N : Int))) rfl (by kernel_rfl) (fun _ _ _ h => h) ⟨by rfl, fun W => ?_⟩ (fun _ => hS0) ?_
          · go_simp
          simp only [List.getElem_toArray, List.getElem_cons_succ, List.getElem_cons_zero, Act.put, List.setIfInBounds_toArray, List.set_cons_zero, List.set_cons_succ]
          refine wpBut_pure 4 (v := (.int .i64 (ix : Int))) rfl (by kernel_rfl) (fun _ _ _ h => h) ⟨by rfl, fun W => ?_⟩ (fun _ => hS0) ?_
          · go_simp
          simp only [List.getElem_toArray, List.getElem_cons_succ, List.getElem_cons_zero, Act.put, List.setIfInBounds_toArray, List.set_cons_zero, List.set_cons_succ]
          refine wpBut_pure 5 (v := (.int .i64 (ii : Int))) rfl (by kernel_rfl) (fun _ _ _ h => h) ⟨by rfl, fun W => ?_⟩ (fun _ => hS0) ?_
          · go_simp
          simp only [List.getElem_toArray, List.getElem_cons_succ, List.getElem_cons_zero, Act.put, List.setIfInBounds_toArray, List.set_cons_zero, List.set_cons_succ]
          refine wpBut_pure 6 (v := (.int .i64 (N : Int))) rfl (by kernel_rfl) (fun _ _ _ h => h) ⟨by rfl, fun W => ?_⟩ (fun _ => hS0) ?_
          · go_simp
          simp only [List.getElem_toArray, List.getElem_cons_succ, List.getElem_cons_zero, Act.put, List.setIfInBounds_toArray, List.set_cons_zero, List.set_cons_succ]
          refine wpBut_pure 7 (v := (.int .i64 (iq : Int))) rfl (by kernel_rfl) (fun _ _ _ h => h) ⟨by rfl, fun W => ?_⟩ (fun _ => hS0) ?_
          · go_simp
          simp only [List.getElem_toArray, List.getElem_cons_succ, List.getElem_cons_zero, Act.put, List.setIfInBounds_toArray, List.set_cons_zero, List.set_cons_succ]
          refine wpBut_pure 8 (v := (.int .i64 (N : Int))) rfl (by kernel_rfl) (fun _ _ _ h => h) ⟨by rfl, fun W => ?_⟩ (fun _ => hS0) ?_
          · go_simp
          simp only [List.getElem_toArray, List.getElem_cons_succ, List.getElem_cons_zero, Act.put, List.setIfInBounds_toArray, List.set_cons_zero, List.set_cons_succ]
          refine wpBut_pure 9 (v := (.int .i64 (iy : Int))) rfl (by kernel_rfl) (fun _ _ _ h => h) ⟨by rfl, fun W => ?_⟩ (fun _ => hS0) ?_
          · go_simp
          simp only [List.getElem_toArray, List.getElem_cons_succ, List.getElem_cons_zero, Act.put, List.setIfInBounds_toArray, List.set_cons_zero, List.set_cons_succ]
          refine wpBut_pure 10 (v := (.agg #[.int .i64 (ix : Int), .int .i64 (iy : Int)])) rfl (by kernel_rfl) (fun _ _ _ h => h) ⟨by rfl, fun W => ?_⟩ (fun _ => hS0) ?_
          · go_simp
          simp only [List.getElem_toArray, List.getElem_cons_succ, List.getElem_cons_zero, Act.put, List.setIfInBounds_toArray, List.set_cons_zero, List.set_cons_succ]
          refine wpBut_one 11 rfl (by kernel_rfl) fun K hK => ?_
          go_simp
          refine hK.out _ _ ((kd.alloc _).at_ rfl) fun hS1 => ?_
          clear hK K
          refine wpBut_one 12 rfl (by kernel_rfl) fun K hK => ?_
          rw [if_pos (by rfl)]
          refine wp_append_own _ _ _ 48 rfl (w.heap.size + 3) 54 i54 (.agg #[.int .i64 0, .int .i64 0]) 2 16 Tryd.underlying48 h54 x0 x1 x2 rfl (by decide) _ _ _ rfl (od.alloc _) ⟨w9.drew.heap.size, 0, none⟩ 1 1 [.int .i64 (ix : Int), .int .i64 (iy : Int)] rfl rfl (cell_two_new _ _ _ _) (by simp [Value.oneCell']) (by unfold maxLen; omega) (by omega) (by simp; omega) ?_
          intro va wa oa ga _
          obtain ⟨Aa, ca', rfl, -, -, -⟩ := own_slice oa
          have ka := (kd.alloc (.cells #[.int .i64 (ix : Int), .int .i64 (iy : Int)] 54)).grown ga (fun e => by have := (od.lt _ e.symm).1; omega)
          have ta : wa.cell? ⟨w.heap.size + 2, 2, none⟩ = some (.slice A2 M2.length c2) := ka.at_ rfl
          have fka := ka.frozen 2
          refine hK.out _ _ ta fun hS2 => ?_
          clear hK K
          refine wpBut_pure 13 (v := (.pointer (some ⟨w.heap.size + 2, 2, none⟩))) rfl (by kernel_rfl) (fun _ _ _ h => h) ⟨by rfl, fun W => ?_⟩ (fun _ => hS2) ?_
          · go_simp
          simp only [List.getElem_toArray, List.getElem_cons_succ, List.getElem_cons_zero, Act.put, List.setIfInBounds_toArray, List.set_cons_zero, List.set_cons_succ]
          refine wpBut_seq 14 (g := 0) (by decide) (by decide) (by rfl) (by kernel_rfl) ?_
          simp only [List.drop_succ_cons, List.drop_zero]
          go_upto_region 10 with fail
          have hM40 := HM2.out
          have him := HIM.out
          have hnew := HB3.newM (M' := M2 ++ [((ix : Int), (iy : Int))]) ((Below.refl _ w9.drew).alloc (Nat.le_refl _) (.cells #[.int .i64 (ix : Int), .int .i64 (iy : Int)] 54)) ga (by rw [movsV_snoc, List.length_append]; exact oa)
          have hlen : (M2 ++ [((ix : Int), (iy : Int))]).length = M2.length + 1 := by simp
          have HNEW := Lib.hid hnew
          clear hnew
          go_wp2_with fail
          exact ⟨⟨ii + 1, Aa, ca', M2 ++ [((ix : Int), (iy : Int))], by go_num, by omega, by rw [hlen]; exact HNEW, Lib.hid (by rw [hlen]; omega), Lib.hid (by rw [hlen]; omega)⟩, by simp [intOf]; omega⟩
        · go_wp2_with fail
          go_quiet (first | (go_at_call 15; exact HAR.out _ _))
          have HB2 := Lib.hid (HB.out.low (below_drewN' (Below.refl _ _) nq))
          have HN2 : Hid (n ≤ 100 ∧ M2.length ≤ 100) := Lib.hid ⟨by omega, by have := HM2.out; omega⟩
          clear r2 HB
          generalize wr.drewN nq = w9 at *
          go_upto_region 29 with fail
          have hB := HB2.out
          obtain ⟨C, hC⟩ : ∃ C : Array Value, C = #[.string nm, .slice A3 n c3, .slice A2 M2.length c2] := ⟨_, rfl⟩
          have ho := hB.out
          rw [← hC] at ho
          have hR0 := hB.res
          have G1 : Hid ((Tryd.prog.info? 50).map (·.size) = some C.size) := Lib.hid (by rw [hC]; exact info50)
          have G2 : Hid (lifeZ.size = C.size) := Lib.hid (by rw [hC]; rfl)
          have G3 : Hid (C.all (·.oneCell') = true) := Lib.hid (by rw [hC]; simp [Value.oneCell'])
          have hrv := Reads.of_own (own_setRowL hB.mv (show w.heap.size + 1 < w.heap.size + 3 by omega) C)
          have hb9 := below_setRow hB.bel (show w.heap.size ≤ w.heap.size + 1 by omega) C
          have HX := Lib.hid (And.intro hrv hb9)
          have HCE := Lib.hid hC
          clear hrv hb9 hC hB
          go_wp2_with (first
            | (with_reducible refine wpList_load_row rfl 50 _ rfl (w.heap.size + 2) rfl 50 C (0, 0) _ ho.heap_ Tryd.underlying50 rfl G1.out ?_)
            | (with_reducible refine wpList_store_row rfl 50 _ _ rfl (w.heap.size + 1) C rfl rfl 50 lifeZ hR0.heap_ G1.out G2.out G3.out ?_))
          refine ret_row (g := w.heap.size + 1) (cs := C) (t := 50) Tryd.results34 ?_ (hR0.row C) rfl Tryd.underlying50 G1.out ?_ ?_
          · rfl
          · rfl
          · exact ⟨_, _, _, _, _, _, _, M2, by rw [HCE.out], HX.out.1, by have := HN2.out; omega, by have := HN2.out; omega, HX.out.2⟩
  · have hs : decide (0 < L) = true := decide_eq_true (by omega)
    have hs2 : (0 : Int) < (L : Int) := by omega
    have hk := HTL.out
    have hkL : k < M.length := by omega
    clear hk
    obtain ⟨bM, cap, hv, -⟩ := HB0.out.mv.form (by omega)
    injection hv with hv1 hv2 hv3
    subst hv1
    clear hv2 hv3
    obtain ⟨ad, a, b, hAd, had, hab, ca, cb⟩ := (Reads.of_own HB0.out.mv).mov_at hkL
    injection hAd with hAd
    have HAD := Lib.hid hAd
    have fa : w8.frozen? (ad.add (k * 2)) = false := by
      obtain ⟨_, ⟨hv, -⟩ | ⟨g', cap', cur, hv, -, hh, -⟩⟩ := HB0.out.mv
      · cases hv
      · injection hv with e1 e2 e3
        injection e1 with e1
        injection e1 with e1
        subst e1
        rw [← hAd, addr_at0]
        exact Blk.frozen (g := bM) (t := 54) (cs := cur) hh _
    have fa2 : w8.frozen? ⟨(ad.add (k * 2)).block, (ad.add (k * 2)).off + 1, none⟩ = false := by
      obtain ⟨_, ⟨hv, -⟩ | ⟨g', cap', cur, hv, -, hh, -⟩⟩ := HB0.out.mv
      · cases hv
      · injection hv with e1 e2 e3
        injection e1 with e1
        injection e1 with e1
        subst e1
        rw [← hAd, addr_at0]
        exact Blk.frozen (g := bM) (t := 54) (cs := cur) hh _
    rw [hAd] at q1 ⊢
    have HAB := Lib.hid hab
    have hne : ad.block ≠ w.heap.size + 2 := by
      have := (HB0.out.mv.lt bM rfl).1
      rw [← hAd]
      show bM ≠ _
      omega
    have hki : (k : Int) < (L : Int) := by have := HTL.out; omega
    have hki0 : (0 : Int) ≤ (k : Int) := by omega
    obtain ⟨z, hz⟩ : ∃ z, z = around by_ 14 - 1 := ⟨_, rfl⟩
    have hzl := around_lt by_ 14 (by omega)
    have hzw : IntKind.i64.wrap (around by_ 14 - 1) = around by_ 14 - 1 := by rw [IntKind.wrap_i64]; omega
    clear hz
    rcases hmd with rfl | rfl | rfl | rfl | rfl | rfl | rfl
    · go_upto_region 14 with fail
      have q1s : (w8.setCell (ad.add (k * 2)) (.int .i64 (around by_ 14 - 1))).cell? ⟨w.heap.size + 2, 2, none⟩ = some (.slice (some ad) L c5) := by
        rw [World.cell?_setCell_other _ _ _ _ (fun e => hne (by have h := congrArg Addr.block e; simpa [block_add] using h))]
        exact q1
      go_region_held3 (fun W => W.cell? ⟨w.heap.size + 2, 2, none⟩ = some (.slice (some ad) L c5))
        (first | exact q1 | exact q1s)
        (first | (go_at_call 15; (refine (around_any by_ 14 _ hby.1 hby.2 (by omega) (by omega)).mono ?_); rintro E w9 ⟨rfl, rfl⟩))
      have HB1 : Hid (BSt w nm (w8.setCell (ad.add (k * 2)) (.int .i64 (around by_ 14 - 1))).drew (.slice A3 n c3) (.slice (some ⟨bM, 0, none⟩) (M.set k (around by_ 14 - 1, b)).length c5) n xs (M.set k (around by_ 14 - 1, b))) := Lib.hid (by
        have h := HB0.out.poke (i := 2 * k) (u := .int .i64 (around by_ 14 - 1)) (M' := M.set k (around by_ 14 - 1, b)) (by omega) (List.length_set ..) (movsV_set1 M HAB.out _)
        have e : ((ad.add (k * 2)) : Addr) = ⟨bM, 2 * k, none⟩ := by rw [← HAD.out]; rw [addr_at0, Nat.mul_comm]
        rw [e]
        exact h.low (Below.drew (Below.refl _ _)))
      have HN1 : Hid (n ≤ 100 ∧ (M.set k (around by_ 14 - 1, b)).length ≤ 100) := Lib.hid ⟨HNM.out.1, by rw [List.length_set]; exact HNM.out.2⟩
      have hB := HB1.out
      obtain ⟨C, hC⟩ : ∃ C : Array Value, C = #[.string nm, .slice A3 n c3, .slice (some ⟨bM, 0, none⟩) (M.set k (around by_ 14 - 1, b)).length c5] := ⟨_, rfl⟩
      have ho := hB.out
      rw [← hC] at ho
      have hR0 := hB.res
      have G1 : Hid ((Tryd.prog.info? 50).map (·.size) = some C.size) := Lib.hid (by rw [hC]; exact info50)
      have G2 : Hid (lifeZ.size = C.size) := Lib.hid (by rw [hC]; rfl)
      have G3 : Hid (C.all (·.oneCell') = true) := Lib.hid (by rw [hC]; simp [Value.oneCell'])
      have hrv := Reads.of_own (own_setRowL hB.mv (show w.heap.size + 1 < w.heap.size + 3 by omega) C)
      have hb9 := below_setRow hB.bel (show w.heap.size ≤ w.heap.size + 1 by omega) C
      have HX := Lib.hid (And.intro hrv hb9)
      have HCE := Lib.hid hC
      clear hrv hb9 hC hB
      go_wp2_with (first
        | (with_reducible refine wpList_load_row rfl 50 _ rfl (w.heap.size + 2) rfl 50 C (0, 0) _ ho.heap_ Tryd.underlying50 rfl G1.out ?_)
        | (with_reducible refine wpList_store_row rfl 50 _ _ rfl (w.heap.size + 1) C rfl rfl 50 lifeZ hR0.heap_ G1.out G2.out G3.out ?_))
      refine ret_row (g := w.heap.size + 1) (cs := C) (t := 50) Tryd.results34 ?_ (hR0.row C) rfl Tryd.underlying50 G1.out ?_ ?_
      · rfl
      · rfl
      · exact ⟨_, _, _, _, _, _, _, (M.set k (around by_ 14 - 1, b)), by rw [HCE.out], HX.out.1, by have := HN1.out; omega, by have := HN1.out; omega, HX.out.2⟩
    · go_upto_region 17 with fail
      have q1s : (w8.setCell ⟨(ad.add (k * 2)).block, (ad.add (k * 2)).off + 1, none⟩ (.int .i64 (around by_ 14 - 1))).cell? ⟨w.heap.size + 2, 2, none⟩ = some (.slice (some ad) L c5) := by
        rw [World.cell?_setCell_other _ _ _ _ (fun e => hne (by have h := congrArg Addr.block e; simpa [block_add] using h))]
        exact q1
      go_region_held3 (fun W => W.cell? ⟨w.heap.size + 2, 2, none⟩ = some (.slice (some ad) L c5))
        (first | exact q1 | exact q1s)
        (first | (go_at_call 15; (refine (around_any by_ 14 _ hby.1 hby.2 (by omega) (by omega)).mono ?_); rintro E w9 ⟨rfl, rfl⟩))
      have HB1 : Hid (BSt w nm (w8.setCell ⟨(ad.add (k * 2)).block, (ad.add (k * 2)).off + 1, none⟩ (.int .i64 (around by_ 14 - 1))).drew (.slice A3 n c3) (.slice (some ⟨bM, 0, none⟩) (M.set k (a, around by_ 14 - 1)).length c5) n xs (M.set k (a, around by_ 14 - 1))) := Lib.hid (by
        have h := HB0.out.poke (i := 2 * k + 1) (u := .int .i64 (around by_ 14 - 1)) (M' := M.set k (a, around by_ 14 - 1)) (by omega) (List.length_set ..) (movsV_set2 M HAB.out _)
        have e : (⟨(ad.add (k * 2)).block, (ad.add (k * 2)).off + 1, none⟩ : Addr) = ⟨bM, 2 * k + 1, none⟩ := by rw [← HAD.out]; rw [addr_at0, Nat.mul_comm]
        rw [e]
        exact h.low (Below.drew (Below.refl _ _)))
      have HN1 : Hid (n ≤ 100 ∧ (M.set k (a, around by_ 14 - 1)).length ≤ 100) := Lib.hid ⟨HNM.out.1, by rw [List.length_set]; exact HNM.out.2⟩
      have hB := HB1.out
      obtain ⟨C, hC⟩ : ∃ C : Array Value, C = #[.string nm, .slice A3 n c3, .slice (some ⟨bM, 0, none⟩) (M.set k (a, around by_ 14 - 1)).length c5] := ⟨_, rfl⟩
      have ho := hB.out
      rw [← hC] at ho
      have hR0 := hB.res
      have G1 : Hid ((Tryd.prog.info? 50).map (·.size) = some C.size) := Lib.hid (by rw [hC]; exact info50)
      have G2 : Hid (lifeZ.size = C.size) := Lib.hid (by rw [hC]; rfl)
      have G3 : Hid (C.all (·.oneCell') = true) := Lib.hid (by rw [hC]; simp [Value.oneCell'])
      have hrv := Reads.of_own (own_setRowL hB.mv (show w.heap.size + 1 < w.heap.size + 3 by omega) C)
      have hb9 := below_setRow hB.bel (show w.heap.size ≤ w.heap.size + 1 by omega) C
      have HX := Lib.hid (And.intro hrv hb9)
      have HCE := Lib.hid hC
      clear hrv hb9 hC hB
      go_wp2_with (first
        | (with_reducible refine wpList_load_row rfl 50 _ rfl (w.heap.size + 2) rfl 50 C (0, 0) _ ho.heap_ Tryd.underlying50 rfl G1.out ?_)
        | (with_reducible refine wpList_store_row rfl 50 _ _ rfl (w.heap.size + 1) C rfl rfl 50 lifeZ hR0.heap_ G1.out G2.out G3.out ?_))
      refine ret_row (g := w.heap.size + 1) (cs := C) (t := 50) Tryd.results34 ?_ (hR0.row C) rfl Tryd.underlying50 G1.out ?_ ?_
      · rfl
      · rfl
      · exact ⟨_, _, _, _, _, _, _, (M.set k (a, around by_ 14 - 1)), by rw [HCE.out], HX.out.1, by have := HN1.out; omega, by have := HN1.out; omega, HX.out.2⟩
    · go_upto_region 20 with fail
      have HB3 := HB0.out.low (Below.drew (Below.refl _ _))
      have hl : M.length = L := HTL.out.2.symm
      have HLL := Lib.hid hl
      have od : w8.drew.ownsRow (w.heap.size + 3) 54 2 (.slice (some ad) L c5) L (movsV M) := by
        have h := HB3.mv
        rw [hl, HAD.out] at h
        exact h
      have kd : Blk w8.drew (w.heap.size + 2) 50 #[.string nm, .slice A3 n c3, .slice (some ad) L c5] := by
        have h := HB3.out
        rw [hl, HAD.out] at h
        exact h
      have hz9 := HB0.out.size
      have S0 : w8.drew.cell? ⟨w.heap.size + 2, 2, none⟩ = some (.slice (some ad) L c5) ∧ w8.drew.cell? (ad.add (k * 2)) = some (.int .i64 a) ∧ w8.drew.cell? ⟨(ad.add (k * 2)).block, (ad.add (k * 2)).off + 1, none⟩ = some (.int .i64 b) := ⟨q1, ca, cb⟩
      refine wp_region_but (fun W => W.cell? ⟨w.heap.size + 2, 2, none⟩ = some (.slice (some ad) L c5) ∧ W.cell? (ad.add (k * 2)) = some (.int .i64 a) ∧ W.cell? ⟨(ad.add (k * 2)).block, (ad.add (k * 2)).off + 1, none⟩ = some (.int .i64 b)) [8] (by kernel_rfl) S0 fun hS0 => ?_
      refine wpBut_pure 0 (v := (.pointer (some ⟨w.heap.size + 2, 2, none⟩))) rfl (by kernel_rfl) (fun _ _ _ h => h) ⟨by rfl, fun W => ?_⟩ (fun _ => hS0) ?_
      · go_simp
      simp only [List.getElem_toArray, List.getElem_cons_succ, List.getElem_cons_zero, Act.put, List.setIfInBounds_toArray, List.set_cons_zero, List.set_cons_succ]
      refine wpBut_takeF 1 6 (v := (.slice (some ad) L c5)) rfl (by kernel_rfl) (fun _ _ _ h => h) ⟨by rfl, fun W hW => ?_⟩ hS0 ?_
      · obtain ⟨s1, s2, s3⟩ := hW
        go_simp
      simp only [List.getElem_toArray, List.getElem_cons_succ, List.getElem_cons_zero, Act.put, List.setIfInBounds_toArray, List.set_cons_zero, List.set_cons_succ]
      refine wpBut_pure 2 (v := (.pointer (some ⟨w.heap.size + 2, 2, none⟩))) rfl (by kernel_rfl) (fun _ _ _ h => h) ⟨by rfl, fun W => ?_⟩ (fun _ => hS0) ?_
      · go_simp
      simp only [List.getElem_toArray, List.getElem_cons_succ, List.getElem_cons_zero, Act.put, List.setIfInBounds_toArray, List.set_cons_zero, List.set_cons_succ]
      refine wpBut_takeF 3 6 (v := (.slice (some ad) L c5)) rfl (by kernel_rfl) (fun _ _ _ h => h) ⟨by rfl, fun W hW => ?_⟩ hS0 ?_
      · obtain ⟨s1, s2, s3⟩ := hW
        go_simp
      simp only [List.getElem_toArray, List.getElem_cons_succ, List.getElem_cons_zero, Act.put, List.setIfInBounds_toArray, List.set_cons_zero, List.set_cons_succ]
      refine wpBut_pure 4 (v := (.int .i64 (k : Int))) rfl (by kernel_rfl) (fun _ _ _ h => h) ⟨by rfl, fun W => ?_⟩ (fun _ => hS0) ?_
      · go_simp
      simp only [List.getElem_toArray, List.getElem_cons_succ, List.getElem_cons_zero, Act.put, List.setIfInBounds_toArray, List.set_cons_zero, List.set_cons_succ]
      refine wpBut_pure 5 (v := (.pointer (some (ad.add (k * 2))))) rfl (by kernel_rfl) (fun _ _ _ h => h) ⟨by rfl, fun W => ?_⟩ (fun _ => hS0) ?_
      · go_simp
      simp only [List.getElem_toArray, List.getElem_cons_succ, List.getElem_cons_zero, Act.put, List.setIfInBounds_toArray, List.set_cons_zero, List.set_cons_succ]
      refine wpBut_takeF 6 6 (v := (.agg #[.int .i64 a, .int .i64 b])) rfl (by kernel_rfl) (fun _ _ _ h => h) ⟨by rfl, fun W hW => ?_⟩ hS0 ?_
      · obtain ⟨s1, s2, s3⟩ := hW
        go_simp
      simp only [List.getElem_toArray, List.getElem_cons_succ, List.getElem_cons_zero, Act.put, List.setIfInBounds_toArray, List.set_cons_zero, List.set_cons_succ]
      refine wpBut_one 7 rfl (by kernel_rfl) fun K hK => ?_
      go_simp
      refine hK.out _ _ ⟨(kd.alloc _).at_ rfl, (cell_alloc_of ca), (cell_alloc_of cb)⟩ fun hS1 => ?_
      clear hK K
      refine wpBut_seq 8 (g := 2) (by decide) (by decide) (by rfl) (by kernel_rfl) ?_
      simp only [List.drop_succ_cons, List.drop_zero]
      go_upto_region 29 with (at_builtin; refine wpList_append_own _ rfl _ _ 48 rfl (w.heap.size + 3) 54 i54 (.agg #[.int .i64 0, .int .i64 0]) 2 16 Tryd.underlying48 h54 x0 x1 x2 rfl (by decide) _ _ _ rfl (od.alloc _) ⟨w8.drew.heap.size, 0, none⟩ 1 1 [.int .i64 a, .int .i64 b] rfl rfl (cell_two_new _ _ _ _) (by simp [Value.oneCell']) (by unfold maxLen; omega) (by omega) (by simp; omega) ?_; intro va wa oa ga _; obtain ⟨Aa, ca', rfl, -, -, -⟩ := own_slice oa; have ka := (kd.alloc (.cells #[.int .i64 a, .int .i64 b] 54)).grown ga (fun e => by have := (od.lt _ e.symm).1; omega); have ta : wa.cell? ⟨w.heap.size + 2, 2, none⟩ = some (.slice (some ad) L c5) := ka.at_ rfl; have fka := ka.frozen 2)
      have hlen : (M ++ [(a, b)]).length = L + 1 := by rw [List.length_append, HLL.out]; rfl
      have ga2 : (w8.drew.alloc (.cells #[.int .i64 a, .int .i64 b] 54)).grownBy wa (Value.slice (some ⟨bM, 0, none⟩) M.length c5).ownBlock := by
        have h := ga
        rw [← HAD.out] at h
        exact h
      have hnew := HB3.newM (M' := M ++ [(a, b)]) ((Below.refl _ w8.drew).alloc (Nat.le_refl _) (.cells #[.int .i64 a, .int .i64 b] 54)) ga2 (by rw [movsV_snoc, hlen]; exact oa)
      have HBn : Hid (BSt w nm (wa.setCell ⟨w.heap.size + 2, 2, none⟩ (.slice Aa (L + 1) ca')) (.slice A3 n c3) (.slice Aa (M ++ [(a, b)]).length ca') n xs (M ++ [(a, b)])) := Lib.hid (by rw [hlen]; exact hnew)
      have HNn : Hid (n ≤ 100 ∧ (M ++ [(a, b)]).length ≤ 100) := Lib.hid ⟨HNM.out.1, by rw [hlen]; omega⟩
      clear hnew hlen
      have hB := HBn.out
      obtain ⟨C, hC⟩ : ∃ C : Array Value, C = #[.string nm, .slice A3 n c3, .slice Aa (M ++ [(a, b)]).length ca'] := ⟨_, rfl⟩
      have ho := hB.out
      rw [← hC] at ho
      have hR0 := hB.res
      have G1 : Hid ((Tryd.prog.info? 50).map (·.size) = some C.size) := Lib.hid (by rw [hC]; exact info50)
      have G2 : Hid (lifeZ.size = C.size) := Lib.hid (by rw [hC]; rfl)
      have G3 : Hid (C.all (·.oneCell') = true) := Lib.hid (by rw [hC]; simp [Value.oneCell'])
      have hrv := Reads.of_own (own_setRowL hB.mv (show w.heap.size + 1 < w.heap.size + 3 by omega) C)
      have hb9 := below_setRow hB.bel (show w.heap.size ≤ w.heap.size + 1 by omega) C
      have HX := Lib.hid (And.intro hrv hb9)
      have HCE := Lib.hid hC
      clear hrv hb9 hC hB
      go_wp2_with (first
        | (with_reducible refine wpList_load_row rfl 50 _ rfl (w.heap.size + 2) rfl 50 C (0, 0) _ ho.heap_ Tryd.underlying50 rfl G1.out ?_)
        | (with_reducible refine wpList_store_row rfl 50 _ _ rfl (w.heap.size + 1) C rfl rfl 50 lifeZ hR0.heap_ G1.out G2.out G3.out ?_))
      refine ret_row (g := w.heap.size + 1) (cs := C) (t := 50) Tryd.results34 ?_ (hR0.row C) rfl Tryd.underlying50 G1.out ?_ ?_
      · rfl
      · rfl
      · exact ⟨_, _, _, _, _, _, _, (M ++ [(a, b)]), by rw [HCE.out], HX.out.1, by have := HNn.out; omega, by have := HNn.out; omega, HX.out.2⟩
    · go_upto_region 23 with fail
      have S0 : w8.drew.cell? ⟨w.heap.size + 2, 2, none⟩ = some (.slice (some ad) L c5) := q1
      have hLc : L ≤ c5 := by
        obtain ⟨_, _, e, hc, -, -⟩ := own_slice HB0.out.mv
        injection e with _ _ e
        have := HTL.out
        omega
      have hk1 : (k : Int) ≤ (c5 : Int) := by omega
      have hk1' : k ≤ c5 := by omega
      have hk2 : (k : Int) + 1 ≤ (L : Int) := by omega
      have hk3 : (k : Int) + 1 ≤ (c5 : Int) := by omega
      have hk4 : (L : Int) ≤ (c5 : Int) := by omega
      have hkw : IntKind.i64.wrap ((k : Int) + 1) = (k : Int) + 1 := by rw [IntKind.wrap_i64]; omega
      have hk5 : (0 : Int) ≤ (k : Int) + 1 := by omega
      have HB3 := HB0.out.low (Below.drew (Below.refl _ _))
      have hl : M.length = L := HTL.out.2.symm
      have od : w8.drew.ownsRow (w.heap.size + 3) 54 2 (.slice (some ad) L c5) L (movsV M) := by
        have h := HB3.mv
        rw [hl, HAD.out] at h
        exact h
      have kd : Blk w8.drew (w.heap.size + 2) 50 #[.string nm, .slice A3 n c3, .slice (some ad) L c5] := by
        have h := HB3.out
        rw [hl, HAD.out] at h
        exact h
      have hzd := HB3.size
      have odk := own_takeP od (show k ≤ L by omega)
      obtain ⟨news, hnw⟩ : ∃ news, news = (movsV M).drop ((k + 1) * 2) := ⟨_, rfl⟩
      obtain ⟨R, hR⟩ : ∃ R, R = L - (k + 1) := ⟨_, rfl⟩
      have hR32 : R ≤ 32 := by omega
      have hnl : news.length = R * 2 := by rw [hnw, List.length_drop, movsV_length]; omega
      have hn1 : ∀ u ∈ news, u.oneCell' = true := fun u hu => movsV_one M u (by rw [hnw] at hu; exact List.mem_of_mem_drop hu)
      obtain ⟨AR, hAR, hnc⟩ : ∃ AR : Addr, (if c5 = k + 1 then some ad else some (ad.add ((k + 1) * 2))) = some AR ∧ Hid (∀ (t : Nat) (u : Value), news[t]? = some u → w8.drew.cell? (AR.add t) = some u) := by
        by_cases hd : c5 = k + 1
        · refine ⟨ad, by rw [if_pos hd], Lib.hid fun t u hu => ?_⟩
          rw [List.eq_nil_of_length_eq_zero (show news.length = 0 by omega)] at hu
          cases hu
        · refine ⟨ad.add ((k + 1) * 2), by rw [if_neg hd], Lib.hid fun t u hu => ?_⟩
          rw [hnw, List.getElem?_drop] at hu
          have h := HB3.mv.cells (g := bM) rfl _ u hu
          rw [← HAD.out, addr_at0]
          rw [addr_at0] at h
          cases t <;> simpa [Addr.add] using h
      have HNW := Lib.hid hnw
      have HR := Lib.hid hR
      clear hnw hl hR
      refine wp_region_but (fun W => W.cell? ⟨w.heap.size + 2, 2, none⟩ = some (.slice (some ad) L c5)) [9] (by kernel_rfl) S0 fun hS0 => ?_
      refine wpBut_pure 0 (v := (.pointer (some ⟨w.heap.size + 2, 2, none⟩))) rfl (by kernel_rfl) (fun _ _ _ h => h) ⟨by rfl, fun W => ?_⟩ (fun _ => hS0) ?_
      · go_simp
      simp only [List.getElem_toArray, List.getElem_cons_succ, List.getElem_cons_zero, Act.put, List.setIfInBounds_toArray, List.set_cons_zero, List.set_cons_succ]
      refine wpBut_takeF 1 6 (v := (.slice (some ad) L c5)) rfl (by kernel_rfl) (fun _ _ _ h => h) ⟨by rfl, fun W hW => ?_⟩ hS0 ?_
      · have s1 := hW
        go_simp
      simp only [List.getElem_toArray, List.getElem_cons_succ, List.getElem_cons_zero, Act.put, List.setIfInBounds_toArray, List.set_cons_zero, List.set_cons_succ]
      refine wpBut_pure 2 (v := (.int .i64 (k : Int))) rfl (by kernel_rfl) (fun _ _ _ h => h) ⟨by rfl, fun W => ?_⟩ (fun _ => hS0) ?_
      · go_simp
      simp only [List.getElem_toArray, List.getElem_cons_succ, List.getElem_cons_zero, Act.put, List.setIfInBounds_toArray, List.set_cons_zero, List.set_cons_succ]
      refine wpBut_pure 3 (v := (.slice (some ad) k c5)) rfl (by kernel_rfl) (fun _ _ _ h => h) ⟨by rfl, fun W => ?_⟩ (fun _ => hS0) ?_
      · go_simp
      simp only [List.getElem_toArray, List.getElem_cons_succ, List.getElem_cons_zero, Act.put, List.setIfInBounds_toArray, List.set_cons_zero, List.set_cons_succ]
      refine wpBut_pure 4 (v := (.pointer (some ⟨w.heap.size + 2, 2, none⟩))) rfl (by kernel_rfl) (fun _ _ _ h => h) ⟨by rfl, fun W => ?_⟩ (fun _ => hS0) ?_
      · go_simp
      simp only [List.getElem_toArray, List.getElem_cons_succ, List.getElem_cons_zero, Act.put, List.setIfInBounds_toArray, List.set_cons_zero, List.set_cons_succ]
      refine wpBut_takeF 5 6 (v := (.slice (some ad) L c5)) rfl (by kernel_rfl) (fun _ _ _ h => h) ⟨by rfl, fun W hW => ?_⟩ hS0 ?_
      · have s1 := hW
        go_simp
      simp only [List.getElem_toArray, List.getElem_cons_succ, List.getElem_cons_zero, Act.put, List.setIfInBounds_toArray, List.set_cons_zero, List.set_cons_succ]
      refine wpBut_pure 6 (v := (.int .i64 (k : Int))) rfl (by kernel_rfl) (fun _ _ _ h => h) ⟨by rfl, fun W => ?_⟩ (fun _ => hS0) ?_
      · go_simp
      simp only [List.getElem_toArray, List.getElem_cons_succ, List.getElem_cons_zero, Act.put, List.setIfInBounds_toArray, List.set_cons_zero, List.set_cons_succ]
      refine wpBut_pure 7 (v := (.int .i64 ((k : Int) + 1))) rfl (by kernel_rfl) (fun _ _ _ h => h) ⟨by rfl, fun W => ?_⟩ (fun _ => hS0) ?_
      · go_simp
      simp only [List.getElem_toArray, List.getElem_cons_succ, List.getElem_cons_zero, Act.put, List.setIfInBounds_toArray, List.set_cons_zero, List.set_cons_succ]
      refine wpBut_pure 8 (v := .slice (some AR) R (c5 - (k + 1))) rfl (by kernel_rfl) (fun _ _ _ h => h) ⟨by rfl, fun W => ?_⟩ (fun _ => hS0) ?_
      · go_simp
        first
          | (rw [if_pos hk5, hAR, HR.out]; done)
          | exact HR.out.symm
      simp only [List.getElem_toArray, List.getElem_cons_succ, List.getElem_cons_zero, Act.put, List.setIfInBounds_toArray, List.set_cons_zero, List.set_cons_succ]
      refine wpBut_seq 9 (g := 2) (by decide) (by decide) (by rfl) (by kernel_rfl) ?_
      simp only [List.drop_succ_cons, List.drop_zero]
      go_upto_region 29 with (at_builtin; refine wpList_append_own _ rfl _ _ 48 rfl (w.heap.size + 3) 54 i54 (.agg #[.int .i64 0, .int .i64 0]) 2 16 Tryd.underlying48 h54 x0 x1 x2 rfl (by decide) _ _ _ rfl odk AR R (c5 - (k + 1)) news rfl hnl hnc.out hn1 (by unfold maxLen; omega) (by omega) hzd ?_; intro va wa oa ga _; obtain ⟨Aa, ca', rfl, -, -, -⟩ := own_slice oa; have ka := kd.grown ga (fun e => by have := (odk.lt _ e.symm).1; omega); have ta : wa.cell? ⟨w.heap.size + 2, 2, none⟩ = some (.slice (some ad) L c5) := ka.at_ rfl; have fka := ka.frozen 2)
      have hE : movsV (M.eraseIdx k) = (movsV M).take (k * 2) ++ news := by rw [HNW.out]; exact movsV_erase M k
      have hlen : (M.eraseIdx k).length = k + R := by rw [List.length_eraseIdx, if_pos hkL]; have := HR.out; have := HTL.out.2; omega
      have ga2 : w8.drew.grownBy wa (Value.slice (some ⟨bM, 0, none⟩) M.length c5).ownBlock := by
        have h := ga
        rw [← HAD.out] at h
        exact h
      have hnew := HB3.newM (M' := M.eraseIdx k) (Below.refl _ _) ga2 (by rw [hE, hlen]; exact oa)
      have HBn : Hid (BSt w nm (wa.setCell ⟨w.heap.size + 2, 2, none⟩ (.slice Aa (k + R) ca')) (.slice A3 n c3) (.slice Aa (M.eraseIdx k).length ca') n xs (M.eraseIdx k)) := Lib.hid (by rw [hlen]; exact hnew)
      have HNn : Hid (n ≤ 100 ∧ (M.eraseIdx k).length ≤ 100) := Lib.hid ⟨HNM.out.1, by rw [hlen]; have := HR.out; omega⟩
      clear hnew hlen
      have hB := HBn.out
      obtain ⟨C, hC⟩ : ∃ C : Array Value, C = #[.string nm, .slice A3 n c3, .slice Aa (M.eraseIdx k).length ca'] := ⟨_, rfl⟩
      have ho := hB.out
      rw [← hC] at ho
      have hR0 := hB.res
      have G1 : Hid ((Tryd.prog.info? 50).map (·.size) = some C.size) := Lib.hid (by rw [hC]; exact info50)
      have G2 : Hid (lifeZ.size = C.size) := Lib.hid (by rw [hC]; rfl)
      have G3 : Hid (C.all (·.oneCell') = true) := Lib.hid (by rw [hC]; simp [Value.oneCell'])
      have hrv := Reads.of_own (own_setRowL hB.mv (show w.heap.size + 1 < w.heap.size + 3 by omega) C)
      have hb9 := below_setRow hB.bel (show w.heap.size ≤ w.heap.size + 1 by omega) C
      have HX := Lib.hid (And.intro hrv hb9)
      have HCE := Lib.hid hC
      clear hrv hb9 hC hB
      go_wp2_with (first
        | (with_reducible refine wpList_load_row rfl 50 _ rfl (w.heap.size + 2) rfl 50 C (0, 0) _ ho.heap_ Tryd.underlying50 rfl G1.out ?_)
        | (with_reducible refine wpList_store_row rfl 50 _ _ rfl (w.heap.size + 1) C rfl rfl 50 lifeZ hR0.heap_ G1.out G2.out G3.out ?_))
      refine ret_row (g := w.heap.size + 1) (cs := C) (t := 50) Tryd.results34 ?_ (hR0.row C) rfl Tryd.underlying50 G1.out ?_ ?_
      · rfl
      · rfl
      · exact ⟨_, _, _, _, _, _, _, (M.eraseIdx k), by rw [HCE.out], HX.out.1, by have := HNn.out; omega, by have := HNn.out; omega, HX.out.2⟩
    · go_wp2_with fail
      have har := fun (q : Nat) (W : World) => Calls.quiet_of_same (around_any by_ 3 (W.drewN q) hby.1 hby.2 (by omega) (by omega))
      have hzl3 := around_lt by_ 3 (by omega)
      obtain ⟨Z, hZ⟩ : ∃ Z : Nat, around by_ 3 = (Z : Int) := ⟨(around by_ 3).toNat, by omega⟩
      rw [hZ] at har hzl3
      have HAR := Lib.hid har
      have hZw : IntKind.i64.wrap (11 + (Z : Int)) = 11 + (Z : Int) := by rw [IntKind.wrap_i64]; omega
      have HN14 := Lib.hid hn
      clear har hZ q0 q1
      go_loopw [] (fun wr => ∃ (A' : Option Addr) (c' nS : Nat) (xS : List Value), Hid (BSt w nm wr (.slice A' nS c') (.slice (some ⟨bM, 0, none⟩) M.length c5) nS xS M) ∧ nS ≤ 14) (fun W => 40 - lenAt W (w.heap.size + 2))
      case atStart => exact ⟨A3, c3, n, xs, HB0, by omega⟩
      case round =>
        obtain ⟨A', c', nS, xS, HB, hnS⟩ := hrel
        have r1 : wr.cell? ⟨w.heap.size + 2, 1, none⟩ = some (.slice A' nS c') := HB.out.out.at_ rfl
        have HLA : Hid (lenAt wr (w.heap.size + 2) = nS) := Lib.hid (by unfold lenAt; rw [r1])
        by_cases hlt : (nS : Int) < 11 + (Z : Int)
        · go_wp2_with fail
          go_quiet (first | (go_at_call 15; exact HAR.out _ _))
          have HB2 := Lib.hid (HB.out.low (below_drewN' (Below.refl _ _) nq))
          clear r1 HB
          generalize wr.drewN nq = w9 at *
          have r1 : w9.cell? ⟨w.heap.size + 2, 1, none⟩ = some (.slice A' nS c') := HB2.out.out.at_ rfl
          have ost := HB2.out.st
          have kout := HB2.out.out
          have hz9 := HB2.out.size
          have hcn := cell_one_new w9 (.string ⟨#[]⟩) 9
          go_wp2_with (at_builtin; refine wpList_append_own _ rfl _ _ 47 rfl (w.heap.size + 3) 9 i9 (.string ⟨#[]⟩) 1 16 Tryd.underlying47 h9 y0 y1 y2 rfl (by decide) _ _ _ rfl (ost.alloc _) ⟨w9.heap.size, 0, none⟩ 1 1 [.string ⟨#[]⟩] rfl rfl hcn (by simp [Value.oneCell']) (by unfold maxLen; omega) (by omega) (by simp; omega) ?_; intro va wa oa ga _; obtain ⟨Aa, ca', rfl, -, -, -⟩ := own_slice oa; have ka := (kout.alloc (.cells #[.string ⟨#[]⟩] 9)).grown ga (fun e => by have := (ost.lt _ e.symm).1; omega); have ta : wa.cell? ⟨w.heap.size + 2, 1, none⟩ = some (.slice A' nS c') := ka.at_ rfl; have fka := ka.frozen 1)
          have hnew := HB2.out.newS ((Below.refl _ w9).alloc (Nat.le_refl _) (.cells #[.string ⟨#[]⟩] 9)) ga oa
          refine ⟨⟨Aa, ca', nS + 1, _, Lib.hid hnew, by omega⟩, ?_⟩
          have e2 : lenAt (wa.setCell ⟨w.heap.size + 2, 1, none⟩ (.slice Aa (nS + 1) ca')) (w.heap.size + 2) = nS + 1 := by
            unfold lenAt
            rw [hnew.out.at_ (i := 1) rfl]
            rfl
          rw [e2, HLA.out]
          omega
        · go_wp2_with fail
          go_quiet (first | (go_at_call 15; exact HAR.out _ _))
          have HB2 := Lib.hid (HB.out.low (below_drewN' (Below.refl _ _) nq))
          have HN2 : Hid (nS ≤ 100 ∧ M.length ≤ 100) := Lib.hid ⟨by omega, HNM.out.2⟩
          clear r1 HB
          generalize wr.drewN nq = w9 at *
          go_upto_region 29 with fail
          have hB := HB2.out
          obtain ⟨C, hC⟩ : ∃ C : Array Value, C = #[.string nm, .slice A' nS c', .slice (some ⟨bM, 0, none⟩) M.length c5] := ⟨_, rfl⟩
          have ho := hB.out
          rw [← hC] at ho
          have hR0 := hB.res
          have G1 : Hid ((Tryd.prog.info? 50).map (·.size) = some C.size) := Lib.hid (by rw [hC]; exact info50)
          have G2 : Hid (lifeZ.size = C.size) := Lib.hid (by rw [hC]; rfl)
          have G3 : Hid (C.all (·.oneCell') = true) := Lib.hid (by rw [hC]; simp [Value.oneCell'])
          have hrv := Reads.of_own (own_setRowL hB.mv (show w.heap.size + 1 < w.heap.size + 3 by omega) C)
          have hb9 := below_setRow hB.bel (show w.heap.size ≤ w.heap.size + 1 by omega) C
          have HX := Lib.hid (And.intro hrv hb9)
          have HCE := Lib.hid hC
          clear hrv hb9 hC hB
          go_wp2_with (first
            | (with_reducible refine wpList_load_row rfl 50 _ rfl (w.heap.size + 2) rfl 50 C (0, 0) _ ho.heap_ Tryd.underlying50 rfl G1.out ?_)
            | (with_reducible refine wpList_store_row rfl 50 _ _ rfl (w.heap.size + 1) C rfl rfl 50 lifeZ hR0.heap_ G1.out G2.out G3.out ?_))
          refine ret_row (g := w.heap.size + 1) (cs := C) (t := 50) Tryd.results34 ?_ (hR0.row C) rfl Tryd.underlying50 G1.out ?_ ?_
          · rfl
          · rfl
          · exact ⟨_, _, _, _, _, _, _, M, by rw [HCE.out], HX.out.1, by have := HN2.out; omega, by have := HN2.out; omega, HX.out.2⟩
    · go_upto_region 29 with fail
      have HB5 : Hid (BSt w nm (w8.setCell ⟨w.heap.size + 2, 1, none⟩ (.slice none 0 0)) (.slice none 0 0) (.slice (some ⟨bM, 0, none⟩) M.length c5) 0 [] M) := Lib.hid (HB0.out.newS (Below.refl _ _) (grown_none _ _) (World.ownsRow_nil _ _ _ _))
      have HN5 : Hid (0 ≤ 100 ∧ M.length ≤ 100) := Lib.hid ⟨by omega, HNM.out.2⟩
      have hB := HB5.out
      obtain ⟨C, hC⟩ : ∃ C : Array Value, C = #[.string nm, .slice none 0 0, .slice (some ⟨bM, 0, none⟩) M.length c5] := ⟨_, rfl⟩
      have ho := hB.out
      rw [← hC] at ho
      have hR0 := hB.res
      have G1 : Hid ((Tryd.prog.info? 50).map (·.size) = some C.size) := Lib.hid (by rw [hC]; exact info50)
      have G2 : Hid (lifeZ.size = C.size) := Lib.hid (by rw [hC]; rfl)
      have G3 : Hid (C.all (·.oneCell') = true) := Lib.hid (by rw [hC]; simp [Value.oneCell'])
      have hrv := Reads.of_own (own_setRowL hB.mv (show w.heap.size + 1 < w.heap.size + 3 by omega) C)
      have hb9 := below_setRow hB.bel (show w.heap.size ≤ w.heap.size + 1 by omega) C
      have HX := Lib.hid (And.intro hrv hb9)
      have HCE := Lib.hid hC
      clear hrv hb9 hC hB
      go_wp2_with (first
        | (with_reducible refine wpList_load_row rfl 50 _ rfl (w.heap.size + 2) rfl 50 C (0, 0) _ ho.heap_ Tryd.underlying50 rfl G1.out ?_)
        | (with_reducible refine wpList_store_row rfl 50 _ _ rfl (w.heap.size + 1) C rfl rfl 50 lifeZ hR0.heap_ G1.out G2.out G3.out ?_))
      refine ret_row (g := w.heap.size + 1) (cs := C) (t := 50) Tryd.results34 ?_ (hR0.row C) rfl Tryd.underlying50 G1.out ?_ ?_
      · rfl
      · rfl
      · exact ⟨_, _, _, _, _, _, _, M, by rw [HCE.out], HX.out.1, by have := HN5.out; omega, by have := HN5.out; omega, HX.out.2⟩
    · have hNe : ∃ N : Nat, N = max n 1 := ⟨_, rfl⟩
      obtain ⟨N, hN⟩ := hNe
      have hmx6 := fun ts t W => run_max_int2 (P := Tryd.prog) (w := W) ts t .i64 .i64 (n : Int) 1
      rw [show (if (1 : Int) > (n : Int) then (1 : Int) else (n : Int)) = (N : Int) by rw [hN]; split <;> omega] at hmx6
      have hN1 : 1 ≤ N := by omega
      have hNi : ¬ (N : Int) = 0 := by omega
      have hNn : N ≠ 0 := by omega
      clear hN
      go_wp2_with fail
      have har := fun (q : Nat) (W : World) => Calls.quiet_of_same (around_any by_ 3 (W.drewN q) hby.1 hby.2 (by omega) (by omega))
      have hzl3 := around_lt by_ 3 (by omega)
      obtain ⟨Z, hZ⟩ : ∃ Z : Nat, around by_ 3 = (Z : Int) := ⟨(around by_ 3).toNat, by omega⟩
      rw [hZ] at har hzl3
      have HAR := Lib.hid har
      have hZw : IntKind.i64.wrap (31 + (Z : Int)) = 31 + (Z : Int) := by rw [IntKind.wrap_i64]; omega
      have hMn := HNM.out.2
      have hM32 : M.length ≤ 32 := HL.out
      clear har hZ q0 q1
      go_loopw [13] (fun iv wr => ∃ (ii : Nat) (A2 : Option Addr) (c2 : Nat) (M2 : List (Int × Int)), iv = .int .i64 (ii : Int) ∧ ii ≤ 40 ∧ Hid (BSt w nm wr (.slice A3 n c3) (.slice A2 M2.length c2) n xs M2) ∧ Hid (M2.length ≤ 40) ∧ Hid (ii ≤ M2.length)) (fun iv _ => 40 - (intOf iv).toNat)
      case atStart => exact ⟨0, _, _, M, rfl, by omega, HB0, Lib.hid (by omega), Lib.hid (by omega)⟩
      case round =>
        obtain ⟨ii, A2, c2, M2, rfl, hii, HB, HM2, HIM⟩ := hrel
        have r2 : wr.cell? ⟨w.heap.size + 2, 2, none⟩ = some (.slice A2 M2.length c2) := HB.out.out.at_ rfl
        by_cases hlt : (M2.length : Int) < 31 + (Z : Int)
        · go_wp2_with fail
          go_quiet (first | (go_at_call 15; exact HAR.out _ _))
          have HB2 := Lib.hid (HB.out.low (below_drewN' (Below.refl _ _) nq))
          clear r2 HB
          generalize wr.drewN nq = w9 at *
          have r2 : w9.cell? ⟨w.heap.size + 2, 2, none⟩ = some (.slice A2 M2.length c2) := HB2.out.out.at_ rfl
          have r2d : w9.drew.cell? ⟨w.heap.size + 2, 2, none⟩ = some (.slice A2 M2.length c2) := r2
          have HB3 := HB2.out.low (Below.drew (Below.refl _ _))
          have od := HB3.mv
          have kd := HB3.out
          have hz9 := HB2.out.size
          obtain ⟨ix, hix⟩ : ∃ ix : Nat, ix = ii % N := ⟨_, rfl⟩
          obtain ⟨iq, hiq⟩ : ∃ iq : Nat, iq = ii / N := ⟨_, rfl⟩
          obtain ⟨iy, hiy⟩ : ∃ iy : Nat, iy = iq % N := ⟨_, rfl⟩
          have e1 : (ii : Int) % (N : Int) = (ix : Int) := by rw [hix]; rfl
          have e2 : (ii : Int) / (N : Int) = (iq : Int) := by rw [hiq]; rfl
          have e3 : (iq : Int) % (N : Int) = (iy : Int) := by rw [hiy]; rfl
          have e4 : (ii : Int).tmod (N : Int) = (ix : Int) := by rw [hix]; rfl
          have e5 : (iq : Int).tmod (N : Int) = (iy : Int) := by rw [hiy]; rfl
          have e6 : IntKind.i64.wrap (iq : Int) = (iq : Int) := by have := Nat.div_le_self ii N; rw [IntKind.wrap_i64]; omega
          have hM2 := HM2.out
          clear hix hiq hiy
          go_upto_region 11 with fail
          refine wp_region_but (fun W => W.cell? ⟨w.heap.size + 2, 2, none⟩ = some (.slice A2 M2.length c2)) [14] (by kernel_rfl) r2d fun hS0 => ?_
          refine wpBut_pure 0 (v := (.pointer (some ⟨w.heap.size + 2, 2, none⟩))) rfl (by kernel_rfl) (fun _ _ _ h => h) ⟨by rfl, fun W => ?_⟩ (fun _ => hS0) ?_
          · go_simp
          simp only [List.getElem_toArray, List.getElem_cons_succ, List.getElem_cons_zero, Act.put, List.setIfInBounds_toArray, List.set_cons_zero, List.set_cons_succ]
          refine wpBut_take 1 (v := (.slice A2 M2.length c2)) rfl (by kernel_rfl) (fun _ _ _ h => h) ⟨by rfl, fun W hW => ?_⟩ hS0 ?_
          · go_simp
          simp only [List.getElem_toArray, List.getElem_cons_succ, List.getElem_cons_zero, Act.put, List.setIfInBounds_toArray, List.set_cons_zero, List.set_cons_succ]
          refine wpBut_pure 2 (v := (.int .i64 (ii : Int))) rfl (by kernel_rfl) (fun _ _ _ h => h) ⟨by rfl, fun W => ?_⟩ (fun _ => hS0) ?_
          · go_simp
          simp only [List.getElem_toArray, List.getElem_cons_succ, List.getElem_cons_zero, Act.put, List.setIfInBounds_toArray, List.set_cons_zero, List.set_cons_succ]
          refine wpBut_pure 3 (v := (.int .i64 (N : Int))) rfl (by kernel_rfl) (fun _ _ _ h => h) ⟨by rfl, fun W => ?_⟩ (fun _ => hS0) ?_
          · go_simp
          simp only [List.getElem_toArray, List.getElem_cons_succ, List.getElem_cons_zero, Act.put, List.setIfInBounds_toArray, List.set_cons_zero, List.set_cons_succ]
          refine wpBut_pure 4 (v := (.int .i64 (ix : Int))) rfl (by kernel_rfl) (fun _ _ _ h => h) ⟨by rfl, fun W => ?_⟩ (fun _ => hS0) ?_
          · go_simp
          simp only [List.getElem_toArray, List.getElem_cons_succ, List.getElem_cons_zero, Act.put, List.setIfInBounds_toArray, List.set_cons_zero, List.set_cons_succ]
          refine wpBut_pure 5 (v := (.int .i64 (ii : Int))) rfl (by kernel_rfl) (fun _ _ _ h => h) ⟨by rfl, fun W => ?_⟩ (fun _ => hS0) ?_
          · go_simp
          simp only [List.getElem_toArray, List.getElem_cons_succ, List.getElem_cons_zero, Act.put, List.setIfInBounds_toArray, List.set_cons_zero, List.set_cons_succ]
          refine wpBut_pure 6 (v := (.int .i64 (N : Int))) rfl (by kernel_rfl) (fun _ _ _ h => h) ⟨by rfl, fun W => ?_⟩ (fun _ => hS0) ?_
          · go_simp
          simp only [List.getElem_toArray, List.getElem_cons_succ, List.getElem_cons_zero, Act.put, List.setIfInBounds_toArray, List.set_cons_zero, List.set_cons_succ]
          refine wpBut_pure 7 (v := (.int .i64 (iq : Int))) rfl (by kernel_rfl) (fun _ _ _ h => h) ⟨by rfl, fun W => ?_⟩ (fun _ => hS0) ?_
          · go_simp
          simp only [List.getElem_toArray, List.getElem_cons_succ, List.getElem_cons_zero, Act.put, List.setIfInBounds_toArray, List.set_cons_zero, List.set_cons_succ]
          refine wpBut_pure 8 (v := (.int .i64 (N : Int))) rfl (by kernel_rfl) (fun _ _ _ h => h) ⟨by rfl, fun W => ?_⟩ (fun _ => hS0) ?_
          · go_simp
          simp only [List.getElem_toArray, List.getElem_cons_succ, List.getElem_cons_zero, Act.put, List.setIfInBounds_toArray, List.set_cons_zero, List.set_cons_succ]
          refine wpBut_pure 9 (v := (.int .i64 (iy : Int))) rfl (by kernel_rfl) (fun _ _ _ h => h) ⟨by rfl, fun W => ?_⟩ (fun _ => hS0) ?_
          · go_simp
          simp only [List.getElem_toArray, List.getElem_cons_succ, List.getElem_cons_zero, Act.put, List.setIfInBounds_toArray, List.set_cons_zero, List.set_cons_succ]
          refine wpBut_pure 10 (v := (.agg #[.int .i64 (ix : Int), .int .i64 (iy : Int)])) rfl (by kernel_rfl) (fun _ _ _ h => h) ⟨by rfl, fun W => ?_⟩ (fun _ => hS0) ?_
          · go_simp
          simp only [List.getElem_toArray, List.getElem_cons_succ, List.getElem_cons_zero, Act.put, List.setIfInBounds_toArray, List.set_cons_zero, List.set_cons_succ]
          refine wpBut_one 11 rfl (by kernel_rfl) fun K hK => ?_
          go_simp
          refine hK.out _ _ ((kd.alloc _).at_ rfl) fun hS1 => ?_
          clear hK K
          refine wpBut_one 12 rfl (by kernel_rfl) fun K hK => ?_
          rw [if_pos (by rfl)]
          refine wp_append_own _ _ _ 48 rfl (w.heap.size + 3) 54 i54 (.agg #[.int .i64 0, .int .i64 0]) 2 16 Tryd.underlying48 h54 x0 x1 x2 rfl (by decide) _ _ _ rfl (od.alloc _) ⟨w9.drew.heap.size, 0, none⟩ 1 1 [.int .i64 (ix : Int), .int .i64 (iy : Int)] rfl rfl (cell_two_new _ _ _ _) (by simp [Value.oneCell']) (by unfold maxLen; omega) (by omega) (by simp; omega) ?_
          intro va wa oa ga _
          obtain ⟨Aa, ca', rfl, -, -, -⟩ := own_slice oa
          have ka := (kd.alloc (.cells #[.int .i64 (ix : Int), .int .i64 (iy : Int)] 54)).grown ga (fun e => by have := (od.lt _ e.symm).1; omega)
          have ta : wa.cell? ⟨w.heap.size + 2, 2, none⟩ = some (.slice A2 M2.length c2) := ka.at_ rfl
          have fka := ka.frozen 2
          refine hK.out _ _ ta fun hS2 => ?_
          clear hK K
          refine wpBut_pure 13 (v := (.pointer (some ⟨w.heap.size + 2, 2, none⟩))) rfl (by kernel_rfl) (fun _ _ _ h => h) ⟨by rfl, fun W => ?_⟩ (fun _ => hS2) ?_
          · go_simp
          simp only [List.getElem_toArray, List.getElem_cons_succ, List.getElem_cons_zero, Act.put, List.setIfInBounds_toArray, List.set_cons_zero, List.set_cons_succ]
          refine wpBut_seq 14 (g := 0) (by decide) (by decide) (by rfl) (by kernel_rfl) ?_
          simp only [List.drop_succ_cons, List.drop_zero]
          go_upto_region 10 with fail
          have hM40 := HM2.out
          have him := HIM.out
          have hnew := HB3.newM (M' := M2 ++ [((ix : Int), (iy : Int))]) ((Below.refl _ w9.drew).alloc (Nat.le_refl _) (.cells #[.int .i64 (ix : Int), .int .i64 (iy : Int)] 54)) ga (by rw [movsV_snoc, List.length_append]; exact oa)
          have hlen : (M2 ++ [((ix : Int), (iy : Int))]).length = M2.length + 1 := by simp
          have HNEW := Lib.hid hnew
          clear hnew
          go_wp2_with fail
          exact ⟨⟨ii + 1, Aa, ca', M2 ++ [((ix : Int), (iy : Int))], by go_num, by omega, by rw [hlen]; exact HNEW, Lib.hid (by rw [hlen]; omega), Lib.hid (by rw [hlen]; omega)⟩, by simp [intOf]; omega⟩
        · go_wp2_with fail
          go_quiet (first | (go_at_call 15; exact HAR.out _ _))
          have HB2 := Lib.hid (HB.out.low (below_drewN' (Below.refl _ _) nq))
          have HN2 : Hid (n ≤ 100 ∧ M2.length ≤ 100) := Lib.hid ⟨by omega, by have := HM2.out; omega⟩
          clear r2 HB
          generalize wr.drewN nq = w9 at *
          go_upto_region 29 with fail
          have hB := HB2.out
          obtain ⟨C, hC⟩ : ∃ C : Array Value, C = #[.string nm, .slice A3 n c3, .slice A2 M2.length c2] := ⟨_, rfl⟩
          have ho := hB.out
          rw [← hC] at ho
          have hR0 := hB.res
          have G1 : Hid ((Tryd.prog.info? 50).map (·.size) = some C.size) := Lib.hid (by rw [hC]; exact info50)
          have G2 : Hid (lifeZ.size = C.size) := Lib.hid (by rw [hC]; rfl)
          have G3 : Hid (C.all (·.oneCell') = true) := Lib.hid (by rw [hC]; simp [Value.oneCell'])
          have hrv := Reads.of_own (own_setRowL hB.mv (show w.heap.size + 1 < w.heap.size + 3 by omega) C)
          have hb9 := below_setRow hB.bel (show w.heap.size ≤ w.heap.size + 1 by omega) C
          have HX := Lib.hid (And.intro hrv hb9)
          have HCE := Lib.hid hC
          clear hrv hb9 hC hB
          go_wp2_with (first
            | (with_reducible refine wpList_load_row rfl 50 _ rfl (w.heap.size + 2) rfl 50 C (0, 0) _ ho.heap_ Tryd.underlying50 rfl G1.out ?_)
            | (with_reducible refine wpList_store_row rfl 50 _ _ rfl (w.heap.size + 1) C rfl rfl 50 lifeZ hR0.heap_ G1.out G2.out G3.out ?_))
          refine ret_row (g := w.heap.size + 1) (cs := C) (t := 50) Tryd.results34 ?_ (hR0.row C) rfl Tryd.underlying50 G1.out ?_ ?_
          · rfl
          · rfl
          · exact ⟨_, _, _, _, _, _, _, M2, by rw [HCE.out], HX.out.1, by have := HN2.out; omega, by have := HN2.out; omega, HX.out.2⟩
end Go.Proofs.YtiajlglnefiemaaDoor
