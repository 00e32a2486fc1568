/- Life cycles: Made. Conditions: the list is short. -/
import Derived.Test.YtiajlglnefiemaaDoorLh
import Derived.Test.YtiajlglnefiemaaDoorHh
import Derived.BigRegion
import Derived.Deep.CutRange
set_option linter.unusedSimpArgs false
set_option linter.unusedVariables false
namespace Go.Proofs.YtiajlglnefiemaaDoor
open Go.RowKit

theorem own_setRowL {w : World} {base size n g : Nat} {e : TypeId} {v : Value} {xs : List Value} (h : w.ownsRow base e size v n xs) (hg : g < base) (cs : Array Value) : (w.setRow g cs).ownsRow base e size v n xs := by
  refine ⟨h.1, ?_⟩
  rcases h.2 with h | ⟨g', cap, cur, h1, h2, h3, h4⟩
  · exact .inl h
  · exact .inr ⟨g', cap, cur, h1, h2, (setRow_other w g g' cs (by omega)).trans h3, h4⟩

theorem info9 : (Tryd.prog.info? 9).map (fun i => (i.zero, i.size, i.bytes)) = some (some (.string ⟨#[]⟩), 1, 16) := by kernel_rfl
theorem info54 : (Tryd.prog.info? 54).map (fun i => (i.zero, i.size, i.bytes)) = some (some (.agg #[.int .i64 0, .int .i64 0]), 2, 16) := by kernel_rfl
theorem cell_two_new (W : World) (a b : Value) (t : TypeId) : ∀ j u, [a, b][j]? = some u → (W.alloc (.cells #[a, b] t)).cell? ((⟨W.heap.size, 0, none⟩ : Addr).add j) = some u := by
  intro j u hu
  have h := (Blk.new W t #[a, b]).at_ (i := j) (v := u) (by simpa using hu)
  have e : (⟨W.heap.size, 0, none⟩ : Addr).add j = ⟨W.heap.size, j, none⟩ := by cases j <;> simp [Addr.add]
  rw [e]
  exact h
/-- the result's variable, before the return -/
abbrev lifeZ : Array Value := #[.string ⟨#[]⟩, .slice none 0 0, .slice none 0 0]
theorem info50 : (Tryd.prog.info? 50).map (·.size) = some 3 := by kernel_rfl
theorem byt97 {k : Nat} (h : k ≤ 5) : bytesV [byt (97 + k)] = [.int .u8 (97 + (k : Int))] := by
  have : k = 0 ∨ k = 1 ∨ k = 2 ∨ k = 3 ∨ k = 4 ∨ k = 5 := by omega
  rcases this with rfl | rfl | rfl | rfl | rfl | rfl <;> rfl
theorem conv97 {k : Nat} (h : k ≤ 5) (W : World) : (convert 45 9 (.slice (some ⟨W.heap.size, 0, none⟩) 1 1)).run Tryd.prog (W.alloc (.cells #[.int .u8 (97 + (k : Int))] 5)) = .ok (.string ⟨#[byt (97 + k)]⟩) (W.alloc (.cells #[.int .u8 (97 + (k : Int))] 5)) := by
  have o := own_new W 5 #[.int .u8 (97 + (k : Int))] W.heap.size (Nat.le_refl _) (by unfold maxLen; simp)
  have e := byt97 h
  refine own_conv (E := [byt (97 + k)]) (base := W.heap.size) ?_ (by simp)
  rw [e]
  simpa using o
set_option maxRecDepth 100000 in
set_option maxHeartbeats 8000000 in
theorem made_life (A : Option Addr) (n c : Nat) (l : List Int) (w : World) (hl : Reads w w.heap.size 1 A n (ints l)) (hI : ∀ x ∈ l, I64 x) (hn : n ≤ maxLen) :
    Calls Tryd.prog 33 #[.slice A n c] w fun E W' => ∃ nm A' n' c' B m d M, E = .returned (lifeV nm A' n' c' B m d) ∧ Reads W' W'.heap.size 2 B m (movsV M) ∧ lifeE n' M = 0 ∧ n' ≤ 6 ∧ Below w.heap.size w W' := by
  have hr := fun (W : World) (i : Nat) (q : Int) (hi : i ≤ 1000000) (hq : I64 q) (hb : Below w.heap.size w W) => rAt_any A n c w.heap.size l i q W (hl.below hb) hI hi hq
  have HR := Lib.hid hr
  clear hr
  have r0 := rAt_lt l 0 6 (by omega)
  have r1 := rAt_lt l 1 10 (by omega)
  obtain ⟨i9, h9, y0, y1, y2⟩ := info_parts info9
  obtain ⟨i54, h54, x0, x1, x2⟩ := info_parts info54
  go_enter Tryd.func33, Tryd.ntmps33
  go_wp2_with fail
  have kb : Below w.heap.size w ((w.alloc (.cells #[.string ⟨#[]⟩, .slice none 0 0, .slice none 0 0] 50)).alloc (.cells #[.string ⟨#[108, 105, 102, 101]⟩, .slice none 0 0, .slice none 0 0] 50)) := ((Below.refl w.heap.size w).alloc (Nat.le_refl _) _).alloc (by simp) _
  have k1 : Blk ((w.alloc (.cells #[.string ⟨#[]⟩, .slice none 0 0, .slice none 0 0] 50)).alloc (.cells #[.string ⟨#[108, 105, 102, 101]⟩, .slice none 0 0, .slice none 0 0] 50)) (w.heap.size + 1) 50 #[.string ⟨#[108, 105, 102, 101]⟩, .slice none 0 0, .slice none 0 0] := Blk.new' (by simp)
  have k0 : Blk ((w.alloc (.cells #[.string ⟨#[]⟩, .slice none 0 0, .slice none 0 0] 50)).alloc (.cells #[.string ⟨#[108, 105, 102, 101]⟩, .slice none 0 0, .slice none 0 0] 50)) w.heap.size 50 lifeZ := (Blk.new w 50 _).alloc _
  refine (HR.out _ 0 6 (by omega) ⟨by omega, by omega⟩ kb).mono ?_
  rintro E w1 ⟨rfl, hw1⟩
  have HSZ : Hid (w1.heap.size = w.heap.size + 2) := Lib.hid (by rw [hw1]; simp)
  rw [← hw1] at kb k0 k1
  clear hw1
  obtain ⟨N, hN⟩ : ∃ N : Nat, 1 + rAt l 0 6 = (N : Int) := ⟨(1 + rAt l 0 6).toNat, by omega⟩
  have hN1 : 1 ≤ N := by omega
  have hN6 : N ≤ 6 := by omega
  generalize rAt l 0 6 = r at *
  obtain rfl : r = (N : Int) - 1 := by omega
  have e1 : (1 : Int) + ((N : Int) - 1) = (N : Int) := by omega
  clear hN r0
  go_wp2_with fail
  have hsz : w1.heap.size = w.heap.size + 2 := HSZ.out
  go_loopw [5] (fun i wr => ∃ k : Nat, k ≤ N ∧ i = .int .i64 (k : Int) ∧ ∃ v xs, Blk wr w.heap.size 50 lifeZ ∧ Blk wr (w.heap.size + 1) 50 #[.string ⟨#[108, 105, 102, 101]⟩, v, .slice none 0 0] ∧ wr.ownsRow (w.heap.size + 2) 9 1 v k xs ∧ Below w.heap.size w wr ∧ w.heap.size + 2 ≤ wr.heap.size) (fun i _ => (N - intOf i).toNat)
  case atStart => exact ⟨0, by omega, rfl, _, _, k0, k1, World.ownsRow_nil _ _ _ _, kb, by omega⟩
  case round =>
    clear k0 k1 kb
    obtain ⟨k, hk, rfl, v, xs, hR0, ho, hv, hb, hz⟩ := hrel
    by_cases hlt : k < N
    · have hji : (k : Int) < (N : Int) := by omega
      have c1 : wr.cell? ⟨w.heap.size + 1, 1, none⟩ = some v := ho.at_ rfl
      have hcv := conv97 (k := k) (by omega) wr
      have hcn := cell_one_new (wr.alloc (.cells #[.int .u8 (97 + (k : Int))] 5)) (.string ⟨#[byt (97 + k)]⟩) 9
      rw [World.size_alloc] at hcn
      go_wp2_with (at_builtin; refine wpList_append_own _ rfl _ _ 47 rfl (w.heap.size + 2) 9 i9 (.string ⟨#[]⟩) 1 16 Tryd.underlying47 h9 y0 y1 y2 rfl (by decide) _ _ _ rfl ((hv.alloc _).alloc _) ⟨wr.heap.size + 1, 0, none⟩ 1 1 [.string ⟨#[byt (97 + k)]⟩] rfl rfl hcn (by simp [Value.oneCell']) (by unfold maxLen; omega) (by omega) (by simp; omega) ?_; intro v3 w3 o3 g3 _; obtain ⟨q3, cap3, rfl⟩ := ownsRow_succ o3; have ho3 := ((ho.alloc (.cells #[.int .u8 (97 + (k : Int))] 5)).alloc (.cells #[.string ⟨#[byt (97 + k)]⟩] 9)).grown g3 (fun e => by have := (hv.lt _ e.symm).1; omega); have c3 : w3.cell? ⟨w.heap.size + 1, 1, none⟩ = some v := ho3.at_ rfl; have f3 := ho3.frozen 1)
      have b3 : Below w.heap.size w w3 := ((hb.alloc hb.size _).alloc (by have := hb.size; simp; omega) _).grown g3 (by have := hb.size; simp; omega) (fun q e => by have := (hv.lt q e).1; omega)
      have hge : w.heap.size ≤ (⟨w.heap.size + 1, 1, none⟩ : Addr).block := by show w.heap.size ≤ w.heap.size + 1; omega
      have hR3 := ((hR0.alloc (.cells #[.int .u8 (97 + (k : Int))] 5)).alloc (.cells #[.string ⟨#[byt (97 + k)]⟩] 9)).grown g3 (fun e => by have := (hv.lt _ e.symm).1; omega)
      have hR4 := hR3.far (p := ⟨w.heap.size + 1, 1, none⟩) (show w.heap.size ≠ w.heap.size + 1 by omega) (.slice (some ⟨q3, 0, none⟩) (k + 1) cap3)
      have b4 := b3.setCell hge (.slice (some ⟨q3, 0, none⟩) (k + 1) cap3)
      have ho4 := ho3.set_ 1 (.slice (some ⟨q3, 0, none⟩) (k + 1) cap3)
      have o4 := ownsRow_setCell_below o3 (a := ⟨w.heap.size + 1, 1, none⟩) (show w.heap.size + 1 < w.heap.size + 2 by omega) (.slice (some ⟨q3, 0, none⟩) (k + 1) cap3)
      go_roundw
      case rel => exact ⟨k + 1, by omega, by go_num, _, _, hR4, ho4, o4, b4, by simp; have := ho3.lt; omega⟩
      case measure => simp [intOf]; omega
    · obtain rfl : k = N := by omega
      have hji : ¬ (k : Int) < (k : Int) := by omega
      obtain ⟨A2, c2, rfl, -, -, -⟩ := own_slice hv
      clear hv
      go_wp2_with fail
      obtain ⟨Q, hQ⟩ : ∃ Q : Nat, rAt l 1 10 = (Q : Int) := ⟨(rAt l 1 10).toNat, by omega⟩
      have hQ10 : Q < 10 := by omega
      go_loopw [6] (fun i wq => ∃ q : Nat, q ≤ Q ∧ i = .int .i64 (q : Int) ∧ ∃ v M, Blk wq w.heap.size 50 lifeZ ∧ Blk wq (w.heap.size + 1) 50 #[.string ⟨#[108, 105, 102, 101]⟩, .slice A2 k c2, v] ∧ wq.ownsRow (w.heap.size + 2) 54 2 v M.length (movsV M) ∧ M.length ≤ q ∧ (∀ a b, (a, b) ∈ M → 0 ≤ a ∧ a < (k : Int) ∧ 0 ≤ b ∧ b < (k : Int)) ∧ Below w.heap.size w wq ∧ w.heap.size + 2 ≤ wq.heap.size) (fun i _ => (Q - intOf i).toNat)
      case atStart => exact ⟨0, by omega, rfl, _, [], hR0, ho, World.ownsRow_nil _ _ _ _, by simp, (fun a b h => by cases h), hb, hz⟩
      case round =>
        clear hR0 ho hb hz
        obtain ⟨q, hq, rfl, v, M, hR0, ho, hv, hMq, hM, hb, hz⟩ := hrel
        have hr1 := HR.out wr 1 10 (by omega) ⟨by omega, by omega⟩ hb
        rw [hQ] at hr1
        have HR1 := Lib.hid hr1
        clear hr1
        by_cases hqQ : q < Q
        · have hqi : (q : Int) < (Q : Int) := by omega
          have hr2 := HR.out wr (2 + q) 1048576 (by omega) ⟨by omega, by omega⟩ hb
          have e2 : ((2 + q : Nat) : Int) = 2 + (q : Int) := by omega
          rw [e2] at hr2
          obtain ⟨K, hK⟩ : ∃ K : Nat, rAt l (2 + q) 1048576 = (K : Int) := ⟨(rAt l (2 + q) 1048576).toNat, by have := rAt_lt l (2 + q) 1048576 (by omega); omega⟩
          have hK2 : K < 1048576 := by have := rAt_lt l (2 + q) 1048576 (by omega); omega
          rw [hK] at hr2
          have HR2 := Lib.hid hr2
          clear hr2 hK e2
          go_wp2_with fail
          refine HR1.out.mono ?_
          rintro E w5 ⟨rfl, rfl⟩
          go_wp2_with fail
          refine HR2.out.mono ?_
          rintro E w6 ⟨rfl, rfl⟩
          go_wp2_with fail
          have hk0 : ¬ k = 0 := by omega
          go_region
          have hx0 : 0 ≤ (K : Int) % (k : Int) := Int.emod_nonneg _ (by omega)
          have hx1 : (K : Int) % (k : Int) < (k : Int) := Int.emod_lt_of_pos _ (by omega)
          have hy0 : 0 ≤ (K : Int) / 8 % (k : Int) := Int.emod_nonneg _ (by omega)
          have hy1 : (K : Int) / 8 % (k : Int) < (k : Int) := Int.emod_lt_of_pos _ (by omega)
          generalize (K : Int) / 8 % (k : Int) = y at *
          generalize (K : Int) % (k : Int) = x at *
          have m1 := (Blk.new w6 54 #[.int .i64 x, .int .i64 y]).drew
          have ho1 := (ho.alloc (.cells #[.int .i64 x, .int .i64 y] 54)).drew
          have hv1 : (w6.alloc (.cells #[.int .i64 x, .int .i64 y] 54)).drew.ownsRow (w.heap.size + 2) 54 2 v M.length (movsV M) := hv.alloc (.cells #[.int .i64 x, .int .i64 y] 54)
          have hvg : v.ownBlock ≠ some w6.heap.size := fun e => by have := (hv.lt _ e).2; omega
          have hb1 := (hb.alloc hb.size (.cells #[.int .i64 x, .int .i64 y] 54)).drew
          have hR1 := (hR0.alloc (.cells #[.int .i64 x, .int .i64 y] 54)).drew
          clear hv ho hR0 hb
          have hgm : w.heap.size + 2 ≤ w6.heap.size := hz
          generalize (w6.alloc (.cells #[.int .i64 x, .int .i64 y] 54)).drew = w7 at *
          generalize w6.heap.size = gm at *
          go_upto_if 51 with fail
          go_cut [] from 51 to 59 (fun wx => ∃ x y, 0 ≤ x ∧ x < (k : Int) ∧ 0 ≤ y ∧ y < (k : Int) ∧ Blk wx gm 54 #[.int .i64 x, .int .i64 y] ∧ Blk wx w.heap.size 50 lifeZ ∧ Blk wx (w.heap.size + 1) 50 #[.string ⟨#[108, 105, 102, 101]⟩, .slice A2 k c2, v] ∧ wx.ownsRow (w.heap.size + 2) 54 2 v M.length (movsV M) ∧ Below w.heap.size w wx)
          case first =>
            have hk0i : (k : Int) ≠ 0 := by omega
            have cm0 : w7.cell? ⟨gm, 0, none⟩ = some (.int .i64 x) := m1.at_ rfl
            have cm1 : w7.cell? ⟨gm, 1, none⟩ = some (.int .i64 y) := m1.at_ rfl
            have fm0 := m1.frozen 0
            have fm1 := m1.frozen 1
            have hu0 : 0 ≤ (q : Int) % (k : Int) := Int.emod_nonneg _ hk0i
            have hu1 : (q : Int) % (k : Int) < (k : Int) := Int.emod_lt_of_pos _ (by omega)
            have hw0 : 0 ≤ ((q : Int) + 1) % (k : Int) := Int.emod_nonneg _ hk0i
            have hw1 : ((q : Int) + 1) % (k : Int) < (k : Int) := Int.emod_lt_of_pos _ (by omega)
            go_wp2_with fail
            · go_region
              have hgo1 : w.heap.size ≤ (⟨gm, 0, none⟩ : Addr).block := by show w.heap.size ≤ gm; omega
              have hgo2 : w.heap.size ≤ (⟨gm, 1, none⟩ : Addr).block := by show w.heap.size ≤ gm; omega
              generalize (q : Int) % (k : Int) = x2 at *
              generalize ((q : Int) + 1) % (k : Int) = y2 at *
              have n1 := ((m1.set_ 0 (.int .i64 x2)).set_ 1 (.int .i64 y2)).drew
              have n2 := ((hR1.far (p := ⟨gm, 0, none⟩) (show w.heap.size ≠ gm by omega) (.int .i64 x2)).far (p := ⟨gm, 1, none⟩) (show w.heap.size ≠ gm by omega) (.int .i64 y2)).drew
              have n3 := ((ho1.far (p := ⟨gm, 0, none⟩) (show w.heap.size + 1 ≠ gm by omega) (.int .i64 x2)).far (p := ⟨gm, 1, none⟩) (show w.heap.size + 1 ≠ gm by omega) (.int .i64 y2)).drew
              have n4 : ((w7.setCell ⟨gm, 0, none⟩ (.int .i64 x2)).setCell ⟨gm, 1, none⟩ (.int .i64 y2)).drew.ownsRow (w.heap.size + 2) 54 2 v M.length (movsV M) := ownsRow_setCell_other (ownsRow_setCell_other hv1 (a := ⟨gm, 0, none⟩) hvg (.int .i64 x2)) (a := ⟨gm, 1, none⟩) hvg (.int .i64 y2)
              have n5 := ((hb1.setCell hgo1 (.int .i64 x2)).setCell hgo2 (.int .i64 y2)).drew
              have NN := Lib.hid (And.intro n1 (And.intro n2 (And.intro n3 (And.intro n4 n5))))
              clear n1 n2 n3 n4 n5
              go_wp2_with fail
              go_meet
              exact ⟨x2, y2, hu0, hu1, hw0, hw1, NN.out.1, NN.out.2.1, NN.out.2.2.1, NN.out.2.2.2.1, NN.out.2.2.2.2⟩
            · go_meet
              exact ⟨x, y, hx0, hx1, hy0, hy1, m1, hR1, ho1, hv1, hb1⟩
          case rest =>
            clear m1 ho1 hv1 hb1 hR1 hx0 hx1 hy0 hy1
            obtain ⟨x, y, hx0, hx1, hy0, hy1, hm, hR, ho, hv, hb⟩ := hcut
            obtain ⟨A3, c3, rfl, -, -, -⟩ := own_slice hv
            have p2 : wc.cell? ⟨w.heap.size + 1, 2, none⟩ = some (.slice A3 M.length c3) := ho.at_ rfl
            go_wp2_with fail
            go_loopw [9, 10] (fun b i wr => ∃ (t : Bool) (j : Nat), j ≤ M.length ∧ b = .bool t ∧ i = .int .i64 (j : Int) ∧ ∃ dq, wr = wc.drewN dq) (fun _ i _ => (M.length - intOf i).toNat)
            case atStart => exact ⟨false, 0, by omega, rfl, rfl, 0, rfl⟩
            case round =>
              obtain ⟨t, j, hj, rfl, rfl, dq, rfl⟩ := hrel
              have p3 : (wc.drewN dq).cell? ⟨w.heap.size + 1, 2, none⟩ = some (.slice A3 M.length c3) := p2
              by_cases hjM : j < M.length
              · have hji : (j : Int) < (M.length : Int) := by omega
                obtain ⟨ad, a, b, rfl, had, hmk, ca, cb⟩ := (Reads.of_own hv).mov_at hjM
                have ca2 : (wc.drewN dq).cell? (ad.add (j * 2)) = some (.int .i64 a) := ca
                have cb2 : (wc.drewN dq).cell? ⟨(ad.add (j * 2)).block, (ad.add (j * 2)).off + 1, none⟩ = some (.int .i64 b) := cb
                have cm0 : wc.cell? ⟨gm, 0, none⟩ = some (.int .i64 x) := hm.at_ rfl
                have cm1 : wc.cell? ⟨gm, 1, none⟩ = some (.int .i64 y) := hm.at_ rfl
                have heq := fun W => eq_pair a b x y W
                cases t
                · go_wp2_with fail
                  go_region
                  go_wp2_with fail
                  go_roundw
                  case rel => exact ⟨_, j + 1, by omega, rfl, by go_num, _, rfl⟩
                  case measure => simp [intOf]; omega
                · go_wp2_with fail
                  go_region
                  go_wp2_with fail
                  go_roundw
                  case rel => exact ⟨_, j + 1, by omega, rfl, by go_num, _, rfl⟩
                  case measure => simp [intOf]; omega
              · obtain rfl : j = M.length := by omega
                have hji : ¬ (M.length : Int) < (M.length : Int) := by omega
                have ho9 := ho.drewN dq
                have hm9 := hm.drewN dq
                have hR9 := hR.drewN dq
                have hb9 := below_drewN hb dq
                have hv9 : (wc.drewN dq).ownsRow (w.heap.size + 2) 54 2 (.slice A3 M.length c3) M.length (movsV M) := hv
                clear ho hm hR hb hv p2
                generalize wc.drewN dq = w9 at *
                cases t
                · have p9 : w9.cell? ⟨w.heap.size + 1, 2, none⟩ = some (.slice A3 M.length c3) := ho9.at_ rfl
                  have cm0 : w9.cell? ⟨gm, 0, none⟩ = some (.int .i64 x) := hm9.at_ rfl
                  have cm1 : w9.cell? ⟨gm, 1, none⟩ = some (.int .i64 y) := hm9.at_ rfl
                  have hwz : w.heap.size + 2 ≤ w9.heap.size := by have := ho9.lt; omega
                  have hM9 : ∀ a b, (a, b) ∈ M ++ [(x, y)] → 0 ≤ a ∧ a < (k : Int) ∧ 0 ≤ b ∧ b < (k : Int) := fun a b hab => by
                    rcases List.mem_append.1 hab with h | h
                    · exact hM a b h
                    · have e := List.mem_singleton.1 h
                      injection e with e1 e2
                      rw [e1, e2]
                      exact ⟨hx0, hx1, hy0, hy1⟩
                  go_wp2_with (at_builtin; refine wpList_append_own _ rfl _ _ 48 rfl (w.heap.size + 2) 54 i54 (.agg #[.int .i64 0, .int .i64 0]) 2 16 Tryd.underlying48 h54 x0 x1 x2 rfl (by decide) _ _ _ rfl (hv9.alloc _) ⟨w9.heap.size, 0, none⟩ 1 1 [.int .i64 x, .int .i64 y] rfl rfl (cell_two_new _ _ _ _) (by simp [Value.oneCell']) (by unfold maxLen; omega) (by omega) (by simp; omega) ?_; intro v3 w3 o3 g3 _; obtain ⟨q3, cap3, rfl⟩ := ownsRow_succ o3; have ho3 := (ho9.alloc (.cells #[.int .i64 x, .int .i64 y] 54)).grown g3 (fun e => by have := (hv9.lt _ e.symm).1; omega); have c3' : w3.cell? ⟨w.heap.size + 1, 2, none⟩ = some (.slice A3 M.length c3) := ho3.at_ rfl; have f3 := ho3.frozen 2)
                  have b3 : Below w.heap.size w w3 := (hb9.alloc hb9.size _).grown g3 (by have := hb9.size; simp; omega) (fun q e => by have := (hv9.lt q e).1; omega)
                  have hR3 := (hR9.alloc (.cells #[.int .i64 x, .int .i64 y] 54)).grown g3 (fun e => by have := (hv9.lt _ e.symm).1; omega)
                  have hge : w.heap.size ≤ (⟨w.heap.size + 1, 2, none⟩ : Addr).block := by show w.heap.size ≤ w.heap.size + 1; omega
                  rw [← movsV_snoc M (x, y)] at o3
                  have l3 : M.length + 1 = (M ++ [(x, y)]).length := by simp
                  rw [l3] at o3
                  have b4 := b3.setCell hge (.slice (some ⟨q3, 0, none⟩) (M.length + 1) cap3)
                  have ho4 := ho3.set_ 2 (.slice (some ⟨q3, 0, none⟩) (M.length + 1) cap3)
                  have hR4 := hR3.far (p := ⟨w.heap.size + 1, 2, none⟩) (show w.heap.size ≠ w.heap.size + 1 by omega) (.slice (some ⟨q3, 0, none⟩) (M.length + 1) cap3)
                  have o4 := ownsRow_setCell_below o3 (a := ⟨w.heap.size + 1, 2, none⟩) (show w.heap.size + 1 < w.heap.size + 2 by omega) (.slice (some ⟨q3, 0, none⟩) (M.length + 1) cap3)
                  go_roundw
                  case rel => exact ⟨q + 1, by omega, by go_num, _, M ++ [(x, y)], hR4, ho4, (by rw [← l3] at o4 ⊢; exact o4), by simp; omega, hM9, b4, by simp; have := ho3.lt; omega⟩
                  case measure => simp [intOf]; omega
                · go_wp2_with fail
                  go_roundw
                  case rel => exact ⟨q + 1, by omega, by go_num, _, M, hR9, ho9, hv9, by omega, hM, hb9, by have := ho9.lt; omega⟩
                  case measure => simp [intOf]; omega
        · obtain rfl : q = Q := by omega
          have hqi : ¬ (q : Int) < (q : Int) := by omega
          obtain ⟨A3, c3, rfl, -, -, -⟩ := own_slice hv
          have hlE : lifeE k M = 0 := by
            unfold lifeE
            rw [if_neg (by omega), if_neg]
            rintro (h0 | hbad)
            · omega
            · obtain ⟨⟨a, b⟩, hp, hb2⟩ := (anyBad_iff _ _).1 hbad
              have := hM a b hp
              unfold badM at hb2
              simp only [Bool.or_eq_true, decide_eq_true_eq] at hb2
              omega
          obtain ⟨C, hC⟩ : ∃ C : Array Value, C = #[.string ⟨#[108, 105, 102, 101]⟩, .slice A2 k c2, .slice A3 M.length c3] := ⟨_, rfl⟩
          rw [← hC] at ho
          have G1 : Hid ((Tryd.prog.info? 50).map (·.size) = some C.size) := Lib.hid (by rw [hC]; exact info50)
          have G2 : Hid (lifeZ.size = C.size) := Lib.hid (by rw [hC]; rfl)
          have G3 : Hid (C.all (·.oneCell') = true) := Lib.hid (by rw [hC]; simp [Value.oneCell'])
          have hrv := Reads.of_own (own_setRowL hv (show w.heap.size < w.heap.size + 2 by omega) C)
          have hb9 := below_setRow hb (Nat.le_refl _) C
          have HX := Lib.hid (And.intro hrv (And.intro hlE hb9))
          have HCE := Lib.hid hC
          clear hrv hlE hb hv hM hb9 hC
          go_wp2_with fail
          refine HR1.out.mono ?_
          rintro E w5 ⟨rfl, rfl⟩
          go_wp2_with (first
            | (with_reducible refine wpList_load_row rfl 50 _ rfl (w.heap.size + 1) rfl 50 C (0, 0) _ ho.heap_ Tryd.underlying50 rfl G1.out ?_)
            | (with_reducible refine wpList_store_row rfl 50 _ _ rfl w.heap.size C rfl rfl 50 lifeZ hR0.heap_ G1.out G2.out G3.out ?_))
          refine ret_row (g := w.heap.size) (cs := C) (t := 50) Tryd.results33 ?_ (hR0.row C) rfl Tryd.underlying50 G1.out ?_ ?_
          · rfl
          · rfl
          · exact ⟨_, _, _, _, _, _, _, M, by rw [HCE.out], HX.out.1, HX.out.2.1, hN6, HX.out.2.2⟩
end Go.Proofs.YtiajlglnefiemaaDoor
