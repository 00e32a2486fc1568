/- LinkProgress: the walk (function 6). No condition. -/
import Derived.Test.YtbekkndkdfmijaaKx
import Derived.Deep.CutBlock
import Derived.BigQuiet
set_option linter.unusedSimpArgs false
set_option linter.unusedVariables false
namespace Go.Proofs.Ytbekkndkdfmijaa
open Go.RowKit Go

set_option maxRecDepth 100000 in
theorem eql_nil24p (W : World) (A : Option Addr) (n c : Nat) : (binOp .eql 24 (.slice A n c) (.slice none 0 0)).run Try.prog W = .ok (.bool A.isNone) W := by
  exact Lib.run_eql_slice_nil W 24 35 A n c 0 0 Try.underlying24
set_option maxRecDepth 100000 in
set_option maxHeartbeats 16000000 in
theorem linkProgress_any (win kz one two lost : Int) (w : World) (hw : I64 win) (hk : (Lit.int .u64 kz).wf = true) (h1 : I64 one) (h2 : I64 two) (h3 : I64 lost) :
    Calls Try.prog 6 #[.int .i64 win, .int .u64 kz, .int .i64 one, .int .i64 two, .int .i64 lost] w fun e W' => e = .returned (.bool true) ∧ Below w.heap.size w W' := by
  have bk := bounds_u64 hk
  obtain ⟨key, rfl⟩ := Int.eq_ofNat_of_zero_le bk.1
  have hkey : key < 18446744073709551616 := by omega
  clear hk bk
  go_enter Try.func6, Try.ntmps6
  go_wp2_with fail
  refine (ends_any win key w hw).mono ?_
  rintro - w1 ⟨eb, g, h, col, rfl, HS⟩
  have hnil := eql_nil24p w1 (some ⟨eb, 0, none⟩) 2 2
  simp only [Option.isNone_some] at hnil
  go_wp2_with fail
  refine (around_any one 31 w1 h1.1 h1.2 (by omega) (by omega)).mono ?_
  rintro - w2 ⟨rfl, rfl⟩
  obtain ⟨p1, p2⟩ := around_lt one 31 (by omega)
  obtain ⟨m0, hm0⟩ := Int.eq_ofNat_of_zero_le p1
  rw [hm0] at p2 ⊢
  clear hm0 p1
  go_wp2_with fail
  refine (around_any two 31 w2 h2.1 h2.2 (by omega) (by omega)).mono ?_
  rintro - w3 ⟨rfl, rfl⟩
  obtain ⟨p3, p4⟩ := around_lt two 31 (by omega)
  obtain ⟨m1, hm1⟩ := Int.eq_ofNat_of_zero_le p3
  rw [hm1] at p4 ⊢
  clear hm1 p3
  obtain ⟨M, hM⟩ : ∃ M : Nat → Nat, M = fun k => if k = 0 then m0 else m1 := ⟨_, rfl⟩
  have hMle : ∀ j, j < 2 → M j ≤ 31 := fun j hj => by rw [hM]; dsimp only; split <;> omega
  have e0 : M 0 = m0 := by rw [hM]; rfl
  have e1 : M 1 = m1 := by rw [hM]; rfl
  rw [← e0, ← e1]
  have HMle := Lib.hid hMle
  clear hMle hM e0 e1 p2 p4 hnil
  go_wp2_with fail
  have hinit : Pg w (recol col w3.heap.size 2) (w3.alloc (.cells #[.int .i64 (M 0 : Int), .int .i64 (M 1 : Int)] 3)) eb g h w3.heap.size none 0 (EN win key (fun _ => 0)) M (fun _ => 0) := by
    have b1 : Below w3.heap.size w3 (w3.alloc (.cells #[.int .i64 (M 0 : Int), .int .i64 (M 1 : Int)] 3)) := (Below.refl _ w3).alloc (Nat.le_refl _) _
    exact ⟨HS.out.other (Chg.of_ok b1 2) (by omega) (by omega), Blk.new _ _ _, recol_new (Nat.le_refl _), HS.out.bel.size, fun b hb => by cases hb⟩
  generalize w3.alloc (.cells #[.int .i64 (M 0 : Int), .int .i64 (M 1 : Int)] 3) = w4 at *
  generalize recol col w3.heap.size 2 = col4 at *
  generalize w3.heap.size = mb at *
  have HI := Lib.hid hinit
  clear hinit HS
  go_loopw [13] (fun kv wr => ∃ (k : Nat) (col : Nat → Nat) (c : Nat → Nat), k ≤ 2 ∧ kv = .int .i64 (k : Int) ∧ Hid (Pg w col wr eb g h mb none 0 (EN win key c) M (fun _ => 0)) ∧ Hid (∀ j, j < 2 → c j = if j < k then M j else 0)) (fun kv _ => 2 - (intOf kv).toNat)
  case atStart => exact ⟨0, _, _, by omega, rfl, HI, Lib.hid fun j _ => by rw [if_neg (by omega)]⟩
  case round =>
    clear HI
    obtain ⟨k, col, c, hk, rfl, HO, HC⟩ := hrel
    by_cases hk2 : k < 2
    · have hki : (k : Int) < 2 := by omega
      have hki0 : (0 : Int) ≤ (k : Int) := by omega
      have hc0 : upd c k 0 = c := by
        have := HC.out k hk2
        rw [if_neg (by omega)] at this
        rw [← this, upd_self]
      have HC0 := Lib.hid hc0
      clear hc0
      go_wp2_with fail
      go_loopw [14] (fun iv wr => ∃ (i : Nat) (col : Nat → Nat), i ≤ M k ∧ iv = .int .i64 (i : Int) ∧ Hid (Pg w col wr eb g h mb none 0 (EN win key (upd c k i)) M (fun _ => 0))) (fun iv _ => M k - (intOf iv).toNat)
      case atStart => exact ⟨0, _, by omega, rfl, by rw [HC0.out]; exact HO⟩
      case round =>
        clear HO
        obtain ⟨i, col, hi, rfl, HO⟩ := hrel
        have hm31 := HMle.out k hk2
        have cm := HO.out.many hk2
        by_cases hil : i < M k
        · have hii : (i : Int) < (M k : Int) := by omega
          have hb8 : IntKind.u8.wrap (i : Int) = (i : Int) := by rw [IntKind.wrap_u8]; omega
          have b1 : Below wr.heap.size wr (wr.alloc (.cells #[.int .u8 (i : Int)] 5)) := (Below.refl _ wr).alloc (Nat.le_refl _) _
          have hO1 := HO.out.ok b1
          have hp1 := one_per (Blk.new wr 5 #[.int .u8 (i : Int)]) (show i < 256 by omega)
          have ce0 := HO.out.sys.cell hk2
          have ce := hO1.sys.cell hk2
          have O1 := Lib.hid hO1
          have P1 := Lib.hid hp1
          clear hO1 hp1 b1
          go_wp2_with fail
          obtain ⟨q, HE, hc⟩ := O1.out.sys.ends k hk2
          have hwl : (EN win key (upd c k i) k).wait.length = i := by
            unfold EN
            rw [upd_at]
            exact msgs_len i
          refine (send_any (g k) (h k) 0 q _ (some ⟨wr.heap.size, 0, none⟩) 1 1 [byt i] _ HE (P1.out _ (Ok.refl _)) (by omega) (by omega)).mono ?_
          rintro - w6 ⟨q', rfl, H6, hq6, F6⟩
          obtain ⟨hH6, hC6⟩ := EndOk.step HE hc O1.out.sys.bel.size H6 F6 hq6
          have hO6 := O1.out.end_ hk2 hH6 hC6 (Nat.le_refl 0)
          rw [EN_send] at hO6
          have HO6 := Lib.hid hO6
          clear hO6 hH6 hC6 H6 hq6 F6 HE hc ce hwl ce0 cm
          go_wp2_with fail
          exact ⟨⟨i + 1, _, by omega, by go_num, HO6⟩, by simp [intOf]; omega⟩
        · obtain rfl : i = M k := by omega
          have hii : ¬ (M k : Int) < (M k : Int) := by omega
          go_wp2_with fail
          exact ⟨⟨k + 1, _, _, by omega, by go_num, HO, Lib.hid fun j hj => by
            by_cases e : j = k
            · subst e
              rw [upd_at, if_pos (by omega)]
            · rw [upd_ne _ _ e, HC.out j hj]
              by_cases e2 : j < k
              · rw [if_pos e2, if_pos (by omega)]
              · rw [if_neg e2, if_neg (by omega)]⟩, by simp [intOf]; omega⟩
    · obtain rfl : k = 2 := by omega
      have hki : ¬ ((2 : Nat) : Int) < 2 := by omega
      obtain ⟨La, hLa⟩ : ∃ La : Nat, around lost 5 = (La : Int) := Int.eq_ofNat_of_zero_le (around_lt lost 5 (by omega)).1
      have hL5 : La < 5 := by have := (around_lt lost 5 (by omega)).2; omega
      obtain ⟨hI, hZ⟩ := EN_inv win key M
      have hO := HO.out
      have hce : EN win key c 0 = EN win key M 0 ∧ EN win key c 1 = EN win key M 1 := by
        have c0 := HC.out 0 (by omega)
        have c1 := HC.out 1 (by omega)
        rw [if_pos (by omega)] at c0 c1
        unfold EN
        rw [c0, c1]
        exact ⟨rfl, rfl⟩
      have hO' : Pg w col wr eb g h mb none 0 (EN win key M) M (fun _ => 0) := ⟨⟨hO.sys.bel, hO.sys.arr, hO.sys.arrc, fun k hk => by
        have := hO.sys.ends k hk
        match k, hk with
        | 0, _ => rw [hce.1] at this; exact this
        | 1, _ => rw [hce.2] at this; exact this⟩, hO.mblk, hO.mcol, hO.mlow, hO.gblk⟩
      generalize EN win key M = E0 at *
      have HO0 := Lib.hid hO'
      have HI0 := Lib.hid (And.intro hI hZ)
      have HLA := Lib.hid hLa
      clear hO hO' hI hZ hce HO HC hLa
      go_wp2_with fail
      go_loopw [15] (fun iv wr => ∃ (i : Nat) (col : Nat → Nat) (E : Nat → EndV), i ≤ La ∧ iv = .int .i64 (i : Int) ∧ Hid (Pg w col wr eb g h mb none 0 E M (fun _ => 0)) ∧ Hid (PInv key M E ∧ ∀ k, k < 2 → (E k).ack = 0 ∧ (E k).got = 0)) (fun iv _ => La - (intOf iv).toNat)
      case atStart => exact ⟨0, _, _, by omega, rfl, HO0, HI0⟩
      case round =>
        clear HO0 HI0
        obtain ⟨i, col, E, hi, rfl, HO, HI⟩ := hrel
        go_wp2_with fail
        refine (around_any lost 5 wr h3.1 h3.2 (by omega) (by omega)).mono ?_
        rintro - w5 ⟨rfl, rfl⟩
        rw [HLA.out]
        by_cases hil : i < La
        · have hii : (i : Int) < (La : Int) := by omega
          obtain ⟨k, hk⟩ : ∃ k : Nat, (i : Int) % 2 = (k : Int) := ⟨i % 2, by omega⟩
          have hk2 : k < 2 := by omega
          have hki : (k : Int) < 2 := by omega
          have hki0 : (0 : Int) ≤ (k : Int) := by omega
          have ce := HO.out.sys.cell hk2
          go_wp2_with fail
          refine (HO.out.out (HI.out.1.ends k hk2) hk2 HMle.out hkey).mono ?_
          rintro - w6 ⟨A6, d6, rfl, HO6, -⟩
          clear ce hk
          go_wp2_with fail
          exact ⟨⟨i + 1, _, _, by omega, by go_num, HO6, Lib.hid (HI.out.1.lost HI.out.2 hk2)⟩, by simp [intOf]; omega⟩
        · obtain rfl : i = La := by omega
          have hii : ¬ (i : Int) < (i : Int) := by omega
          go_wp2_with fail
          have hO7 := HO.out.new.gfix (G' := fun j => (E j).got) fun j hj => (HI.out.2 j hj).2.symm
          generalize w5.alloc (.cells #[.int .i64 0, .int .i64 0] 3) = w7 at *
          generalize recol col w5.heap.size 3 = col7 at *
          generalize w5.heap.size = gb at *
          obtain ⟨mx, hmx⟩ : ∃ mx : Nat, mx = max (M 0) (M 1) := ⟨_, rfl⟩
          have hmax : ∀ ts t W, (Builtin.max_ ts t #[.int .i64 (M 0 : Int), .int .i64 (M 1 : Int)]).run Try.prog W = .ok (.int .i64 (mx : Int)) W := fun ts t W => by
            rw [run_max_int2, hmx]
            congr 2
            split <;> omega
          have hm31 : mx ≤ 31 := by have := HMle.out 0 (by omega); have := HMle.out 1 (by omega); omega
          have HMX := Lib.hid hmx
          have HO7 := Lib.hid hO7
          have HP7 := Lib.hid (And.intro HI.out.1 (rnd_zero (M := M) (E := E)))
          clear hO7 hmx HO HI
          go_loopw [17] (fun rv wr => ∃ (r : Nat) (col : Nat → Nat) (E : Nat → EndV), r ≤ mx + 1 ∧ rv = .int .i64 (r : Int) ∧ Hid (Pg w col wr eb g h mb (some gb) (r * 32) E M (fun j => (E j).got)) ∧ Hid (PInv key M E ∧ Rnd M r 0 E)) (fun rv _ => mx + 1 - (intOf rv).toNat)
          case atStart => exact ⟨0, _, _, by omega, rfl, HO7, HP7⟩
          case round =>
            clear HO7 HP7
            obtain ⟨r, col, E, hr, rfl, HO, HP⟩ := hrel
            have cm0 := HO.out.many (k := 0) (by omega)
            have cm1 := HO.out.many (k := 1) (by omega)
            by_cases hrm : r ≤ mx
            · have hrd : decide (r ≤ mx) = true := decide_eq_true hrm
              have hri : (r : Int) ≤ (mx : Int) := by omega
              go_wp2_with fail
              go_quiet (fail)
              have ok8 : Ok wr (wr.drewN nq) := Ok.drewN (Ok.refl wr) nq
              have HO8 := Lib.hid (HO.out.ok ok8)
              generalize wr.drewN nq = w8 at *
              clear cm0 cm1 ok8 HO
              go_wp2_with fail
              go_loopw [18] (fun kv wr => ∃ (k : Nat) (col : Nat → Nat) (E : Nat → EndV), k ≤ 2 ∧ kv = .int .i64 (k : Int) ∧ Hid (Pg w col wr eb g h mb (some gb) (r * 32 + k * 16) E M (fun j => (E j).got)) ∧ Hid (PInv key M E ∧ Rnd M r k E)) (fun kv _ => 2 - (intOf kv).toNat)
              case atStart => exact ⟨0, _, _, by omega, rfl, HO8, HP⟩
              case round =>
                clear HO8 HP
                obtain ⟨k, col, E, hk, rfl, HO, HP⟩ := hrel
                by_cases hk2 : k < 2
                · have hki : (k : Int) < 2 := by omega
                  have hki0 : (0 : Int) ≤ (k : Int) := by omega
                  have ce := HO.out.sys.cell hk2
                  go_wp2_with fail
                  refine (HO.out.out (HP.out.1.ends k hk2) hk2 HMle.out hkey).mono ?_
                  rintro - w9 ⟨A6, d6, rfl, HO6, HR6⟩
                  have hO6 := HO6.out.gfix (G' := fun j => (upd E k { E k with owe := false } j).got) fun j _ => (upd_got (E := E) (k := k) (E' := { E k with owe := false }) rfl j).symm
                  have HH6 := Lib.hid (half_start HP.out.1 hk2)
                  have HO9 := Lib.hid hO6
                  have hlF : (outF (E k)).length ≤ 16 := outF_len (HP.out.1.ends k hk2).win
                  obtain ⟨F, hF⟩ : ∃ F, F = outF (E k) := ⟨_, rfl⟩
                  rw [← hF] at HR6 hlF ⊢
                  obtain ⟨t, htt⟩ : ∃ t, t = 1 - k := ⟨_, rfl⟩
                  have ht2 : t < 2 := by omega
                  have hti : (t : Int) < 2 := by omega
                  have hti0 : (0 : Int) ≤ (t : Int) := by omega
                  have ht1 : (1 : Int) - (k : Int) = (t : Int) := by omega
                  have ht1w : IntKind.i64.wrap (t : Int) = (t : Int) := by rw [IntKind.wrap_i64]; omega
                  have HT := Lib.hid htt
                  have HF := Lib.hid hF
                  clear htt hF hO6 HO6 HO ce
                  go_wp2_with fail
                  go_loopw [20] (fun iv wr => ∃ (i : Nat) (col : Nat → Nat) (E' : Nat → EndV), i ≤ F.length ∧ iv = .int .i64 (i : Int) ∧ Hid (Pg w col wr eb g h mb (some gb) (r * 32 + k * 16 + i) E' M (fun j => (E' j).got)) ∧ Hid (Half key M k E E' i) ∧ Hid (RowAt w col wr k (.slice A6 F.length d6) F)) (fun iv _ => F.length - (intOf iv).toNat)
                  case atStart => exact ⟨0, _, _, by omega, rfl, HO9, HH6, HR6⟩
                  case round =>
                    clear HO9 HH6 HR6
                    obtain ⟨i, col, E', hi, rfl, HO, HH, HR⟩ := hrel
                    by_cases hil : i < F.length
                    · have hii : (i : Int) < (F.length : Int) := by omega
                      have hii0 : (0 : Int) ≤ (i : Int) := by omega
                      obtain ⟨b6, d6', hv6, -, Ap, np, dp, M6⟩ := HR.out.get hil
                      injection hv6 with e1 e2 e3
                      subst e1
                      subst e3
                      obtain ⟨x, E2, hIF, hHn, hEI, hg, hx⟩ := half_step HH.out HP.out.1 hk2 HMle.out (by rw [← HF.out]; exact hil)
                      rw [← HF.out] at hIF
                      rw [← HT.out] at hIF hHn hEI hg hx
                      have Eo := HH.out.ends t ht2
                      have hM1 := HMle.out k hk2
                      have hM2 := HMle.out t ht2
                      have hM3 := HMle.out (1 - t) (by omega)
                      have hgot : E2.got ≤ M k := by have := hEI.got; rw [msgs_len] at this; exact this
                      have hnp : np ≤ 100000 := by
                        have h1 := M6.byt.1
                        have hp : PkOk key (msgs (M k)) 31 (F[i]?.getD []) := by
                          rw [HF.out]
                          have h2 := (HP.out.1.ends k hk2).packets (msgs_le (M k)) ((outF (E k))[i]?.getD []) (by rw [List.getElem?_eq_getElem (by rw [← HF.out]; exact hil)]; exact List.getElem_mem _)
                          exact h2.got (by have h3 := (HP.out.1.ends k hk2).got; rw [msgs_len] at h3; have h4 := HMle.out (1 - k) (by omega); omega)
                        have h3 := hp.len (by omega) (by rw [msgs_len]; omega)
                        omega
                      have hc6 := HR.out.color rfl
                      have hkt : k ≠ t := by have := HT.out; omega
                      have hS : ∀ W, Ok wr W → W.cell? ⟨eb, t, none⟩ = some (.pointer (some ⟨g t, 0, none⟩)) ∧ W.cell? ⟨b6, i, none⟩ = some (.slice Ap np dp) := fun W hW => ⟨(HO.out.ok hW).sys.cell ht2, (M6.ok hW).cell⟩
                      have hin : ∀ W, Ok wr W → Calls Try.prog 19 #[.pointer (some ⟨g t, 0, none⟩), .slice Ap np dp] W fun e W' => ∃ A' d', e = .returned (.tuple #[.slice A' x.length d', .int .i64 0]) ∧ Hid (Pg w (recol col W.heap.size t) W' eb g h mb (some gb) (r * 32 + k * 16 + i + 1) (upd E' t E2) M (fun j => (E' j).got)) ∧ Hid (RowAt w (recol col W.heap.size t) W' t (.slice A' x.length d') x) ∧ Hid (RowAt w (recol col W.heap.size t) W' k (.slice (some ⟨b6, 0, none⟩) F.length d6) F) ∧ Hid (∀ W2, Ok W' W2 → W2.cell? ⟨eb, t, none⟩ = some (.pointer (some ⟨g t, 0, none⟩)) ∧ W2.cell? ⟨b6, i, none⟩ = some (.slice Ap np dp)) := fun W hW => ((HO.out.ok hW).in_ Eo (by rw [msgs_len]; omega) (by rw [msgs_len]; omega) ht2 hkey hIF (M6.ok hW).byt.reads hnp M6.le (by omega)).mono fun e W' h1 => by
                        obtain ⟨A', d', he, hO, hR, hC⟩ := h1
                        refine ⟨A', d', he, hO, hR, Lib.hid ((HR.out.ok hW).other hC hkt), Lib.hid fun W2 hW2 => ⟨(hO.out.ok hW2).sys.cell ht2, ?_⟩⟩
                        have h2 := hC.cell (j := i) (M6.ok hW).lt (by rw [hc6]; exact hkt)
                        rw [(M6.ok hW).cell] at h2
                        exact (Below.cell hW2 (World.block_lt_of_cell? _ _ h2)).trans h2
                      have HS := Lib.hid hS
                      have HIN := Lib.hid hin
                      have HG := Lib.hid hg
                      have HX := Lib.hid hx
                      have HHN := Lib.hid hHn
                      have HGT := Lib.hid (And.intro hgot hM1)
                      have hxl : x.length ≤ 31 := by omega
                      clear hin hS hg hx hHn hIF hEI Eo hM1 hM2 hM3 hgot hnp hc6 M6 e2
                      have okw := Ok.refl wr
                      have S0 := HS.out wr okw
                      have S1 := HS.out wr.drew okw.drew
                      go_wp2_with fail
                      go_region_held3 (fun W => W.cell? ⟨eb, t, none⟩ = some (.pointer (some ⟨g t, 0, none⟩)) ∧ W.cell? ⟨b6, i, none⟩ = some (.slice Ap np dp))
                        (first | (refine HS.out _ ?_; (repeat (first | with_reducible assumption | with_reducible exact Ok.refl _ | with_reducible apply Ok.drew | with_reducible apply Ok.alloc | with_reducible apply Ok.drewN)); done) | (refine HS7.out _ ?_; (repeat (first | with_reducible assumption | with_reducible exact Ok.refl _ | with_reducible apply Ok.drew | with_reducible apply Ok.alloc | with_reducible apply Ok.drewN)); done))
                        (first
                          | (go_at_call 19; (refine (HIN.out _ ?_).mono ?_); (focus ((repeat (first | with_reducible assumption | with_reducible exact Ok.refl _ | with_reducible apply Ok.drew | with_reducible apply Ok.alloc | with_reducible apply Ok.drewN)); done)); (rintro E7 w7 ⟨A7, d7, rfl, HO7, HR7, HRF, HS7⟩); (have ok77 := Ok.refl w7)))
                      have hO7 := HO7.out.gfix (G' := upd (fun j => (E' j).got) t ((E' t).got + 0)) fun j _ => by rw [Nat.add_zero]; exact (congrFun (upd_self (fun j => (E' j).got) t) j).symm
                      have HO70 := Lib.hid hO7
                      clear hO7 HO7 S0 S1 okw ok77 HS7 HR HO
                      go_wp2_with fail
                      go_loopw [23] (fun jv wr => ∃ (j : Nat) (col : Nat → Nat), j ≤ x.length ∧ jv = .int .i64 (j : Int) ∧ Hid (Pg w col wr eb g h mb (some gb) (r * 32 + k * 16 + i + 1) (upd E' t E2) M (upd (fun j => (E' j).got) t ((E' t).got + j))) ∧ Hid (RowAt w col wr t (.slice A7 x.length d7) x) ∧ Hid (RowAt w col wr k (.slice (some ⟨b6, 0, none⟩) F.length d6) F)) (fun jv _ => x.length - (intOf jv).toNat)
                      case atStart => exact ⟨0, _, by omega, rfl, HO70, HR7, HRF⟩
                      case round =>
                        clear HO70 HR7 HRF
                        obtain ⟨j, col, hj, rfl, HO, HR, HRF⟩ := hrel
                        by_cases hjl : j < x.length
                        · have hji : (j : Int) < (x.length : Int) := by omega
                          have hji0 : (0 : Int) ≤ (j : Int) := by omega
                          obtain ⟨gg, hgg⟩ : ∃ gg, gg = (E' t).got + j := ⟨_, rfl⟩
                          have hO := HO.out
                          rw [← hgg] at hO
                          obtain ⟨bx, dx, hvx, -, Ax, nx, cx, Mx⟩ := HR.out.get hjl
                          injection hvx with e1 e2 e3
                          subst e1
                          subst e3
                          rw [HX.out j hjl, ← hgg] at Mx
                          have hg31 : gg ≤ 31 := by have h1 := HGT.out; have h2 := HG.out; omega
                          obtain ⟨ax, rfl, rfl, hcx⟩ := msg_one Mx (by omega)
                          have cx1 := Mx.cell
                          have cx2 := hcx wr (Ok.refl _)
                          have cg := hO.gots ht2
                          rw [upd_at] at cg
                          have hcn : (1 : Int) ≤ (cx : Int) := by have := Mx.le; omega
                          have hw8 : IntKind.i64.wrap (gg : Int) = (gg : Int) := by rw [IntKind.wrap_i64]; omega
                          have hw9 : IntKind.i64.wrap ((gg : Int) + 1) = (gg : Int) + 1 := by rw [IntKind.wrap_i64]; omega
                          have HOg := Lib.hid hO
                          have HGG := Lib.hid hgg
                          clear hO hgg Mx hcx e2
                          go_wp2_with fail
                          go_quiet (fail)
                          have ok9 : Ok wr (wr.drewN nq) := Ok.drewN (Ok.refl wr) nq
                          have hO9 := HOg.out.ok ok9
                          have c9 := hO9.gots ht2
                          rw [upd_at] at c9
                          have f9 := (hO9.gblk gb rfl).1.frozen t
                          have HO9 := Lib.hid hO9
                          have HR9 := Lib.hid (HR.out.ok ok9)
                          have HRF9 := Lib.hid (HRF.out.ok ok9)
                          generalize wr.drewN nq = w9' at *
                          clear hO9 cx1 cx2 cg ok9
                          go_wp2_with fail
                          have hOn := HO9.out.got ht2 (gg + 1)
                          rw [upd_upd] at hOn
                          have C9 := chg_set (w := w) (col := col) (HO9.out.gblk gb rfl).1 (by decide) (HO9.out.gblk gb rfl).2.2 t (.int .i64 ((gg + 1 : Nat) : Int))
                          rw [(HO9.out.gblk gb rfl).2.1] at C9
                          have hRn := HR9.out.other C9 (by omega)
                          have hRFn := HRF9.out.other C9 (by omega)
                          have eg : gg + 1 = (E' t).got + (j + 1) := by have := HGG.out; omega
                          rw [eg] at hOn hRn hRFn
                          have ez : ((((E' t).got + (j + 1) : Nat) : Int)) = (gg : Int) + 1 := by omega
                          rw [ez] at hOn hRn hRFn
                          exact ⟨⟨j + 1, _, by omega, by go_num, Lib.hid hOn, Lib.hid hRn, Lib.hid hRFn⟩, by simp [intOf]; omega⟩
                        · obtain rfl : j = x.length := by omega
                          have hji : ¬ (x.length : Int) < (x.length : Int) := by omega
                          go_wp2_with fail
                          exact ⟨⟨i + 1, _, upd E' t E2, by omega, by go_num, Lib.hid (HO.out.gfix fun j _ => by
                            unfold upd
                            split
                            · exact HG.out.symm
                            · rfl), HHN, HRF⟩, by simp [intOf]; omega⟩
                    · obtain rfl : i = F.length := by omega
                      have hii : ¬ (F.length : Int) < (F.length : Int) := by omega
                      have hH := HH.out
                      rw [HF.out] at hH
                      have HHE := Lib.hid (And.intro (half_end hH HP.out.1 hk2).1 (rnd_half HP.out.2 HP.out.1 hk2 hH))
                      clear hH
                      go_wp2_with fail
                      exact ⟨⟨k + 1, _, E', by omega, by go_num, Lib.hid (HO.out.mono (by omega)), HHE⟩, by simp [intOf]; omega⟩
                · obtain rfl : k = 2 := by omega
                  have hki : ¬ ((2 : Nat) : Int) < 2 := by omega
                  have HPE := Lib.hid (And.intro HP.out.1 (rnd_next HP.out.2))
                  go_wp2_with fail
                  exact ⟨⟨r + 1, _, E, by omega, by go_num, Lib.hid (HO.out.mono (by omega)), HPE⟩, by simp [intOf]; omega⟩
            · obtain rfl : r = mx + 1 := by omega
              have hrd : decide (mx + 1 ≤ mx) = false := decide_eq_false (by omega)
              have hri : ¬ ((mx + 1 : Nat) : Int) ≤ (mx : Int) := by omega
              go_wp2_with fail
              go_quiet (fail)
              have ok8 : Ok wr (wr.drewN nq) := Ok.drewN (Ok.refl wr) nq
              have HO8 := Lib.hid (HO.out.ok ok8)
              generalize wr.drewN nq = w8 at *
              clear cm0 cm1 ok8 HO
              go_wp2_with fail
              have hR := HP.out.2
              rw [HMX.out] at hR
              obtain ⟨d1, d2, d3, d4⟩ := rnd_done hR HP.out.1
              obtain ⟨q0, HE0, -⟩ := HO8.out.sys.ends 0 (by omega)
              obtain ⟨q1, HE1, -⟩ := HO8.out.sys.ends 1 (by omega)
              have hw0 : ∀ W, Ok w8 W → Calls Try.prog 21 #[.pointer (some ⟨g 0, 0, none⟩)] W fun e W' => e = .returned (.int .i64 0) ∧ W' = W := fun W hW => by
                have h1 := waiting_any _ _ _ _ _ _ (HE0.bel hW)
                rw [d3] at h1
                exact h1
              have hw1 : ∀ W, Ok w8 W → Calls Try.prog 21 #[.pointer (some ⟨g 1, 0, none⟩)] W fun e W' => e = .returned (.int .i64 0) ∧ W' = W := fun W hW => by
                have h1 := waiting_any _ _ _ _ _ _ (HE1.bel hW)
                rw [d4] at h1
                exact h1
              have hlv : ∀ W, Ok w8 W → Calls Try.prog 23 #[] W fun e W' => e = .returned (.bool true) ∧ Ok w8 W' := fun W hW => (lives_any W).mono fun e W' h1 => ⟨h1.1, Ok.step hW h1.2⟩
              have hS : ∀ W, Ok w8 W → (W.cell? ⟨gb, 0, none⟩ = some (.int .i64 (M 1 : Int)) ∧ W.cell? ⟨gb, 1, none⟩ = some (.int .i64 (M 0 : Int))) ∧ (W.cell? ⟨mb, 0, none⟩ = some (.int .i64 (M 0 : Int)) ∧ W.cell? ⟨mb, 1, none⟩ = some (.int .i64 (M 1 : Int))) ∧ W.cell? ⟨eb, 0, none⟩ = some (.pointer (some ⟨g 0, 0, none⟩)) ∧ W.cell? ⟨eb, 1, none⟩ = some (.pointer (some ⟨g 1, 0, none⟩)) := fun W hW => by
                have hOW := HO8.out.ok hW
                have g0 := hOW.gots (k := 0) (by omega)
                have g1 := hOW.gots (k := 1) (by omega)
                rw [d1] at g0
                rw [d2] at g1
                exact ⟨⟨g0, g1⟩, ⟨hOW.many (by omega), hOW.many (by omega)⟩, hOW.sys.cell (by omega), hOW.sys.cell (by omega)⟩
              have HB := Lib.hid HO8.out.sys.bel
              have HS8 := Lib.hid hS
              have HW0 := Lib.hid hw0
              have HW1 := Lib.hid hw1
              have HLV := Lib.hid hlv
              have okw := Ok.refl w8
              have S0 := HS8.out w8 okw
              have S1 := HS8.out w8.drew okw.drew
              clear hS hw0 hw1 hlv HE0 HE1 d1 d2 d3 d4 hR HO8 HP
              go_region_held3 (fun W => (W.cell? ⟨gb, 0, none⟩ = some (.int .i64 (M 1 : Int)) ∧ W.cell? ⟨gb, 1, none⟩ = some (.int .i64 (M 0 : Int))) ∧ (W.cell? ⟨mb, 0, none⟩ = some (.int .i64 (M 0 : Int)) ∧ W.cell? ⟨mb, 1, none⟩ = some (.int .i64 (M 1 : Int))) ∧ W.cell? ⟨eb, 0, none⟩ = some (.pointer (some ⟨g 0, 0, none⟩)) ∧ W.cell? ⟨eb, 1, none⟩ = some (.pointer (some ⟨g 1, 0, none⟩)))
                (first | (refine HS8.out _ ?_; (repeat (first | with_reducible assumption | with_reducible exact Ok.refl _ | with_reducible apply Ok.drew | with_reducible apply Ok.alloc | with_reducible apply Ok.drewN)); done))
                (first
                  | (go_at_call_of 21 (Value.pointer (some ⟨g 0, 0, none⟩)); (refine (HW0.out _ ?_).mono ?_); (focus ((repeat (first | with_reducible assumption | with_reducible exact Ok.refl _ | with_reducible apply Ok.drew | with_reducible apply Ok.alloc | with_reducible apply Ok.drewN)); done)); (rintro E9 w9 ⟨rfl, rfl⟩))
                  | (go_at_call_of 21 (Value.pointer (some ⟨g 1, 0, none⟩)); (refine (HW1.out _ ?_).mono ?_); (focus ((repeat (first | with_reducible assumption | with_reducible exact Ok.refl _ | with_reducible apply Ok.drew | with_reducible apply Ok.alloc | with_reducible apply Ok.drewN)); done)); (rintro E9 w9 ⟨rfl, rfl⟩))
                  | (go_at_call 23; (refine (HLV.out _ ?_).mono ?_); (focus ((repeat (first | with_reducible assumption | with_reducible exact Ok.refl _ | with_reducible apply Ok.drew | with_reducible apply Ok.alloc | with_reducible apply Ok.drewN)); done)); (rintro E9 w10 ⟨rfl, ok10⟩)))
              go_wp2_with fail
              go_ret
              exact ⟨rfl, below_next HB.out ok10⟩
end Go.Proofs.Ytbekkndkdfmijaa
